/- Contracts: trees on layers (reference); no condition. -/
import Derived.Test.YtaecaabnjenllaaGreatDoorPb5
import Derived.Test.YtaecaabnjenllaaGreatDoorQa3
namespace Go.Proofs.YtaecaabnjenllaaGreatDoor
set_option linter.unusedSimpArgs false
set_option linter.unusedVariables false
open Go Go.RowKit


def c_spec_l4Lower : XC := (.s (.r [.ex 1 (.box (.t 0)), .ex 2 (.asn (.k .nil) 3 44), .ex 3 (.mv .n)]) (.s (.r [.ex 7 (.fa 0 (.t 1)), .ex 8 (.ld false 1 (.t 7)), .ex 4 (.asn (.t 8) 3 44)]) (.s (.s (.r [.mv 9 4, .ex 10 (.call 82 [(.t 9)]), .ex 11 (.un .not (.t 10)), .mv 12 11, .gf 13 (.fa 1 (.t 1)) 12, .gf 14 (.ld false 1 (.t 13)) 12, .gf 15 (.len false (.t 14)) 12, .gf 16 (.bin .gtr (.t 15) (.i 4)) 12, .ex 17 (.pick (.t 12) .y (.t 16))]) (.cnd (.t 17) (.s (.r [.ex 18 .bsl0, .ex 2 (.asn (.t 18) 3 44), .ex 3 (.mv .n)]) .ret) .skip)) (.s (.s (.r [.ex 5 (.mv (.i 0))]) (.blk 0 (.loop (.s (.s (.r [.mv 19 5, .ex 20 (.fa 1 (.t 1)), .ex 21 (.ld false 1 (.t 20)), .ex 22 (.len false (.t 21)), .ex 23 (.bin .lss (.t 19) (.t 22))]) (.cnd (.t 23) .skip (.exit 0))) (.s (.blk 1 (.s (.r [.ex 6 (.mv .n)]) (.s (.r [.ex 27 (.fa 1 (.t 1)), .ex 28 (.ld false 1 (.t 27)), .mv 29 5, .ex 30 (.ia 1 (.t 28) (.t 29)), .ex 31 (.ld false 1 (.t 30)), .mv 32 4, .ex 33 (.call 81 [(.t 31), (.t 32)]), .mv 26 33, .ex 34 (.ext (.t 26) 0), .ex 35 (.ext (.t 26) 1), .ex 4 (.asn (.t 34) 3 44), .mv 6 35]) (.s (.r [.mv 36 6, .ex 37 (.un .not (.t 36))]) (.cnd (.t 37) (.s (.r [.ex 38 .bsl0, .ex 2 (.asn (.t 38) 3 44), .ex 3 (.mv .n)]) .ret) .skip))))) (.r [.mv 24 5, .ex 25 (.bin .add (.t 24) (.i 1)), .mv 5 25])))))) (.s (.r [.ex 39 .bsl0, .mv 40 4, .ex 41 (.app true 3 40 44 (.t 39) (.t 40)), .ex 2 (.asn (.t 41) 3 44), .ex 3 (.mv .y)]) .ret)))))
theorem c_spec_l4Lower_eq : compF Go.Proofs.Tryz.prog [] 48 = some (c_spec_l4Lower.ac, [(.t 2), (.t 3)], 42) := by kernel_rfl

theorem f_l4Lower (W0 : World) (o : Over) : Fn Go.Proofs.Tryz.prog W0 48 [eOver o] (.c (eEntsO (lower4 o))) [] := by
  refine fnX (c := c_spec_l4Lower) mixed c_spec_l4Lower_eq (by simp) rfl fun hg => ?_
  refine dEr ?_
  repeat (refine c0 (f_spec_TreeOk W0 _) rfl ?_; first | refine dEr ?_ | exact dz)
  refine cP (fun h1 => ?_) (fun h1 => ?_)
  · refine dr ?_
    rw [lower4, if_neg (by simp [h1])]; rfl
  refine dr ?_
  refine cP (fun h2 => ?_) (fun h2 => ?_)
  · refine dr ?_
    rw [lower4, if_neg (by omega)]; rfl
  rw [lower4, if_pos ⟨h1, by omega⟩]
  refine dr ?_
  refine lp2 (fun (k : Nat) (t : List Ent) => [(1, .ptr 16 0), (4, .c (eEnts t)), (5, I k)]) (fun _ _ => [(16, .box [.c (eEnts o.base), .c (eMarkss o.layers), .c (eMarks o.upper)])]) (fun k t => k ≤ o.layers.length ∧ lowerA (o.layers.take k) o.base = some t ∧ tOk t = true) (fun k _ => o.layers.length - k) 0 o.base ⟨by simp, rfl, h1⟩ ?_ ?_
  · refine dr ?_
    trivial
  rintro k t ⟨hk, ha, ht⟩
  refine dr ?_
  refine cP (fun h3 => ?_) (fun h3 => ?_)
  · have hk' : k < o.layers.length := by omega
    have hn : lowerA (o.layers.take (k + 1)) o.base = lOn o.layers[k] t := by
      rw [List.take_succ_eq_append_getElem hk', lowerA_app, ha]
      simp only [lowerA]
      cases lOn o.layers[k] t <;> rfl
    have hc := f_spec_LayerOn W0 o.layers[k] t
    cases hx : lOn o.layers[k] t with
    | none =>
      rw [hx] at hc
      refine dr ?_
      repeat (refine c0 hc rfl ?_; first | refine dr ?_ | exact dz)
      intro hg1
      refine dr ?_
      have : lowerA o.layers o.base = none := by
        have e : o.layers = o.layers.take (k + 1) ++ o.layers.drop (k + 1) := by rw [List.take_append_drop]
        rw [e, lowerA_app, hn, hx]
      rw [this]; rfl
    | some t' =>
      rw [hx] at hc
      refine dr ?_
      repeat (refine c0 hc rfl ?_; first | refine dr ?_ | exact dz)
      intro hg1
      refine dr ?_
      refine ⟨k + 1, t', ⟨by omega, by rw [hn, hx], lOn_tOk hx⟩, by omega, ?_⟩
      refine dr ?_
      trivial
  have hkl : k = o.layers.length := by omega
  rw [hkl, List.take_length] at ha
  have hl := (tOk_at ht).1
  refine dr ?_
  repeat (refine oB (by simp; omega) ?_; first | refine dr ?_ | exact dz)
  rw [ha]; rfl


def c_spec_l4View : XC := (.s (.r [.ex 1 (.box (.t 0)), .ex 2 (.asn (.k .nil) 3 44), .ex 3 (.mv .n)]) (.s (.r [.ex 7 (.ld true 3 (.t 1)), .ex 8 (.call 48 [(.t 7)]), .mv 6 8, .ex 9 (.ext (.t 6) 0), .ex 10 (.ext (.t 6) 1), .ex 4 (.asn (.t 9) 3 44), .mv 5 10]) (.s (.s (.r [.mv 11 5, .ex 12 (.un .not (.t 11))]) (.cnd (.t 12) (.s (.r [.ex 13 .bsl0, .ex 2 (.asn (.t 13) 3 44), .ex 3 (.mv .n)]) .ret) .skip)) (.s (.r [.ex 14 (.fa 2 (.t 1)), .ex 15 (.ld false 1 (.t 14)), .mv 16 4, .ex 17 (.call 81 [(.t 15), (.t 16)]), .ex 18 (.ext (.t 17) 0), .ex 19 (.ext (.t 17) 1), .ex 2 (.asn (.t 18) 3 44), .mv 3 19]) .ret))))
theorem c_spec_l4View_eq : compF Go.Proofs.Tryz.prog [] 46 = some (c_spec_l4View.ac, [(.t 2), (.t 3)], 20) := by kernel_rfl

theorem f_l4View (W0 : World) (o : Over) : Fn Go.Proofs.Tryz.prog W0 46 [eOver o] (.c (eEntsO (view4 o))) [] := by
  refine fnX (c := c_spec_l4View) mixed c_spec_l4View_eq (by simp) rfl fun hg => ?_
  have hc := f_l4Lower W0 o
  cases hx : lower4 o with
  | none =>
    rw [hx] at hc
    refine dr ?_
    repeat (refine c0 hc rfl ?_; first | refine dr ?_ | exact dz)
    intro hg1
    refine dr ?_
    rw [view4, hx]; rfl
  | some t =>
    rw [hx] at hc
    have hv : view4 o = lOn o.upper t := by rw [view4, hx]
    have hc2 := f_spec_LayerOn W0 o.upper t
    rw [hv]
    cases hy : lOn o.upper t with
    | none =>
      rw [hy] at hc2
      refine dr ?_
      repeat (refine c0 hc rfl ?_; first | refine dr ?_ | exact dz)
      intro hg1
      refine dr ?_
      repeat (refine c0 hc2 rfl ?_; first | refine dr ?_ | exact dz)
      intro hg2
      refine dr ?_
      rfl
    | some x =>
      rw [hy] at hc2
      refine dr ?_
      repeat (refine c0 hc rfl ?_; first | refine dr ?_ | exact dz)
      intro hg1
      refine dr ?_
      repeat (refine c0 hc2 rfl ?_; first | refine dr ?_ | exact dz)
      intro hg2
      refine dr ?_
      rfl


def c_spec_OverOk : XC := (.s (.r [.ex 1 (.box (.t 0)), .ex 2 (.mv .n)]) (.s (.r [.ex 8 (.ld true 3 (.t 1)), .ex 9 (.call 48 [(.t 8)]), .mv 7 9, .ex 10 (.ext (.t 7) 0), .ex 11 (.ext (.t 7) 1), .ex 3 (.asn (.t 10) 3 44), .mv 4 11]) (.s (.r [.ex 13 (.ld true 3 (.t 1)), .ex 14 (.call 46 [(.t 13)]), .mv 12 14, .ex 15 (.ext (.t 12) 0), .ex 16 (.ext (.t 12) 1), .ex 5 (.asn (.t 15) 3 44), .mv 6 16]) (.s (.d [.mv 17 4, .mv 18 17, .gt 19 (.mv (.t 6)) 18, .ex 20 (.pick (.t 18) (.t 19) .n), .mv 21 20, .gt 22 (.fa 2 (.t 1)) 21, .gt 23 (.ld false 1 (.t 22)) 21, .gt 24 (.mv (.t 3)) 21, .gt 25 (.mv (.t 5)) 21, .gt 26 (.call 66 [(.t 24), (.t 25)]) 21, .gt 27 (.call 65 [(.t 23), (.t 26)]) 21, .ex 28 (.pick (.t 21) (.t 27) .n), .mv 2 28]) .ret))))
theorem c_spec_OverOk_eq : compF Go.Proofs.Tryz.prog [] 28 = some (c_spec_OverOk.ac, [(.t 2)], 29) := by kernel_rfl

theorem f_spec_OverOk (W0 : World) (o : Over) : Fn Go.Proofs.Tryz.prog W0 28 [eOver o] (.c (CB (oOk o))) [] := by
  refine fnX (c := c_spec_OverOk) mixed c_spec_OverOk_eq (by simp) rfl fun hg => ?_
  have hc := f_l4Lower W0 o
  have hc2 := f_l4View W0 o
  cases hx : lower4 o with
  | none =>
    have hv : view4 o = none := by rw [view4, hx]
    rw [hx] at hc
    rw [hv] at hc2
    refine dr ?_
    repeat (refine c0 hc rfl ?_; first | refine dr ?_ | exact dz)
    intro hg1
    refine dr ?_
    repeat (refine c0 hc2 rfl ?_; first | refine dr ?_ | exact dz)
    intro hg2
    refine dr ?_
    rw [oOk, hx]
  | some t =>
    rw [hx] at hc
    cases hy : view4 o with
    | none =>
      rw [hy] at hc2
      refine dr ?_
      repeat (refine c0 hc rfl ?_; first | refine dr ?_ | exact dz)
      intro hg1
      refine dr ?_
      repeat (refine c0 hc2 rfl ?_; first | refine dr ?_ | exact dz)
      intro hg2
      refine dr ?_
      rw [oOk, hx, hy]
    | some x =>
      rw [hy] at hc2
      refine dr ?_
      repeat (refine c0 hc rfl ?_; first | refine dr ?_ | exact dz)
      intro hg1
      refine dr ?_
      repeat (refine c0 hc2 rfl ?_; first | refine dr ?_ | exact dz)
      intro hg2
      refine dr ?_
      repeat ((first | refine c0 (f_l3Diff W0 t x (lower4_tOk hx) (view4_tOk hy)) rfl ?_ | refine c0 (f_spec_LayerSame W0 _ _) rfl ?_); first | refine dr ?_ | exact dz)
      intro hg3
      refine dr ?_
      rw [oOk, hx, hy]


def c_spec_OverView : XC := (.s (.r [.ex 1 (.box (.t 0)), .ex 2 (.asn (.k .nil) 3 44), .ex 3 (.mv .n)]) (.s (.s (.r [.ex 4 (.ld true 3 (.t 1)), .ex 5 (.call 28 [(.t 4)]), .ex 6 (.un .not (.t 5))]) (.cnd (.t 6) (.s (.r [.ex 7 .bsl0, .ex 2 (.asn (.t 7) 3 44), .ex 3 (.mv .n)]) .ret) .skip)) (.s (.r [.ex 8 (.ld true 3 (.t 1)), .ex 9 (.call 46 [(.t 8)]), .ex 10 (.ext (.t 9) 0), .ex 11 (.ext (.t 9) 1), .ex 2 (.asn (.t 10) 3 44), .mv 3 11]) .ret)))
theorem c_spec_OverView_eq : compF Go.Proofs.Tryz.prog [] 14 = some (c_spec_OverView.ac, [(.t 2), (.t 3)], 12) := by kernel_rfl

theorem f_spec_OverView (W0 : World) (o : Over) : Fn Go.Proofs.Tryz.prog W0 14 [eOver o] (.c (eEntsO (if oOk o = true then view4 o else none))) [] := by
  refine fnX (c := c_spec_OverView) mixed c_spec_OverView_eq (by simp) rfl fun hg => ?_
  refine dEr ?_
  repeat (refine c0 (f_spec_OverOk W0 _) rfl ?_; first | refine dEr ?_ | exact dz)
  refine cP (fun h1 => ?_) (fun h1 => ?_)
  · refine dr ?_
    rw [if_neg (by simp [h1])]; rfl
  rw [if_pos h1]
  have hc := f_l4View W0 o
  cases hy : view4 o with
  | none =>
    rw [hy] at hc
    refine dr ?_
    repeat (refine c0 hc rfl ?_; first | refine dr ?_ | exact dz)
    intro hg1
    refine dr ?_
    rfl
  | some x =>
    rw [hy] at hc
    refine dr ?_
    repeat (refine c0 hc rfl ?_; first | refine dr ?_ | exact dz)
    intro hg1
    refine dr ?_
    rfl


def c_spec_OverLower : XC := (.s (.r [.ex 1 (.box (.t 0)), .ex 2 (.asn (.k .nil) 3 44), .ex 3 (.mv .n)]) (.s (.s (.r [.ex 4 (.ld true 3 (.t 1)), .ex 5 (.call 28 [(.t 4)]), .ex 6 (.un .not (.t 5))]) (.cnd (.t 6) (.s (.r [.ex 7 .bsl0, .ex 2 (.asn (.t 7) 3 44), .ex 3 (.mv .n)]) .ret) .skip)) (.s (.r [.ex 8 (.ld true 3 (.t 1)), .ex 9 (.call 48 [(.t 8)]), .ex 10 (.ext (.t 9) 0), .ex 11 (.ext (.t 9) 1), .ex 2 (.asn (.t 10) 3 44), .mv 3 11]) .ret)))
theorem c_spec_OverLower_eq : compF Go.Proofs.Tryz.prog [] 17 = some (c_spec_OverLower.ac, [(.t 2), (.t 3)], 12) := by kernel_rfl

theorem f_spec_OverLower (W0 : World) (o : Over) : Fn Go.Proofs.Tryz.prog W0 17 [eOver o] (.c (eEntsO (if oOk o = true then lower4 o else none))) [] := by
  refine fnX (c := c_spec_OverLower) mixed c_spec_OverLower_eq (by simp) rfl fun hg => ?_
  refine dEr ?_
  repeat (refine c0 (f_spec_OverOk W0 _) rfl ?_; first | refine dEr ?_ | exact dz)
  refine cP (fun h1 => ?_) (fun h1 => ?_)
  · refine dr ?_
    rw [if_neg (by simp [h1])]; rfl
  rw [if_pos h1]
  have hc := f_l4Lower W0 o
  cases hy : lower4 o with
  | none =>
    rw [hy] at hc
    refine dr ?_
    repeat (refine c0 hc rfl ?_; first | refine dr ?_ | exact dz)
    intro hg1
    refine dr ?_
    rfl
  | some x =>
    rw [hy] at hc
    refine dr ?_
    repeat (refine c0 hc rfl ?_; first | refine dr ?_ | exact dz)
    intro hg1
    refine dr ?_
    rfl


def c_spec_l4From : XC := (.s (.r [.ex 2 (.box (.t 0)), .ex 4 (.mv (.i 0))]) (.s (.d [.ex 7 .bsl0, .ex 8 (.fa 1 (.t 2)), .ex 9 (.ld false 1 (.t 8)), .ex 10 (.app true 1 24 25 (.t 7) (.t 9)), .ex 11 (.fa 2 (.t 2)), .ex 12 (.ld false 1 (.t 11)), .ex 13 (.bsl 1 25 [(.t 12)]), .ex 14 (.app false 1 24 25 (.t 10) (.t 13)), .ex 5 (.asn (.t 14) 1 25)]) (.s (.s (.r [.mv 15 5, .ex 16 (.len false (.t 15)), .ex 17 (.bin .sub (.t 16) (.i 1)), .mv 6 17]) (.blk 0 (.loop (.s (.s (.r [.mv 18 6, .ex 19 (.bin .geq (.t 18) (.i 0))]) (.cnd (.t 19) .skip (.exit 0))) (.s (.blk 1 (.s (.r [.mv 22 5, .mv 23 6, .ex 24 (.ia 1 (.t 22) (.t 23)), .ex 25 (.ld false 1 (.t 24)), .mv 26 1, .ex 27 (.call 103 [(.t 25), (.t 26)]), .ex 28 (.bin .neq (.t 27) (.i 0))]) (.cnd (.t 28) (.s (.r [.mv 29 6, .ex 30 (.bin .add (.t 29) (.i 1)), .mv 4 30]) .ret) .skip))) (.r [.mv 20 6, .ex 21 (.bin .sub (.t 20) (.i 1)), .mv 6 21])))))) (.s (.r [.ex 4 (.mv (.i 0))]) .ret))))
theorem c_spec_l4From_eq : compF Go.Proofs.Tryz.prog [] 69 = some (c_spec_l4From.ac, [(.t 4)], 31) := by kernel_rfl

theorem f_l4From (W0 : World) (o : Over) (p : Str) (ho : o.layers.length ≤ 4) : Fn Go.Proofs.Tryz.prog W0 69 [eOver o, CS p] (.c (CI (topN (allL o) p (allL o).length))) [] := by
  refine fnX (c := c_spec_l4From) mixed c_spec_l4From_eq (by simp) rfl fun hg => ?_
  have hal : (allL o).length = o.layers.length + 1 := by simp [allL]
  refine dr ?_
  repeat (refine oB (by simp; omega) ?_; first | refine dr ?_ | exact dz)
  refine lz (σ := Nat) 160 (fun k => [(1, .c (CS p)), (5, .c (eMarkss (allL o))), (6, I ((k : Int) - 1))]) (fun _ => []) (fun k => k ≤ (allL o).length ∧ topN (allL o) p (allL o).length = topN (allL o) p k) (fun k => k) (allL o).length ⟨by omega, rfl⟩ ?_ ?_
  · refine dr ?_
    repeat ((first | refine oB (by rw [eMarkss, allL, List.map_append]; rfl) ?_ | refine oB (by simp) ?_); first | refine dr ?_ | exact dz)
    trivial
  rintro k ⟨hk, ha⟩
  rw [ha]
  generalize allL o = all at *
  cases k with
  | zero =>
    refine dr ?_
    refine cP (fun h1 => ?_) (fun h1 => ?_)
    · omega
    · refine dr ?_
      rfl
  | succ n =>
    have hg : all.getD n [] = all[n] := by simp [List.getD, show n < all.length by omega]
    rw [topN, hg]
    refine dr ?_
    refine cP (fun h1 => ?_) (fun h1 => ?_)
    · refine dr ?_
      repeat ((first | refine aM (j := n) (by omega) (by omega) ?_ | refine c0 (f_l3Kind W0 _ _) rfl ?_); first | refine dr ?_ | exact dz)
      intro hg1
      refine cP (fun h2 => ?_) (fun h2 => ?_)
      · refine dr ?_
        rw [if_pos h2]
        exact congrArg CI (by omega)
      · refine dr ?_
        refine ⟨n, ⟨by omega, by rw [if_neg (fun h => h h2)]⟩, by omega, ?_⟩
        refine dr ?_
        trivial
    · omega


def c_spec_OverGet : XC := (.s (.r [.ex 2 (.box (.t 0)), .ex 4 (.alloc [(.c (.sc (.string ⟨#[]⟩))), (.c (.sc (.bool false))), (.c (.sc (.string ⟨#[]⟩)))]), .ex 5 (.mv (.i 0)), .ex 6 (.mv .n)]) (.s (.r [.ex 12 (.ld true 3 (.t 2)), .ex 13 (.call 14 [(.t 12)]), .mv 11 13, .ex 14 (.ext (.t 11) 0), .ex 15 (.ext (.t 11) 1), .ex 7 (.asn (.t 14) 3 44), .mv 8 15]) (.s (.r [.mv 17 7, .mv 18 1, .ex 19 (.call 68 [(.t 17), (.t 18)]), .mv 16 19, .ex 20 (.ext (.t 16) 0), .ex 21 (.ext (.t 16) 1), .ex 9 (.alloc [(.c (.sc (.string ⟨#[]⟩))), (.c (.sc (.bool false))), (.c (.sc (.string ⟨#[]⟩)))]), .nu (.st 3 (.t 9) (.t 20)), .mv 10 21]) (.s (.s (.r [.mv 22 8, .ex 23 (.un .not (.t 22)), .mv 24 23, .gf 25 (.mv (.t 10)) 24, .gf 26 (.un .not (.t 25)) 24, .ex 27 (.pick (.t 24) .y (.t 26))]) (.cnd (.t 27) (.s (.r [.ex 28 (.build [(.c (.sc (.string ⟨#[]⟩))), (.c (.sc (.bool false))), (.c (.sc (.string ⟨#[]⟩)))] []), .nu (.st 3 (.t 4) (.t 28)), .ex 5 (.mv (.i 0)), .ex 6 (.mv .n)]) .ret) .skip)) (.s (.d [.ex 29 (.ld true 3 (.t 9)), .ex 30 (.ld true 3 (.t 2)), .mv 31 1, .ex 32 (.call 69 [(.t 30), (.t 31)]), .nu (.st 3 (.t 4) (.t 29)), .mv 5 32, .ex 6 (.mv .y)]) .ret)))))
theorem c_spec_OverGet_eq : compF Go.Proofs.Tryz.prog [] 32 = some (c_spec_OverGet.ac, [(.cell 4 true 3), (.t 5), (.t 6)], 33) := by kernel_rfl

theorem f_spec_OverGet (W0 : World) (o : Over) (p : Str) : Fn Go.Proofs.Tryz.prog W0 32 [eOver o, CS p] (.c (eOGet (oGet o p))) [] := by
  refine fnX (c := c_spec_OverGet) mixed c_spec_OverGet_eq (by simp) rfl fun hg => ?_
  have hc := f_spec_OverView W0 o
  rw [oGet]
  by_cases h1 : oOk o = true
  · obtain ⟨t, x, e1, e2, _⟩ := oOk_some h1
    rw [if_pos h1, e2] at hc
    rw [if_pos h1, e2]
    have hc2 := f_l2Get W0 x p
    have hl : o.layers.length ≤ 4 := by
      unfold lower4 at e1
      split at e1
      · rename_i h; exact h.2
      · cases e1
    cases hy : get x p with
    | none =>
      rw [hy] at hc2
      refine dr ?_
      repeat (refine c0 hc rfl ?_; first | refine dr ?_ | exact dz)
      intro hg1
      refine dr ?_
      repeat (refine c0 hc2 rfl ?_; first | refine dr ?_ | exact dz)
      intro hg2
      refine dr ?_
      simp only [hy]; rfl
    | some e =>
      rw [hy] at hc2
      refine dr ?_
      repeat (refine c0 hc rfl ?_; first | refine dr ?_ | exact dz)
      intro hg1
      refine dr ?_
      repeat (refine c0 hc2 rfl ?_; first | refine dr ?_ | exact dz)
      intro hg2
      refine dEr ?_
      repeat (refine c0 (f_l4From W0 o p hl) rfl ?_; first | refine dEr ?_ | exact dz)
      simp only [hy]; rfl
  · rw [if_neg h1] at hc
    rw [if_neg h1]
    have hc2 := f_l2Get W0 [] p
    rw [eEntO_eq] at hc2
    refine dr ?_
    repeat (refine c0 hc rfl ?_; first | refine dr ?_ | exact dz)
    intro hg1
    refine dr ?_
    repeat (refine c0 hc2 rfl ?_; first | refine dr ?_ | exact dz)
    intro hg2
    refine dr ?_
    rfl


end Go.Proofs.YtaecaabnjenllaaGreatDoor

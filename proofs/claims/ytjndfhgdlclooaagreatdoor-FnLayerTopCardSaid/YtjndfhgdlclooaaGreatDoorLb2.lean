/- The walks of the laws on differences that are joined; no condition but one on a package variable that start-up code lays. -/
import Derived.Test.YtjndfhgdlclooaaGreatDoorLb1
import Derived.Test.YtjndfhgdlclooaaGreatDoorDb2
import Derived.Test.YtjndfhgdlclooaaGreatDoorPb7
namespace Go.Proofs.YtjndfhgdlclooaaGreatDoor
set_option linter.unusedSimpArgs false
set_option linter.unusedVariables false
open Go Go.RowKit

theorem eEntsO_eq (o : Option (List Ent)) : eEntsO o = .tup [eEnts (o.getD []), CB o.isSome] := by cases o <;> rfl
theorem eMarksO_eq (o : Option (List Mark)) : eMarksO o = .tup [eMarks (o.getD []), CB o.isSome] := by cases o <;> rfl
theorem steps {a b c : List Ent} {j : List Mark} (ha : tOk a = true) (hb : tOk b = true) (hc : tOk c = true) (hj : lJoin (diff b c) (diff a b) = some j) : lOn j a = some c := by
  obtain ⟨h1, h2, rfl, h4⟩ := lJoin_some hj
  have ga := TG.of ha
  have gb := TG.of hb
  have gc := TG.of hc
  have e : onRaw (joinL (diff b c) (diff a b)) a = c := by rw [on_join (LG.of h1) (LG.of h2) ga.srt, on_diff ga gb, on_diff gb gc]
  unfold lOn
  rw [if_pos (by simp [h4, ha]), e, if_pos gc.len]
theorem diffO_ok {a b : List Ent} (ha : tOk a = true) (hb : tOk b = true) : diffO a b = diff a b := by rw [diffO, if_pos (by simp [ha, hb])]


def c_laws_FnLayerBack : XC := (.s (.r [.ex 2 (.mv .n)]) (.s (.s (.r [.mv 10 0, .ex 11 (.len false (.t 10)), .ex 12 (.bin .gtr (.t 11) (.i 1048576))]) (.cnd (.t 12) (.s (.r [.ex 2 (.mv .y)]) .ret) .skip)) (.s (.r [.mv 14 0, .ex 15 (.opn 12 [(.t 14)]), .mv 13 15, .ex 16 (.ext (.t 13) 0), .ex 17 (.ext (.t 13) 1), .ex 3 (.asn (.t 16) 3 56), .ex 4 (.asn (.t 17) 3 56)]) (.s (.r [.mv 18 3, .mv 19 4, .ex 20 (.call 13 [(.t 18), (.t 19)]), .ex 5 (.asn (.t 20) 3 69)]) (.s (.s (.r [.mv 21 5, .mv 22 3, .mv 23 4, .ex 24 (.call 15 [(.t 22), (.t 23)]), .ex 25 (.call 14 [(.t 21), (.t 24)]), .ex 26 (.un .not (.t 25)), .mv 27 26, .gf 28 (.mv (.t 3)) 27, .gf 29 (.call 16 [(.t 28)]) 27, .gf 30 (.un .not (.t 29)) 27, .ex 31 (.pick (.t 27) .y (.t 30)), .mv 32 31, .gf 33 (.mv (.t 4)) 32, .gf 34 (.call 16 [(.t 33)]) 32, .gf 35 (.un .not (.t 34)) 32, .ex 36 (.pick (.t 32) .y (.t 35))]) (.cnd (.t 36) (.s (.r [.mv 37 5, .mv 38 3, .mv 39 4, .ex 40 (.call 15 [(.t 38), (.t 39)]), .ex 41 (.call 14 [(.t 37), (.t 40)]), .mv 2 41]) .ret) .skip)) (.s (.r [.mv 43 4, .mv 44 3, .ex 45 (.call 13 [(.t 43), (.t 44)]), .mv 46 5, .ex 47 (.call 17 [(.t 45), (.t 46)]), .mv 42 47, .ex 48 (.ext (.t 42) 0), .ex 49 (.ext (.t 42) 1), .ex 6 (.asn (.t 48) 3 69), .mv 7 49]) (.s (.r [.mv 51 6, .mv 52 3, .ex 53 (.call 18 [(.t 51), (.t 52)]), .mv 50 53, .ex 54 (.ext (.t 50) 0), .ex 55 (.ext (.t 50) 1), .ex 8 (.asn (.t 54) 3 56), .mv 9 55]) (.s (.r [.mv 56 7, .ex 57 (.un .not (.t 56)), .mv 58 57, .gf 59 (.mv (.t 9)) 58, .gf 60 (.mv (.t 59)) 58, .gt 61 (.mv (.t 8)) 60, .gt 62 (.mv (.t 3)) 60, .gt 63 (.call 19 [(.t 61), (.t 62)]) 60, .gf 64 (.pick (.t 60) (.t 63) .n) 58, .ex 65 (.pick (.t 58) .y (.t 64)), .mv 2 65]) .ret))))))))
theorem c_laws_FnLayerBack_eq : compF Go.Proofs.Tryz.prog [12] 3 = some (c_laws_FnLayerBack.ac, [(.t 2)], 66) := by kernel_rfl

theorem f_FnLayerBack (W0 : World) (hs : W0.ShapedOpen Go.Proofs.Tryz.prog) (c : Str) : Fn Go.Proofs.Tryz.prog W0 3 [eCode c] (.c (CB true)) [] := by
  have hM := hM_of hs
  refine fnX (c := c_laws_FnLayerBack) mixed c_laws_FnLayerBack_eq (by simp) rfl fun hg => ?_
  refine dr ?_
  refine cP (fun h1 => ?_) (fun h1 => ?_)
  · exact dz
  refine dr ?_
  refine oW (f_DrawLayerDiff W0 c) rfl trivial rfl rfl ⟨([], []), by simp⟩ fun x hx => ⟨rfl, ?_⟩
  obtain ⟨a, b⟩ := x
  clear hx
  have hsd : Fn Go.Proofs.Tryz.prog W0 15 [eEnts a, eEnts b] (.c (eMarks (diffO a b))) [] := f_spec_LayerDiff W0 a b
  refine dEr ?_
  repeat ((first | refine c0 (f_impl_LayerDiff W0 hM a b) rfl ?_ | refine c0 hsd rfl ?_ | refine c0 (f_impl_MarksSame W0 _ _) rfl ?_); first | refine dEr ?_ | exact dz)
  refine cP (fun h2 => ?_) (fun h2 => ?_)
  · exact absurd rfl h2
  refine dEr ?_
  repeat (refine c0 (f_spec_TreeOk W0 _) rfl ?_; first | refine dEr ?_ | exact dz)
  refine cP (fun h3 => ?_) (fun h3 => ?_)
  · refine dEr ?_
    repeat ((first | refine c0 hsd rfl ?_ | refine c0 (f_impl_MarksSame W0 _ _) rfl ?_); first | refine dEr ?_ | exact dz)
    exact (dT rfl).symm
  refine dEr ?_
  repeat (refine c0 (f_spec_TreeOk W0 _) rfl ?_; first | refine dEr ?_ | exact dz)
  refine cP (fun h4 => ?_) (fun h4 => ?_)
  · refine dEr ?_
    repeat ((first | refine c0 hsd rfl ?_ | refine c0 (f_impl_MarksSame W0 _ _) rfl ?_); first | refine dEr ?_ | exact dz)
    exact (dT rfl).symm
  rw [diffO_ok h3 h4]
  have hd2 := f_impl_LayerDiff W0 hM b a
  rw [diffO_ok h4 h3] at hd2
  have hj := f_impl_LayerJoin W0 hM (diff b a) (diff a b)
  cases hx : lJoin (diff b a) (diff a b) with
  | none =>
    rw [hx] at hj
    have ho := f_impl_LayerOn W0 hM [] a
    rw [eEntsO_eq] at ho
    refine dEr ?_
    repeat ((first | refine c0 hd2 rfl ?_ | refine c0 hj rfl ?_ | refine c0 ho rfl ?_); first | refine dEr ?_ | exact dz)
  | some j =>
    rw [hx] at hj
    have ho := f_impl_LayerOn W0 hM j a
    rw [steps h3 h4 h3 hx] at ho
    refine dEr ?_
    repeat ((first | refine c0 hd2 rfl ?_ | refine c0 hj rfl ?_ | refine c0 ho rfl ?_ | refine c0 (f_impl_EntsSame W0 _ _) rfl ?_); first | refine dEr ?_ | exact dz)
    exact (dT rfl).symm


def c_laws_FnLayerSteps : XC := (.s (.r [.ex 4 (.mv .n)]) (.s (.s (.r [.mv 14 0, .ex 15 (.len false (.t 14)), .ex 16 (.bin .gtr (.t 15) (.i 1048576)), .mv 17 16, .gf 18 (.mv (.t 1)) 17, .gf 19 (.len false (.t 18)) 17, .gf 20 (.bin .gtr (.t 19) (.i 1048576)) 17, .ex 21 (.pick (.t 17) .y (.t 20))]) (.cnd (.t 21) (.s (.r [.ex 4 (.mv .y)]) .ret) .skip)) (.s (.r [.mv 23 0, .ex 24 (.opn 12 [(.t 23)]), .mv 22 24, .ex 25 (.ext (.t 22) 0), .ex 26 (.ext (.t 22) 1), .ex 5 (.asn (.t 25) 3 56), .ex 6 (.asn (.t 26) 3 56)]) (.s (.r [.mv 28 1, .ex 29 (.opn 12 [(.t 28)]), .mv 27 29, .ex 30 (.ext (.t 27) 0), .ex 31 (.ext (.t 27) 1), .ex 7 (.asn (.t 30) 3 56), .ex 8 (.asn (.t 31) 3 56)]) (.s (.r [.mv 32 5, .mv 33 6, .ex 34 (.call 13 [(.t 32), (.t 33)]), .ex 9 (.asn (.t 34) 3 69)]) (.s (.s (.r [.mv 35 9, .mv 36 5, .mv 37 6, .ex 38 (.call 15 [(.t 36), (.t 37)]), .ex 39 (.call 14 [(.t 35), (.t 38)]), .ex 40 (.un .not (.t 39)), .mv 41 40, .gf 42 (.mv (.t 5)) 41, .gf 43 (.call 16 [(.t 42)]) 41, .gf 44 (.un .not (.t 43)) 41, .ex 45 (.pick (.t 41) .y (.t 44)), .mv 46 45, .gf 47 (.mv (.t 6)) 46, .gf 48 (.call 16 [(.t 47)]) 46, .gf 49 (.un .not (.t 48)) 46, .ex 50 (.pick (.t 46) .y (.t 49)), .mv 51 50, .gf 52 (.mv (.t 8)) 51, .gf 53 (.call 16 [(.t 52)]) 51, .gf 54 (.un .not (.t 53)) 51, .ex 55 (.pick (.t 51) .y (.t 54))]) (.cnd (.t 55) (.s (.r [.mv 56 9, .mv 57 5, .mv 58 6, .ex 59 (.call 15 [(.t 57), (.t 58)]), .ex 60 (.call 14 [(.t 56), (.t 59)]), .mv 4 60]) .ret) .skip)) (.s (.r [.mv 62 6, .mv 63 8, .ex 64 (.call 13 [(.t 62), (.t 63)]), .mv 65 9, .ex 66 (.call 17 [(.t 64), (.t 65)]), .mv 61 66, .ex 67 (.ext (.t 61) 0), .ex 68 (.ext (.t 61) 1), .ex 10 (.asn (.t 67) 3 69), .mv 11 68]) (.s (.s (.r [.mv 69 11, .ex 70 (.un .not (.t 69))]) (.cnd (.t 70) (.s (.r [.ex 4 (.mv .y)]) .ret) .skip)) (.s (.r [.mv 72 10, .mv 73 5, .ex 74 (.call 18 [(.t 72), (.t 73)]), .mv 71 74, .ex 75 (.ext (.t 71) 0), .ex 76 (.ext (.t 71) 1), .ex 12 (.asn (.t 75) 3 56), .mv 13 76]) (.s (.r [.mv 77 13, .mv 78 77, .gt 79 (.mv (.t 12)) 78, .gt 80 (.mv (.t 8)) 78, .gt 81 (.call 19 [(.t 79), (.t 80)]) 78, .ex 82 (.pick (.t 78) (.t 81) .n), .mv 4 82]) .ret))))))))))
theorem c_laws_FnLayerSteps_eq : compF Go.Proofs.Tryz.prog [12] 4 = some (c_laws_FnLayerSteps.ac, [(.t 4)], 83) := by kernel_rfl

theorem f_FnLayerSteps (W0 : World) (hs : W0.ShapedOpen Go.Proofs.Tryz.prog) (c0' c1' : Str) : Fn Go.Proofs.Tryz.prog W0 4 [eCode c0', eCode c1'] (.c (CB true)) [] := by
  have hM := hM_of hs
  refine fnX (c := c_laws_FnLayerSteps) mixed c_laws_FnLayerSteps_eq (by simp) rfl fun hg => ?_
  refine dr ?_
  refine cP (fun h1 => ?_) (fun h1 => ?_)
  · exact dz
  refine dr ?_
  refine cP (fun h1 => ?_) (fun h1 => ?_)
  · exact dz
  refine dr ?_
  refine oW (f_DrawLayerDiff W0 c0') rfl trivial rfl rfl ⟨([], []), by simp⟩ fun x hx => ⟨rfl, ?_⟩
  obtain ⟨a, b⟩ := x
  clear hx
  refine dEr ?_
  refine oW (f_DrawLayerDiff W0 c1') rfl trivial rfl rfl ⟨([], []), by simp⟩ fun x hx => ⟨rfl, ?_⟩
  obtain ⟨d, c⟩ := x
  clear hx
  have hsd : Fn Go.Proofs.Tryz.prog W0 15 [eEnts a, eEnts b] (.c (eMarks (diffO a b))) [] := f_spec_LayerDiff W0 a b
  refine dEr ?_
  repeat ((first | refine c0 (f_impl_LayerDiff W0 hM a b) rfl ?_ | refine c0 hsd rfl ?_ | refine c0 (f_impl_MarksSame W0 _ _) rfl ?_); first | refine dEr ?_ | exact dz)
  refine cP (fun h2 => ?_) (fun h2 => ?_)
  · exact absurd rfl h2
  refine dEr ?_
  repeat (refine c0 (f_spec_TreeOk W0 _) rfl ?_; first | refine dEr ?_ | exact dz)
  refine cP (fun h3 => ?_) (fun h3 => ?_)
  · refine dEr ?_
    repeat ((first | refine c0 hsd rfl ?_ | refine c0 (f_impl_MarksSame W0 _ _) rfl ?_); first | refine dEr ?_ | exact dz)
    exact (dT rfl).symm
  refine dEr ?_
  repeat (refine c0 (f_spec_TreeOk W0 _) rfl ?_; first | refine dEr ?_ | exact dz)
  refine cP (fun h4 => ?_) (fun h4 => ?_)
  · refine dEr ?_
    repeat ((first | refine c0 hsd rfl ?_ | refine c0 (f_impl_MarksSame W0 _ _) rfl ?_); first | refine dEr ?_ | exact dz)
    exact (dT rfl).symm
  refine dEr ?_
  repeat (refine c0 (f_spec_TreeOk W0 _) rfl ?_; first | refine dEr ?_ | exact dz)
  refine cP (fun h5 => ?_) (fun h5 => ?_)
  · refine dEr ?_
    repeat ((first | refine c0 hsd rfl ?_ | refine c0 (f_impl_MarksSame W0 _ _) rfl ?_); first | refine dEr ?_ | exact dz)
    exact (dT rfl).symm
  rw [diffO_ok h3 h4]
  have hd2 := f_impl_LayerDiff W0 hM b c
  rw [diffO_ok h4 h5] at hd2
  have hj := f_impl_LayerJoin W0 hM (diff b c) (diff a b)
  cases hx : lJoin (diff b c) (diff a b) with
  | none =>
    rw [hx] at hj
    refine dEr ?_
    repeat ((first | refine c0 hd2 rfl ?_ | refine c0 hj rfl ?_); first | refine dEr ?_ | exact dz)
  | some j =>
    rw [hx] at hj
    have ho := f_impl_LayerOn W0 hM j a
    rw [steps h3 h4 h5 hx] at ho
    refine dEr ?_
    repeat ((first | refine c0 hd2 rfl ?_ | refine c0 hj rfl ?_ | refine c0 ho rfl ?_ | refine c0 (f_impl_EntsSame W0 _ _) rfl ?_); first | refine dEr ?_ | exact dz)
    exact (dT rfl).symm


end Go.Proofs.YtjndfhgdlclooaaGreatDoor

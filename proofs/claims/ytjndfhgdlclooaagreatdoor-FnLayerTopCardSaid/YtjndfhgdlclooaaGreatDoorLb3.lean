/- The walks of the laws on two and three layers in one; no condition but one on a package variable that start-up code lays. -/
import Derived.Test.YtjndfhgdlclooaaGreatDoorLb2
import Derived.Test.YtjndfhgdlclooaaGreatDoorDb3
namespace Go.Proofs.YtjndfhgdlclooaaGreatDoor
set_option linter.unusedSimpArgs false
set_option linter.unusedVariables false
open Go Go.RowKit

theorem on_idem {a : List Mark} {t : List Ent} (ha : LG a) (ht : Srt Ent.path t) : onRaw a (onRaw a t) = onRaw a t := by
  refine srt_ext (srt_on (srt_on ht)) (srt_on ht) fun p => ?_
  show find _ p = find _ p
  rw [on_findS ha.srt (srt_on ht), on_findS ha.srt ht]
  cases mfind a p with
  | some m => rfl
  | none => simp only; split <;> rfl
theorem join_top {a b j k : List Mark} {t x : List Ent} (hj : lJoin a b = some j) (hx : lOn j t = some x) (hk : lJoin a j = some k) : lOn k t = some x ∧ lOn a x = some x := by
  have hx2 := hx
  obtain ⟨h1, h2, rfl, h4⟩ := lJoin_some hj
  obtain ⟨h5, _, h6, h7⟩ := lOn_ok hx
  have hs := (TG.of h6).srt
  rw [on_join (LG.of h1) (LG.of h2) hs] at h7
  have e : onRaw a x = x := by rw [h7, on_idem (LG.of h1) (srt_on hs)]
  have e2 : lOn a x = some x := by
    unfold lOn
    rw [if_pos (by simp [h1, lOn_tOk hx]), e, if_pos h5]
  exact ⟨by rw [join_on hk hx2, e2], e2⟩
theorem join_three {a b c x x' y y' : List Mark} {t : List Ent} (h1 : lJoin a b = some x) (h2 : lJoin x c = some x') (h3 : lJoin b c = some y) (h4 : lJoin a y = some y') : lOn x' t = lOn y' t := by
  obtain ⟨a1, a2, rfl, a4⟩ := lJoin_some h1
  obtain ⟨_, b2, rfl, b4⟩ := lJoin_some h2
  obtain ⟨_, _, rfl, c4⟩ := lJoin_some h3
  obtain ⟨_, _, rfl, d4⟩ := lJoin_some h4
  cases ht : tOk t with
  | false => unfold lOn; rw [if_neg (by simp [ht]), if_neg (by simp [ht])]
  | true =>
    have hs := (TG.of ht).srt
    have e : onRaw (joinL (joinL a b) c) t = onRaw (joinL a (joinL b c)) t := by
      rw [on_join (LG.of a4) (LG.of b2) hs, on_join (LG.of a1) (LG.of a2) (srt_on hs), on_join (LG.of a1) (LG.of c4) hs, on_join (LG.of a2) (LG.of b2) hs]
    unfold lOn
    rw [if_pos (show (lOk (joinL (joinL a b) c) && tOk t) = true by simp [b4, ht]), if_pos (show (lOk (joinL a (joinL b c)) && tOk t) = true by simp [d4, ht]), e]

theorem cutq {k0 : List Nat} {a : (Fr → XM → Prop) → Fr → XM → Prop} {b : Fr → XM → Prop} {F : Fr} {m : XM} (fr : Fr) (ha : a (fun F' m' => KeepX k0 none F' m' fr []) F m) (hb : b fr []) : CutX k0 a b F m :=
  ⟨Unit, fun _ => fr, fun _ => [], fun _ => True, none, fun F' m' => KeepX k0 none F' m' fr [], ha, fun _ _ h => ⟨(), trivial, h⟩, fun _ _ => hb⟩


def c_laws_FnLayerJoin : XC := (.s (.r [.ex 4 (.mv .n)]) (.s (.s (.r [.mv 17 0, .ex 18 (.len false (.t 17)), .ex 19 (.bin .gtr (.t 18) (.i 1048576)), .mv 20 19, .gf 21 (.mv (.t 1)) 20, .gf 22 (.len false (.t 21)) 20, .gf 23 (.bin .gtr (.t 22) (.i 1048576)) 20, .ex 24 (.pick (.t 20) .y (.t 23))]) (.cnd (.t 24) (.s (.r [.ex 4 (.mv .y)]) .ret) .skip)) (.s (.r [.mv 26 0, .ex 27 (.opn 25 [(.t 26)]), .mv 25 27, .ex 28 (.ext (.t 25) 0), .ex 29 (.ext (.t 25) 1), .ex 5 (.asn (.t 28) 3 69), .ex 6 (.asn (.t 29) 3 69)]) (.cut (.r [.mv 31 1, .ex 32 (.opn 26 [(.t 31)]), .mv 30 32, .ex 33 (.ext (.t 30) 0), .ex 34 (.ext (.t 30) 1), .ex 7 (.asn (.t 33) 3 69), .ex 8 (.asn (.t 34) 3 56)]) (.s (.r [.mv 36 5, .mv 37 6, .ex 38 (.call 17 [(.t 36), (.t 37)]), .mv 35 38, .ex 39 (.ext (.t 35) 0), .ex 40 (.ext (.t 35) 1), .ex 9 (.asn (.t 39) 3 69), .mv 10 40]) (.cut (.r [.mv 42 5, .mv 43 6, .ex 44 (.call 27 [(.t 42), (.t 43)]), .mv 41 44, .ex 45 (.ext (.t 41) 0), .ex 46 (.ext (.t 41) 1), .ex 11 (.asn (.t 45) 3 69), .mv 12 46]) (.s (.s (.r [.mv 47 10, .mv 48 12, .ex 49 (.bb true (.t 47) (.t 48)), .mv 50 49, .gf 51 (.mv (.t 9)) 50, .gf 52 (.mv (.t 11)) 50, .gf 53 (.call 14 [(.t 51), (.t 52)]) 50, .gf 54 (.un .not (.t 53)) 50, .ex 55 (.pick (.t 50) .y (.t 54))]) (.cnd (.t 55) (.s (.r [.ex 4 (.mv .n)]) .ret) .skip)) (.s (.s (.r [.mv 56 10, .ex 57 (.un .not (.t 56))]) (.cnd (.t 57) (.s (.r [.mv 58 9, .ex 59 (.len false (.t 58)), .ex 60 (.bin .eql (.t 59) (.i 0)), .mv 4 60]) .ret) .skip)) (.s (.r [.mv 62 6, .mv 63 8, .ex 64 (.call 18 [(.t 62), (.t 63)]), .mv 61 64, .ex 65 (.ext (.t 61) 0), .ex 66 (.ext (.t 61) 1), .ex 13 (.asn (.t 65) 3 56), .mv 14 66]) (.s (.s (.r [.mv 67 14, .ex 68 (.un .not (.t 67))]) (.cnd (.t 68) (.s (.r [.mv 69 9, .ex 70 (.call 28 [(.t 69)]), .mv 4 70]) .ret) .skip)) (.s (.r [.mv 72 5, .mv 73 13, .ex 74 (.call 18 [(.t 72), (.t 73)]), .mv 71 74, .ex 75 (.ext (.t 71) 0), .ex 76 (.ext (.t 71) 1), .ex 13 (.asn (.t 75) 3 56), .mv 14 76]) (.cut (.r [.mv 78 9, .mv 79 8, .ex 80 (.call 18 [(.t 78), (.t 79)]), .mv 77 80, .ex 81 (.ext (.t 77) 0), .ex 82 (.ext (.t 77) 1), .ex 15 (.asn (.t 81) 3 56), .mv 16 82]) (.s (.r [.mv 83 9, .ex 84 (.call 28 [(.t 83)]), .mv 85 84, .gt 86 (.mv (.t 14)) 85, .gt 87 (.mv (.t 16)) 85, .gt 88 (.bb false (.t 86) (.t 87)) 85, .ex 89 (.pick (.t 85) (.t 88) .n), .mv 90 89, .gt 91 (.mv (.t 13)) 90, .gt 92 (.mv (.t 15)) 90, .gt 93 (.call 19 [(.t 91), (.t 92)]) 90, .ex 94 (.pick (.t 90) (.t 93) .n), .mv 4 94]) .ret)))))))))))))
theorem c_laws_FnLayerJoin_eq : compF Go.Proofs.Tryz.prog [25, 26] 8 = some (c_laws_FnLayerJoin.ac, [(.t 4)], 95) := by kernel_rfl

theorem f_FnLayerJoin (W0 : World) (hs : W0.ShapedOpen Go.Proofs.Tryz.prog) (c0' c1' : Str) : Fn Go.Proofs.Tryz.prog W0 8 [eCode c0', eCode c1'] (.c (CB true)) [] := by
  have hM := hM_of hs
  refine fnX (c := c_laws_FnLayerJoin) mixed c_laws_FnLayerJoin_eq (by simp) rfl fun hg => ?_
  refine dr ?_
  refine cP (fun h1 => ?_) (fun h1 => ?_)
  · exact dz
  refine dr ?_
  refine cP (fun h1 => ?_) (fun h1 => ?_)
  · exact dz
  refine dr ?_
  refine oW (f_DrawLayerJoin W0 c0') rfl trivial rfl rfl ⟨([], []), by simp⟩ fun x hx => ⟨rfl, ?_⟩
  obtain ⟨a, b⟩ := x
  clear hx
  refine dEr ?_
  refine cutp2 (fun (c : List Mark) (t : List Ent) => [(5, .c (eMarks a)), (6, .c (eMarks b)), (7, .c (eMarks c)), (8, .c (eEnts t))]) (fun _ _ => []) (fun _ _ => True) ?_ ?_
  · refine dr ?_
    refine oW (f_DrawLayerOn W0 c1') rfl trivial rfl rfl ⟨([], []), by simp⟩ fun x hx => ⟨rfl, ?_⟩
    obtain ⟨c, t⟩ := x
    refine dEr ?_
    refine ⟨c, t, trivial, ?_⟩
    refine dr ?_
    trivial
  intro c t _
  clear h1
  have q1 := f_impl_LayerJoin W0 hM a b
  have q2 := f_spec_LayerJoin W0 a b
  rw [eMarksO_eq] at q1 q2
  have hj0 : (lJoin a b).isSome = false → (lJoin a b).getD [] = [] := fun h => by cases hx : lJoin a b with | none => rfl | some j => rw [hx] at h; cases h
  have hj1 : (lJoin a b).isSome = true → lJoin a b = some ((lJoin a b).getD []) := fun h => by obtain ⟨j, hj⟩ := Option.isSome_iff_exists.1 h; rw [hj]; rfl
  generalize hok : (lJoin a b).isSome = ok at *
  generalize hJJ : (lJoin a b).getD [] = J at *
  refine dEr ?_
  repeat (refine c0 q1 rfl ?_; first | refine dEr ?_ | exact dz)
  refine cutq [(5, .c (eMarks a)), (6, .c (eMarks b)), (8, .c (eEnts t)), (9, .c (eMarks J)), (10, .c (CB ok)), (11, .c (eMarks J)), (12, .c (CB ok))] ?_ ?_
  · refine dEr ?_
    repeat (refine c0 q2 rfl ?_; first | refine dEr ?_ | exact dz)
    trivial
  clear q1 q2
  refine dr ?_
  refine cP (fun h2 => ?_) (fun h2 => ?_)
  · exact absurd rfl h2
  refine dEr ?_
  repeat (refine c0 (f_impl_MarksSame W0 _ _) rfl ?_; first | refine dEr ?_ | exact dz)
  refine cP (fun h3 => ?_) (fun h3 => ?_)
  · exact absurd rfl h3
  refine dr ?_
  refine cP (fun h4 => ?_) (fun h4 => ?_)
  · rw [hj0 h4]
    refine dr ?_
    exact congrArg CB (by rw [eqI_d]; rfl)
  have hj := hj1 h4
  have q3 := f_impl_LayerOn W0 hM b t
  have q4 := f_impl_LayerOk W0 hM J
  rw [(lJoin_some hj).2.2.2] at q4
  cases hx : lOn b t with
  | none =>
    rw [hx] at q3
    refine dEr ?_
    repeat ((first | refine c0 q3 rfl ?_ | refine c0 q4 rfl ?_); first | refine dEr ?_ | exact dz)
    try rfl
  | some x =>
    rw [hx] at q3
    have q5 := f_impl_LayerOn W0 hM a x
    have q6 := f_impl_LayerOn W0 hM J t
    rw [join_on hj hx, eEntsO_eq] at q6
    rw [eEntsO_eq] at q5
    generalize (lOn a x).isSome = ok2 at *
    generalize (lOn a x).getD [] = J2 at *
    refine dEr ?_
    repeat (refine c0 q3 rfl ?_; first | refine dEr ?_ | exact dz)
    refine dEr ?_
    repeat (refine c0 q5 rfl ?_; first | refine dEr ?_ | exact dz)
    refine cutq [(9, .c (eMarks J)), (13, .c (eEnts J2)), (14, .c (CB ok2)), (15, .c (eEnts J2)), (16, .c (CB ok2))] ?_ ?_
    · refine dEr ?_
      repeat (refine c0 q6 rfl ?_; first | refine dEr ?_ | exact dz)
      trivial
    refine dEr ?_
    repeat (refine c0 q4 rfl ?_; first | refine dEr ?_ | exact dz)
    refine cP (fun h3 => ?_) (fun h3 => ?_)
    · refine dEr ?_
      repeat (refine c0 (f_impl_EntsSame W0 _ _) rfl ?_; first | refine dEr ?_ | exact dz)
      exact (dT rfl).symm
    · exact absurd rfl h3

theorem sgD {α : Type} {o : Option α} {d : α} (h : o.isSome = true) : o = some (o.getD d) := by obtain ⟨j, hj⟩ := Option.isSome_iff_exists.1 h; rw [hj]; rfl

def c_laws_FnLayerThree : XC := (.s (.r [.ex 4 (.mv .n)]) (.s (.s (.r [.mv 19 0, .ex 20 (.len false (.t 19)), .ex 21 (.bin .gtr (.t 20) (.i 1048576)), .mv 22 21, .gf 23 (.mv (.t 1)) 22, .gf 24 (.len false (.t 23)) 22, .gf 25 (.bin .gtr (.t 24) (.i 1048576)) 22, .ex 26 (.pick (.t 22) .y (.t 25))]) (.cnd (.t 26) (.s (.r [.ex 4 (.mv .y)]) .ret) .skip)) (.s (.r [.mv 28 0, .ex 29 (.opn 25 [(.t 28)]), .mv 27 29, .ex 30 (.ext (.t 27) 0), .ex 31 (.ext (.t 27) 1), .ex 5 (.asn (.t 30) 3 69), .ex 6 (.asn (.t 31) 3 69)]) (.cut (.r [.mv 33 1, .ex 34 (.opn 26 [(.t 33)]), .mv 32 34, .ex 35 (.ext (.t 32) 0), .ex 36 (.ext (.t 32) 1), .ex 7 (.asn (.t 35) 3 69), .ex 8 (.asn (.t 36) 3 56)]) (.s (.r [.mv 38 5, .mv 39 6, .ex 40 (.call 17 [(.t 38), (.t 39)]), .mv 37 40, .ex 41 (.ext (.t 37) 0), .ex 42 (.ext (.t 37) 1), .ex 9 (.asn (.t 41) 3 69), .mv 10 42]) (.s (.r [.mv 44 5, .mv 45 6, .ex 46 (.call 27 [(.t 44), (.t 45)]), .mv 43 46, .ex 47 (.ext (.t 43) 0), .ex 48 (.ext (.t 43) 1), .ex 11 (.asn (.t 47) 3 69), .mv 12 48]) (.cut (.r [.mv 50 6, .mv 51 7, .ex 52 (.call 17 [(.t 50), (.t 51)]), .mv 49 52, .ex 53 (.ext (.t 49) 0), .ex 54 (.ext (.t 49) 1), .ex 13 (.asn (.t 53) 3 69), .mv 14 54]) (.s (.s (.r [.mv 55 10, .mv 56 12, .ex 57 (.bb true (.t 55) (.t 56)), .mv 58 57, .gf 59 (.mv (.t 10)) 58, .gf 60 (.un .not (.t 59)) 58, .ex 61 (.pick (.t 58) .y (.t 60)), .mv 62 61, .gf 63 (.mv (.t 14)) 62, .gf 64 (.un .not (.t 63)) 62, .ex 65 (.pick (.t 62) .y (.t 64))]) (.cnd (.t 65) (.s (.r [.mv 66 10, .mv 67 12, .ex 68 (.bb false (.t 66) (.t 67)), .mv 4 68]) .ret) .skip)) (.s (.r [.mv 70 9, .mv 71 7, .ex 72 (.call 17 [(.t 70), (.t 71)]), .mv 69 72, .ex 73 (.ext (.t 69) 0), .ex 74 (.ext (.t 69) 1), .ex 9 (.asn (.t 73) 3 69), .mv 10 74]) (.cut (.r [.mv 76 5, .mv 77 13, .ex 78 (.call 17 [(.t 76), (.t 77)]), .mv 75 78, .ex 79 (.ext (.t 75) 0), .ex 80 (.ext (.t 75) 1), .ex 13 (.asn (.t 79) 3 69), .mv 14 80]) (.s (.s (.r [.mv 81 10, .ex 82 (.un .not (.t 81)), .mv 83 82, .gf 84 (.mv (.t 14)) 83, .gf 85 (.un .not (.t 84)) 83, .ex 86 (.pick (.t 83) .y (.t 85))]) (.cnd (.t 86) (.s (.r [.ex 4 (.mv .y)]) .ret) .skip)) (.s (.r [.mv 88 9, .mv 89 8, .ex 90 (.call 18 [(.t 88), (.t 89)]), .mv 87 90, .ex 91 (.ext (.t 87) 0), .ex 92 (.ext (.t 87) 1), .ex 15 (.asn (.t 91) 3 56), .mv 16 92]) (.cut (.r [.mv 94 13, .mv 95 8, .ex 96 (.call 18 [(.t 94), (.t 95)]), .mv 93 96, .ex 97 (.ext (.t 93) 0), .ex 98 (.ext (.t 93) 1), .ex 17 (.asn (.t 97) 3 56), .mv 18 98]) (.s (.r [.mv 99 16, .mv 100 18, .ex 101 (.bb false (.t 99) (.t 100)), .mv 102 101, .gt 103 (.mv (.t 15)) 102, .gt 104 (.mv (.t 17)) 102, .gt 105 (.call 19 [(.t 103), (.t 104)]) 102, .ex 106 (.pick (.t 102) (.t 105) .n), .mv 4 106]) .ret))))))))))))))
theorem c_laws_FnLayerThree_eq : compF Go.Proofs.Tryz.prog [25, 26] 6 = some (c_laws_FnLayerThree.ac, [(.t 4)], 107) := by kernel_rfl

theorem f_FnLayerThree (W0 : World) (hs : W0.ShapedOpen Go.Proofs.Tryz.prog) (c0' c1' : Str) : Fn Go.Proofs.Tryz.prog W0 6 [eCode c0', eCode c1'] (.c (CB true)) [] := by
  have hM := hM_of hs
  refine fnX (c := c_laws_FnLayerThree) mixed c_laws_FnLayerThree_eq (by simp) rfl fun hg => ?_
  refine dr ?_
  refine cP (fun h1 => ?_) (fun h1 => ?_)
  · exact dz
  refine dr ?_
  refine cP (fun h1 => ?_) (fun h1 => ?_)
  · exact dz
  refine dr ?_
  refine oW (f_DrawLayerJoin W0 c0') rfl trivial rfl rfl ⟨([], []), by simp⟩ fun x hx => ⟨rfl, ?_⟩
  obtain ⟨a, b⟩ := x
  clear hx
  refine dEr ?_
  refine cutp2 (fun (c : List Mark) (t : List Ent) => [(5, .c (eMarks a)), (6, .c (eMarks b)), (7, .c (eMarks c)), (8, .c (eEnts t))]) (fun _ _ => []) (fun _ _ => True) ?_ ?_
  · refine dr ?_
    refine oW (f_DrawLayerOn W0 c1') rfl trivial rfl rfl ⟨([], []), by simp⟩ fun x hx => ⟨rfl, ?_⟩
    obtain ⟨c, t⟩ := x
    refine dEr ?_
    refine ⟨c, t, trivial, ?_⟩
    refine dr ?_
    trivial
  intro c t _
  clear h1
  have q1 := f_impl_LayerJoin W0 hM a b
  have q2 := f_spec_LayerJoin W0 a b
  have q3 := f_impl_LayerJoin W0 hM b c
  rw [eMarksO_eq] at q1 q2 q3
  have hj1 : (lJoin a b).isSome = true → lJoin a b = some ((lJoin a b).getD []) := sgD
  have hk1 : (lJoin b c).isSome = true → lJoin b c = some ((lJoin b c).getD []) := sgD
  generalize (lJoin a b).isSome = ok at *
  generalize (lJoin a b).getD [] = J at *
  generalize (lJoin b c).isSome = ok3 at *
  generalize (lJoin b c).getD [] = J3 at *
  refine dEr ?_
  repeat (refine c0 q1 rfl ?_; first | refine dEr ?_ | exact dz)
  refine dEr ?_
  repeat (refine c0 q2 rfl ?_; first | refine dEr ?_ | exact dz)
  refine cutq [(5, .c (eMarks a)), (7, .c (eMarks c)), (8, .c (eEnts t)), (9, .c (eMarks J)), (10, .c (CB ok)), (12, .c (CB ok)), (13, .c (eMarks J3)), (14, .c (CB ok3))] ?_ ?_
  · refine dEr ?_
    repeat (refine c0 q3 rfl ?_; first | refine dEr ?_ | exact dz)
    trivial
  clear q1 q2 q3
  refine dr ?_
  refine cP (fun h2 => ?_) (fun h2 => ?_)
  · exact absurd rfl h2
  refine dr ?_
  refine cP (fun h3 => ?_) (fun h3 => ?_)
  · refine dr ?_
    exact congrArg CB (by rw [eqB_d]; simp)
  refine dr ?_
  refine cP (fun h4 => ?_) (fun h4 => ?_)
  · refine dr ?_
    exact congrArg CB (by rw [eqB_d]; simp)
  have hj := hj1 h3
  have hk := hk1 h4
  have q4 := f_impl_LayerJoin W0 hM J c
  have q5 := f_impl_LayerJoin W0 hM a J3
  rw [eMarksO_eq] at q4 q5
  have hl1 : (lJoin J c).isSome = true → lJoin J c = some ((lJoin J c).getD []) := sgD
  have hm1 : (lJoin a J3).isSome = true → lJoin a J3 = some ((lJoin a J3).getD []) := sgD
  generalize (lJoin J c).isSome = ok4 at *
  generalize (lJoin J c).getD [] = J4 at *
  generalize (lJoin a J3).isSome = ok5 at *
  generalize (lJoin a J3).getD [] = J5 at *
  refine dEr ?_
  repeat (refine c0 q4 rfl ?_; first | refine dEr ?_ | exact dz)
  refine cutq [(8, .c (eEnts t)), (9, .c (eMarks J4)), (10, .c (CB ok4)), (13, .c (eMarks J5)), (14, .c (CB ok5))] ?_ ?_
  · refine dEr ?_
    repeat (refine c0 q5 rfl ?_; first | refine dEr ?_ | exact dz)
    trivial
  clear q4 q5
  refine dr ?_
  refine cP (fun h5 => ?_) (fun h5 => ?_)
  · exact dz
  refine dr ?_
  refine cP (fun h6 => ?_) (fun h6 => ?_)
  · exact dz
  have q6 := f_impl_LayerOn W0 hM J4 t
  have q7 := f_impl_LayerOn W0 hM J5 t
  rw [join_three hj (hl1 h5) hk (hm1 h6), eEntsO_eq] at q6
  rw [eEntsO_eq] at q7
  generalize (lOn J5 t).isSome = ok6 at *
  generalize (lOn J5 t).getD [] = X at *
  refine dEr ?_
  repeat (refine c0 q6 rfl ?_; first | refine dEr ?_ | exact dz)
  refine cutq [(15, .c (eEnts X)), (16, .c (CB ok6)), (17, .c (eEnts X)), (18, .c (CB ok6))] ?_ ?_
  · refine dEr ?_
    repeat (refine c0 q7 rfl ?_; first | refine dEr ?_ | exact dz)
    trivial
  refine dr ?_
  refine cP (fun h7 => ?_) (fun h7 => ?_)
  · refine dEr ?_
    repeat (refine c0 (f_impl_EntsSame W0 _ _) rfl ?_; first | refine dEr ?_ | exact dz)
    exact (dT rfl).symm
  · exact absurd rfl h7


def c_laws_FnLayerTop : XC := (.s (.r [.ex 4 (.mv .n)]) (.s (.s (.r [.mv 21 0, .ex 22 (.len false (.t 21)), .ex 23 (.bin .gtr (.t 22) (.i 1048576)), .mv 24 23, .gf 25 (.mv (.t 1)) 24, .gf 26 (.len false (.t 25)) 24, .gf 27 (.bin .gtr (.t 26) (.i 1048576)) 24, .ex 28 (.pick (.t 24) .y (.t 27))]) (.cnd (.t 28) (.s (.r [.ex 4 (.mv .y)]) .ret) .skip)) (.s (.r [.mv 30 0, .ex 31 (.opn 25 [(.t 30)]), .mv 29 31, .ex 32 (.ext (.t 29) 0), .ex 33 (.ext (.t 29) 1), .ex 5 (.asn (.t 32) 3 69), .ex 6 (.asn (.t 33) 3 69)]) (.cut (.r [.mv 35 1, .ex 36 (.opn 26 [(.t 35)]), .mv 34 36, .ex 37 (.ext (.t 34) 0), .ex 38 (.ext (.t 34) 1), .ex 7 (.asn (.t 37) 3 69), .ex 8 (.asn (.t 38) 3 56)]) (.s (.r [.mv 40 5, .mv 41 6, .ex 42 (.call 17 [(.t 40), (.t 41)]), .mv 39 42, .ex 43 (.ext (.t 39) 0), .ex 44 (.ext (.t 39) 1), .ex 9 (.asn (.t 43) 3 69), .mv 10 44]) (.cut (.r [.mv 46 5, .mv 47 6, .ex 48 (.call 27 [(.t 46), (.t 47)]), .mv 45 48, .ex 49 (.ext (.t 45) 0), .ex 50 (.ext (.t 45) 1), .ex 11 (.asn (.t 49) 3 69), .mv 12 50]) (.s (.s (.r [.mv 51 10, .mv 52 12, .ex 53 (.bb true (.t 51) (.t 52)), .mv 54 53, .gf 55 (.mv (.t 10)) 54, .gf 56 (.un .not (.t 55)) 54, .ex 57 (.pick (.t 54) .y (.t 56))]) (.cnd (.t 57) (.s (.r [.mv 58 10, .mv 59 12, .ex 60 (.bb false (.t 58) (.t 59)), .mv 4 60]) .ret) .skip)) (.s (.r [.mv 62 9, .mv 63 8, .ex 64 (.call 18 [(.t 62), (.t 63)]), .mv 61 64, .ex 65 (.ext (.t 61) 0), .ex 66 (.ext (.t 61) 1), .ex 13 (.asn (.t 65) 3 56), .mv 14 66]) (.cut (.r [.mv 68 5, .mv 69 9, .ex 70 (.call 17 [(.t 68), (.t 69)]), .mv 67 70, .ex 71 (.ext (.t 67) 0), .ex 72 (.ext (.t 67) 1), .ex 15 (.asn (.t 71) 3 69), .mv 16 72]) (.s (.s (.r [.mv 73 14, .ex 74 (.un .not (.t 73)), .mv 75 74, .gf 76 (.mv (.t 16)) 75, .gf 77 (.un .not (.t 76)) 75, .ex 78 (.pick (.t 75) .y (.t 77))]) (.cnd (.t 78) (.s (.r [.ex 4 (.mv .y)]) .ret) .skip)) (.s (.r [.mv 80 15, .mv 81 8, .ex 82 (.call 18 [(.t 80), (.t 81)]), .mv 79 82, .ex 83 (.ext (.t 79) 0), .ex 84 (.ext (.t 79) 1), .ex 17 (.asn (.t 83) 3 56), .mv 18 84]) (.cut (.r [.mv 86 5, .mv 87 13, .ex 88 (.call 18 [(.t 86), (.t 87)]), .mv 85 88, .ex 89 (.ext (.t 85) 0), .ex 90 (.ext (.t 85) 1), .ex 19 (.asn (.t 89) 3 56), .mv 20 90]) (.s (.r [.mv 91 18, .mv 92 91, .gt 93 (.mv (.t 20)) 92, .ex 94 (.pick (.t 92) (.t 93) .n), .mv 95 94, .gt 96 (.mv (.t 13)) 95, .gt 97 (.mv (.t 17)) 95, .gt 98 (.call 19 [(.t 96), (.t 97)]) 95, .ex 99 (.pick (.t 95) (.t 98) .n), .mv 100 99, .gt 101 (.mv (.t 13)) 100, .gt 102 (.mv (.t 19)) 100, .gt 103 (.call 19 [(.t 101), (.t 102)]) 100, .ex 104 (.pick (.t 100) (.t 103) .n), .mv 4 104]) .ret)))))))))))))
theorem c_laws_FnLayerTop_eq : compF Go.Proofs.Tryz.prog [25, 26] 7 = some (c_laws_FnLayerTop.ac, [(.t 4)], 105) := by kernel_rfl

theorem f_FnLayerTop (W0 : World) (hs : W0.ShapedOpen Go.Proofs.Tryz.prog) (c0' c1' : Str) : Fn Go.Proofs.Tryz.prog W0 7 [eCode c0', eCode c1'] (.c (CB true)) [] := by
  have hM := hM_of hs
  refine fnX (c := c_laws_FnLayerTop) mixed c_laws_FnLayerTop_eq (by simp) rfl fun hg => ?_
  refine dr ?_
  refine cP (fun h1 => ?_) (fun h1 => ?_)
  · exact dz
  refine dr ?_
  refine cP (fun h1 => ?_) (fun h1 => ?_)
  · exact dz
  refine dr ?_
  refine oW (f_DrawLayerJoin W0 c0') rfl trivial rfl rfl ⟨([], []), by simp⟩ fun x hx => ⟨rfl, ?_⟩
  obtain ⟨a, b⟩ := x
  clear hx
  refine dEr ?_
  refine cutp2 (fun (c : List Mark) (t : List Ent) => [(5, .c (eMarks a)), (6, .c (eMarks b)), (7, .c (eMarks c)), (8, .c (eEnts t))]) (fun _ _ => []) (fun _ _ => True) ?_ ?_
  · refine dr ?_
    refine oW (f_DrawLayerOn W0 c1') rfl trivial rfl rfl ⟨([], []), by simp⟩ fun x hx => ⟨rfl, ?_⟩
    obtain ⟨c, t⟩ := x
    refine dEr ?_
    refine ⟨c, t, trivial, ?_⟩
    refine dr ?_
    trivial
  intro c t _
  clear h1
  have q1 := f_impl_LayerJoin W0 hM a b
  have q2 := f_spec_LayerJoin W0 a b
  rw [eMarksO_eq] at q1 q2
  have hj1 : (lJoin a b).isSome = true → lJoin a b = some ((lJoin a b).getD []) := sgD
  generalize (lJoin a b).isSome = ok at *
  generalize (lJoin a b).getD [] = J at *
  refine dEr ?_
  repeat (refine c0 q1 rfl ?_; first | refine dEr ?_ | exact dz)
  refine cutq [(5, .c (eMarks a)), (8, .c (eEnts t)), (9, .c (eMarks J)), (10, .c (CB ok)), (12, .c (CB ok))] ?_ ?_
  · refine dEr ?_
    repeat (refine c0 q2 rfl ?_; first | refine dEr ?_ | exact dz)
    trivial
  clear q1 q2
  refine dr ?_
  refine cP (fun h2 => ?_) (fun h2 => ?_)
  · exact absurd rfl h2
  refine dr ?_
  refine cP (fun h3 => ?_) (fun h3 => ?_)
  · refine dr ?_
    exact congrArg CB (by rw [eqB_d]; simp)
  have q3 := f_impl_LayerOn W0 hM J t
  have q4 := f_impl_LayerJoin W0 hM a J
  rw [eEntsO_eq] at q3
  rw [eMarksO_eq] at q4
  have hx1 : (lOn J t).isSome = true → lOn J t = some ((lOn J t).getD []) := sgD
  have hk1 : (lJoin a J).isSome = true → lJoin a J = some ((lJoin a J).getD []) := sgD
  generalize (lOn J t).isSome = one at *
  generalize (lOn J t).getD [] = X at *
  generalize (lJoin a J).isSome = two at *
  generalize (lJoin a J).getD [] = K at *
  refine dEr ?_
  repeat (refine c0 q3 rfl ?_; first | refine dEr ?_ | exact dz)
  refine cutq [(5, .c (eMarks a)), (8, .c (eEnts t)), (13, .c (eEnts X)), (14, .c (CB one)), (15, .c (eMarks K)), (16, .c (CB two))] ?_ ?_
  · refine dEr ?_
    repeat (refine c0 q4 rfl ?_; first | refine dEr ?_ | exact dz)
    trivial
  clear q3 q4
  refine dr ?_
  refine cP (fun h5 => ?_) (fun h5 => ?_)
  · exact dz
  refine dr ?_
  refine cP (fun h6 => ?_) (fun h6 => ?_)
  · exact dz
  obtain ⟨g1, g2⟩ := join_top (hj1 h3) (hx1 h5) (hk1 h6)
  have q5 := f_impl_LayerOn W0 hM K t
  have q6 := f_impl_LayerOn W0 hM a X
  rw [g1] at q5
  rw [g2] at q6
  refine dEr ?_
  repeat (refine c0 q5 rfl ?_; first | refine dEr ?_ | exact dz)
  refine cutq [(13, .c (eEnts X)), (17, .c (eEnts X)), (18, .c (CB true)), (19, .c (eEnts X)), (20, .c (CB true))] ?_ ?_
  · refine dEr ?_
    repeat (refine c0 q6 rfl ?_; first | refine dEr ?_ | exact dz)
    trivial
  refine dEr ?_
  repeat (refine c0 (f_impl_EntsSame W0 _ _) rfl ?_; first | refine dEr ?_ | exact dz)
  refine cP (fun h7 => ?_) (fun h7 => ?_)
  · refine dEr ?_
    repeat (refine c0 (f_impl_EntsSame W0 _ _) rfl ?_; first | refine dEr ?_ | exact dz)
    exact (dT rfl).symm
  · exact absurd rfl h7


end Go.Proofs.YtjndfhgdlclooaaGreatDoor

/- The walks of the laws on trees on layers; no condition but one on a package variable that start-up code lays. -/
import Derived.Test.YtaecaabnjenllaaGreatDoorIc1
import Derived.Test.YtaecaabnjenllaaGreatDoorDc1
import Derived.Test.YtaecaabnjenllaaGreatDoorDm2
import Derived.Test.YtaecaabnjenllaaGreatDoorLb1
namespace Go.Proofs.YtaecaabnjenllaaGreatDoor
set_option linter.unusedSimpArgs false
set_option linter.unusedVariables false
open Go Go.RowKit

theorem xiT {a : Int} {A B : Prop} (h : A) : cndX (eqI a a) A B := by rw [eqI_t.2 rfl]; exact h
theorem xiF {a : Int} {A B : Prop} (h : B) : cndX (!eqI a a) A B := by rw [eqI_t.2 rfl]; exact h
theorem xbT {a : Bool} {A B : Prop} (h : A) : cndX (eqB a a) A B := by rw [eqB_t.2 rfl]; exact h
theorem xbF {a : Bool} {A B : Prop} (h : B) : cndX (!eqB a a) A B := by rw [eqB_t.2 rfl]; exact h
theorem xiN {a b : Int} {A B : Prop} (k : B) (h : a ≠ b := by decide) : cndX (eqI a b) A B := by rw [eqI_f.2 h]; exact k
theorem xiM {a b : Int} {A B : Prop} (k : A) (h : a ≠ b := by decide) : cndX (!eqI a b) A B := by rw [eqI_f.2 h]; exact k
theorem xbN {a b : Bool} {A B : Prop} (k : B) (h : a ≠ b := by decide) : cndX (eqB a b) A B := by rw [eqB_f.2 h]; exact k
theorem xbM {a b : Bool} {A B : Prop} (k : A) (h : a ≠ b := by decide) : cndX (!eqB a b) A B := by rw [eqB_f.2 h]; exact k
theorem xeT {p d : Str} {b : Bool} {A B : Prop} (h : A) : cndX (eqS p p && (eqB b b && (eqS d d && true))) A B := by rw [eqS_t.2 rfl, eqB_t.2 rfl, eqS_t.2 rfl]; exact h
theorem xeF {p d : Str} {b : Bool} {A B : Prop} (h : B) : cndX (!(eqS p p && (eqB b b && (eqS d d && true)))) A B := by rw [eqS_t.2 rfl, eqB_t.2 rfl, eqS_t.2 rfl]; exact h
theorem xcT {a : Int} : CB (eqI a a) = CB true := congrArg CB (eqI_t.2 rfl)
theorem xcB {a : Bool} : CB (eqB a a) = CB true := congrArg CB (eqB_t.2 rfl)

theorem f_OSt (W0 : World) (a b : Over) (h : a = b) : Fn Go.Proofs.Tryz.prog W0 26 [eOver a, eOver b] (.c (CB true)) [] := by
  have := f_impl_OverSame W0 a b
  rwa [decide_eq_true h] at this
theorem f_ESt (W0 : World) (a b : List Ent) (h : a = b) : Fn Go.Proofs.Tryz.prog W0 15 [eEnts a, eEnts b] (.c (CB true)) [] := by
  have := f_impl_EntsSame W0 a b
  rwa [decide_eq_true h] at this
theorem f_MSt (W0 : World) (a b : List Mark) (h : a = b) : Fn Go.Proofs.Tryz.prog W0 19 [eMarks a, eMarks b] (.c (CB true)) [] := by
  have := f_impl_MarksSame W0 a b
  rwa [decide_eq_true h] at this


theorem dT1 {p : Prop} [Decidable p] (h : p) : CB (decide p) = CB true := (dT h).symm
theorem oDo_no {o : Over} (h : oOk o = false) (op : Op) : oDo o op = (noO, 1) := by rw [oDo, if_neg (by simp [h])]
theorem noE4 : (none : Option (List Ent)) = if false = true then (none : Option (List Ent)) else none := rfl

def c_laws_FnOver : XC := (.s (.r [.ex 2 (.mv .n)]) (.s (.s (.r [.mv 15 0, .ex 16 (.len false (.t 15)), .ex 17 (.bin .gtr (.t 16) (.i 1048576))]) (.cnd (.t 17) (.s (.r [.ex 2 (.mv .y)]) .ret) .skip)) (.s (.r [.mv 19 0, .ex 20 (.opn 37 [(.t 19)]), .mv 18 20, .ex 21 (.ext (.t 18) 0), .ex 22 (.ext (.t 18) 1), .ex 3 (.alloc [.nil, .nil, .nil]), .ex 4 (.alloc [(.c (.sc (.int .i64 0))), (.c (.sc (.string ⟨#[]⟩))), (.c (.sc (.string ⟨#[]⟩))), (.c (.sc (.string ⟨#[]⟩)))]), .nu (.st 3 (.t 3) (.t 21)), .nu (.st 4 (.t 4) (.t 22))]) (.s (.r [.ex 24 (.ld true 3 (.t 3)), .ex 25 (.ld true 4 (.t 4)), .ex 26 (.call 38 [(.t 24), (.t 25)]), .mv 23 26, .ex 27 (.ext (.t 23) 0), .ex 28 (.ext (.t 23) 1), .ex 5 (.alloc [.nil, .nil, .nil]), .nu (.st 3 (.t 5) (.t 27)), .mv 6 28]) (.s (.r [.ex 30 (.ld true 3 (.t 3)), .ex 31 (.ld true 4 (.t 4)), .ex 32 (.call 39 [(.t 30), (.t 31)]), .mv 29 32, .ex 33 (.ext (.t 29) 0), .ex 34 (.ext (.t 29) 1), .ex 7 (.alloc [.nil, .nil, .nil]), .nu (.st 3 (.t 7) (.t 33)), .mv 8 34]) (.s (.s (.d [.mv 35 6, .mv 36 8, .ex 37 (.bin .neq (.t 35) (.t 36)), .mv 38 37, .gf 39 (.ld true 3 (.t 5)) 38, .gf 40 (.ld true 3 (.t 7)) 38, .gf 41 (.call 26 [(.t 39), (.t 40)]) 38, .gf 42 (.un .not (.t 41)) 38, .ex 43 (.pick (.t 38) .y (.t 42)), .mv 44 43, .gf 45 (.ld true 3 (.t 3)) 44, .gf 46 (.call 29 [(.t 45)]) 44, .gf 47 (.ld true 3 (.t 3)) 44, .gf 48 (.call 28 [(.t 47)]) 44, .gf 49 (.bb true (.t 46) (.t 48)) 44, .ex 50 (.pick (.t 44) .y (.t 49))]) (.cnd (.t 50) (.s (.r [.ex 2 (.mv .n)]) .ret) .skip)) (.s (.s (.r [.ex 51 (.ld true 3 (.t 3)), .ex 52 (.call 28 [(.t 51)]), .ex 53 (.un .not (.t 52))]) (.cnd (.t 53) (.s (.r [.mv 54 6, .ex 55 (.bin .eql (.t 54) (.i 1)), .mv 56 55, .gt 57 (.ld true 3 (.t 5)) 56, .gt 58 (.build [.nil, .nil, .nil] []) 56, .gt 59 (.call 26 [(.t 57), (.t 58)]) 56, .ex 60 (.pick (.t 56) (.t 59) .n), .mv 2 60]) .ret) .skip)) (.s (.r [.ex 62 (.ld true 3 (.t 3)), .ex 63 (.call 13 [(.t 62)]), .mv 61 63, .ex 64 (.ext (.t 61) 0), .ex 65 (.ext (.t 61) 1), .ex 9 (.asn (.t 64) 3 44), .mv 10 65]) (.s (.r [.mv 67 9, .ex 68 (.ld true 4 (.t 4)), .ex 69 (.call 40 [(.t 67), (.t 68)]), .mv 66 69, .ex 70 (.ext (.t 66) 0), .ex 71 (.ext (.t 66) 1), .ex 11 (.asn (.t 70) 3 44), .mv 12 71]) (.s (.r [.ex 73 (.ld true 3 (.t 5)), .ex 74 (.call 13 [(.t 73)]), .mv 72 74, .ex 75 (.ext (.t 72) 0), .ex 76 (.ext (.t 72) 1), .ex 13 (.asn (.t 75) 3 44), .mv 14 76]) (.s (.r [.mv 77 14, .mv 78 77, .gt 79 (.mv (.t 6)) 78, .gt 80 (.mv (.t 12)) 78, .gt 81 (.bin .eql (.t 79) (.t 80)) 78, .ex 82 (.pick (.t 78) (.t 81) .n), .mv 83 82, .gt 84 (.mv (.t 11)) 83, .gt 85 (.mv (.t 13)) 83, .gt 86 (.call 15 [(.t 84), (.t 85)]) 83, .ex 87 (.pick (.t 83) (.t 86) .n), .mv 88 87, .gt 89 (.ld true 3 (.t 5)) 88, .gt 90 (.call 29 [(.t 89)]) 88, .ex 91 (.pick (.t 88) (.t 90) .n), .mv 92 91, .gt 93 (.mv (.t 6)) 92, .gt 94 (.bin .eql (.t 93) (.i 0)) 92, .gt 95 (.mv (.t 94)) 92, .gf 96 (.ld true 3 (.t 5)) 95, .gf 97 (.ld true 3 (.t 3)) 95, .gf 98 (.call 26 [(.t 96), (.t 97)]) 95, .gt 99 (.pick (.t 95) .y (.t 98)) 92, .ex 100 (.pick (.t 92) (.t 99) .n), .mv 2 100]) .ret)))))))))))
theorem c_laws_FnOver_eq : compF Go.Proofs.Tryz.prog [37] 9 = some (c_laws_FnOver.ac, [(.t 2)], 101) := by kernel_rfl

theorem f_FnOver (W0 : World) (hs : W0.ShapedOpen Go.Proofs.Tryz.prog) (c0' : Str) : Fn Go.Proofs.Tryz.prog W0 9 [eCode c0'] (.c (CB true)) [] := by
  have hM := hM_of hs
  refine fnX (c := c_laws_FnOver) mixed c_laws_FnOver_eq (by simp) rfl fun hg => ?_
  refine dr ?_
  refine cP (fun h1 => ?_) (fun h1 => ?_)
  · exact dz
  refine dr ?_
  refine oW (f_DrawOverDo W0 c0') rfl trivial rfl rfl ⟨(noO, ⟨0, [], [], []⟩), OS.no.oz.mono (by omega)⟩ fun x hx => ⟨rfl, ?_⟩
  obtain ⟨o, op⟩ := x
  clear hx
  have q1 := f_impl_OverDo W0 hM o op
  have q2 := f_spec_OverDo W0 o op
  have q3 := f_impl_OverOk W0 hM o
  have q4 := f_spec_OverOk W0 o
  cases h2 : oOk o with
  | false =>
    rw [oDo_no h2] at q1 q2
    rw [h2] at q3 q4
    refine dEr ?_
    repeat ((first | refine c0 q1 rfl ?_ | refine c0 q2 rfl ?_ | refine c0 q3 rfl ?_ | refine c0 q4 rfl ?_ | refine xiT ?_ | refine xiF ?_ | refine xbT ?_ | refine xbF ?_ | refine xiN ?_ | refine xiM ?_ | refine xbN ?_ | refine xbM ?_ | refine xeT ?_ | refine xeF ?_ | refine c0 (f_OSt W0 _ _ rfl) rfl ?_ | refine c0 (f_ESt W0 _ _ rfl) rfl ?_ | refine c0 (f_MSt W0 _ _ rfl) rfl ?_); first | refine dEr ?_ | exact dz)
    try rfl
  | true =>
    obtain ⟨t, x, g⟩ := OG.of h2
    obtain ⟨g1, g2, _, _, g5⟩ := g.do op
    rw [h2] at q3 q4
    have q5 := f_impl_OverView W0 hM o
    rw [if_pos h2, g.vw] at q5
    have q6 := f_impl_TreeDo W0 hM x op
    have q7 := f_impl_OverView W0 hM (oDo o op).1
    rw [if_pos g1.ok, g1.vw] at q7
    have q8 := f_impl_OverOk W0 hM (oDo o op).1
    rw [g1.ok] at q8
    generalize oDo o op = r at *
    obtain ⟨y, c⟩ := r
    simp only at g2
    subst g2
    refine dEr ?_
    repeat ((first | refine c0 q1 rfl ?_ | refine c0 q2 rfl ?_ | refine c0 q3 rfl ?_ | refine c0 q4 rfl ?_ | refine c0 q5 rfl ?_ | refine c0 q6 rfl ?_ | refine c0 q7 rfl ?_ | refine c0 q8 rfl ?_ | refine xiT ?_ | refine xiF ?_ | refine xbT ?_ | refine xbF ?_ | refine xiN ?_ | refine xiM ?_ | refine xbN ?_ | refine xbM ?_ | refine xeT ?_ | refine xeF ?_ | refine c0 (f_OSt W0 _ _ rfl) rfl ?_ | refine c0 (f_ESt W0 _ _ rfl) rfl ?_ | refine c0 (f_MSt W0 _ _ rfl) rfl ?_); first | refine dEr ?_ | exact dz)
    refine cP (fun h3 => ?_) (fun h3 => ?_)
    · exact dz
    · have := g5 h3
      refine dEr ?_
      repeat ((first | refine c0 (f_OSt W0 _ _ this) rfl ?_ | refine xiT ?_ | refine xiF ?_ | refine xbT ?_ | refine xbF ?_ | refine xiN ?_ | refine xiM ?_ | refine xbN ?_ | refine xbM ?_ | refine xeT ?_ | refine xeF ?_ | refine c0 (f_OSt W0 _ _ rfl) rfl ?_ | refine c0 (f_ESt W0 _ _ rfl) rfl ?_ | refine c0 (f_MSt W0 _ _ rfl) rfl ?_); first | refine dEr ?_ | exact dz)


def c_laws_FnOverUpper : XC := (.s (.r [.ex 2 (.mv .n)]) (.s (.s (.r [.mv 14 0, .ex 15 (.len false (.t 14)), .ex 16 (.bin .gtr (.t 15) (.i 1048576))]) (.cnd (.t 16) (.s (.r [.ex 2 (.mv .y)]) .ret) .skip)) (.s (.r [.mv 17 0, .ex 18 (.opn 12 [(.t 17)]), .ex 3 (.alloc [.nil, .nil, .nil]), .nu (.st 3 (.t 3) (.t 18))]) (.s (.r [.ex 20 (.ld true 3 (.t 3)), .ex 21 (.call 13 [(.t 20)]), .mv 19 21, .ex 22 (.ext (.t 19) 0), .ex 23 (.ext (.t 19) 1), .ex 4 (.asn (.t 22) 3 44), .mv 5 23]) (.s (.r [.ex 25 (.ld true 3 (.t 3)), .ex 26 (.call 14 [(.t 25)]), .mv 24 26, .ex 27 (.ext (.t 24) 0), .ex 28 (.ext (.t 24) 1), .ex 6 (.asn (.t 27) 3 44), .mv 7 28]) (.s (.s (.r [.mv 29 5, .mv 30 7, .ex 31 (.bb true (.t 29) (.t 30)), .mv 32 31, .gf 33 (.mv (.t 4)) 32, .gf 34 (.mv (.t 6)) 32, .gf 35 (.call 15 [(.t 33), (.t 34)]) 32, .gf 36 (.un .not (.t 35)) 32, .ex 37 (.pick (.t 32) .y (.t 36)), .mv 38 37, .gf 39 (.mv (.t 5)) 38, .gf 40 (.un .not (.t 39)) 38, .ex 41 (.pick (.t 38) .y (.t 40))]) (.cnd (.t 41) (.s (.r [.mv 42 5, .mv 43 7, .ex 44 (.bb false (.t 42) (.t 43)), .mv 45 44, .gt 46 (.mv (.t 4)) 45, .gt 47 (.mv (.t 6)) 45, .gt 48 (.call 15 [(.t 46), (.t 47)]) 45, .ex 49 (.pick (.t 45) (.t 48) .n), .mv 2 49]) .ret) .skip)) (.s (.r [.ex 51 (.ld true 3 (.t 3)), .ex 52 (.call 16 [(.t 51)]), .mv 50 52, .ex 53 (.ext (.t 50) 0), .ex 54 (.ext (.t 50) 1), .ex 8 (.asn (.t 53) 3 44), .mv 9 54]) (.s (.r [.ex 56 (.ld true 3 (.t 3)), .ex 57 (.call 17 [(.t 56)]), .mv 55 57, .ex 58 (.ext (.t 55) 0), .ex 59 (.ext (.t 55) 1), .ex 10 (.asn (.t 58) 3 44), .mv 11 59]) (.s (.r [.ex 61 (.fa 2 (.t 3)), .ex 62 (.ld false 1 (.t 61)), .mv 63 8, .ex 64 (.call 18 [(.t 62), (.t 63)]), .mv 60 64, .ex 65 (.ext (.t 60) 0), .ex 66 (.ext (.t 60) 1), .ex 12 (.asn (.t 65) 3 44), .mv 13 66]) (.s (.d [.mv 67 8, .mv 68 10, .ex 69 (.call 15 [(.t 67), (.t 68)]), .mv 70 69, .gt 71 (.mv (.t 13)) 70, .ex 72 (.pick (.t 70) (.t 71) .n), .mv 73 72, .gt 74 (.mv (.t 12)) 73, .gt 75 (.mv (.t 4)) 73, .gt 76 (.call 15 [(.t 74), (.t 75)]) 73, .ex 77 (.pick (.t 73) (.t 76) .n), .mv 78 77, .gt 79 (.fa 2 (.t 3)) 78, .gt 80 (.ld false 1 (.t 79)) 78, .gt 81 (.mv (.t 8)) 78, .gt 82 (.mv (.t 4)) 78, .gt 83 (.call 20 [(.t 81), (.t 82)]) 78, .gt 84 (.call 19 [(.t 80), (.t 83)]) 78, .ex 85 (.pick (.t 78) (.t 84) .n), .mv 86 85, .gt 87 (.fa 2 (.t 3)) 86, .gt 88 (.ld false 1 (.t 87)) 86, .gt 89 (.len false (.t 88)) 86, .gt 90 (.bin .eql (.t 89) (.i 0)) 86, .gt 91 (.mv (.t 8)) 86, .gt 92 (.mv (.t 4)) 86, .gt 93 (.call 15 [(.t 91), (.t 92)]) 86, .gt 94 (.bb false (.t 90) (.t 93)) 86, .ex 95 (.pick (.t 86) (.t 94) .n), .mv 2 95]) .ret))))))))))
theorem c_laws_FnOverUpper_eq : compF Go.Proofs.Tryz.prog [12] 3 = some (c_laws_FnOverUpper.ac, [(.t 2)], 96) := by kernel_rfl

theorem f_FnOverUpper (W0 : World) (hs : W0.ShapedOpen Go.Proofs.Tryz.prog) (c0' : Str) : Fn Go.Proofs.Tryz.prog W0 3 [eCode c0'] (.c (CB true)) [] := by
  refine fnX (c := c_laws_FnOverUpper) mixed c_laws_FnOverUpper_eq (by simp) rfl fun hg => ?_
  have hM := hM_of hs
  refine dr ?_
  refine cP (fun h1 => ?_) (fun h1 => ?_)
  · exact dz
  refine dr ?_
  refine oW (f_DrawOverView W0 c0') rfl trivial rfl rfl ⟨noO, OS.no.oz.mono (by omega)⟩ fun o hx => ⟨rfl, ?_⟩
  clear hx
  have q1 := f_impl_OverView W0 hM o
  have q2 := f_spec_OverView W0 o
  cases h2 : oOk o with
  | false =>
    rw [h2] at q1 q2
    refine dEr ?_
    repeat ((first | refine c0 q1 rfl ?_ | refine c0 q2 rfl ?_ | refine xiT ?_ | refine xiF ?_ | refine xbT ?_ | refine xbF ?_ | refine xiN ?_ | refine xiM ?_ | refine xbN ?_ | refine xbM ?_ | refine xeT ?_ | refine xeF ?_ | refine c0 (f_OSt W0 _ _ rfl) rfl ?_ | refine c0 (f_ESt W0 _ _ rfl) rfl ?_ | refine c0 (f_MSt W0 _ _ rfl) rfl ?_); first | refine dEr ?_ | exact dz)
    try rfl
  | true =>
    obtain ⟨t, x, g⟩ := OG.of h2
    rw [if_pos h2, g.vw] at q1 q2
    have q3 := f_impl_OverLower W0 hM o
    have q4 := f_spec_OverLower W0 o
    rw [if_pos h2, g.low] at q3 q4
    have q5 := f_impl_LayerOn W0 hM o.upper t
    rw [g.on] at q5
    have q6 := f_impl_LayerDiff W0 hM t x
    rw [diffO, if_pos (by simp [g.gt, g.gx])] at q6
    have gu := g.up
    refine dEr ?_
    repeat ((first | refine c0 q1 rfl ?_ | refine c0 q2 rfl ?_ | refine c0 q3 rfl ?_ | refine c0 q4 rfl ?_ | refine c0 q5 rfl ?_ | refine c0 q6 rfl ?_ | refine c0 (f_MSt W0 _ _ gu) rfl ?_ | refine c0 (f_impl_EntsSame W0 t x) rfl ?_ | refine xiT ?_ | refine xiF ?_ | refine xbT ?_ | refine xbF ?_ | refine xiN ?_ | refine xiM ?_ | refine xbN ?_ | refine xbM ?_ | refine xeT ?_ | refine xeF ?_ | refine c0 (f_OSt W0 _ _ rfl) rfl ?_ | refine c0 (f_ESt W0 _ _ rfl) rfl ?_ | refine c0 (f_MSt W0 _ _ rfl) rfl ?_); first | refine dEr ?_ | exact dz)
    refine congrArg CB (eqB_t.2 ?_)
    rw [Bool.eq_iff_iff, eqI_t, decide_eq_true_iff, ← diff_nil g.gt g.gx, ← gu]
    simp


def c_laws_FnOverLow : XC := (.s (.r [.ex 2 (.mv .n)]) (.s (.s (.r [.mv 15 0, .ex 16 (.len false (.t 15)), .ex 17 (.bin .gtr (.t 16) (.i 1048576))]) (.cnd (.t 17) (.s (.r [.ex 2 (.mv .y)]) .ret) .skip)) (.s (.r [.mv 18 0, .ex 19 (.opn 21 [(.t 18)]), .ex 3 (.alloc [.nil, .nil, .nil]), .nu (.st 3 (.t 3) (.t 19))]) (.s (.r [.ex 21 (.ld true 3 (.t 3)), .ex 22 (.call 16 [(.t 21)]), .mv 20 22, .ex 23 (.ext (.t 20) 0), .ex 24 (.ext (.t 20) 1), .ex 4 (.asn (.t 23) 3 44), .mv 5 24]) (.s (.r [.ex 26 (.ld true 3 (.t 3)), .ex 27 (.call 17 [(.t 26)]), .mv 25 27, .ex 28 (.ext (.t 25) 0), .ex 29 (.ext (.t 25) 1), .ex 6 (.asn (.t 28) 3 44), .mv 7 29]) (.s (.s (.r [.mv 30 5, .mv 31 7, .ex 32 (.bb true (.t 30) (.t 31)), .mv 33 32, .gf 34 (.mv (.t 4)) 33, .gf 35 (.mv (.t 6)) 33, .gf 36 (.call 15 [(.t 34), (.t 35)]) 33, .gf 37 (.un .not (.t 36)) 33, .ex 38 (.pick (.t 33) .y (.t 37)), .mv 39 38, .gf 40 (.mv (.t 5)) 39, .gf 41 (.un .not (.t 40)) 39, .ex 42 (.pick (.t 39) .y (.t 41))]) (.cnd (.t 42) (.s (.r [.mv 43 5, .mv 44 7, .ex 45 (.bb false (.t 43) (.t 44)), .mv 46 45, .gt 47 (.mv (.t 4)) 46, .gt 48 (.mv (.t 6)) 46, .gt 49 (.call 15 [(.t 47), (.t 48)]) 46, .ex 50 (.pick (.t 46) (.t 49) .n), .mv 2 50]) .ret) .skip)) (.s (.r [.ex 52 (.ld true 3 (.t 3)), .ex 53 (.call 13 [(.t 52)]), .mv 51 53, .ex 54 (.ext (.t 51) 0), .ex 55 (.ext (.t 51) 1), .ex 8 (.asn (.t 54) 3 44), .mv 9 55]) (.s (.r [.ex 57 (.ld true 3 (.t 3)), .ex 58 (.call 22 [(.t 57)]), .mv 56 58, .ex 59 (.ext (.t 56) 0), .ex 60 (.ext (.t 56) 1), .ex 10 (.alloc [.nil, .nil, .nil]), .nu (.st 3 (.t 10) (.t 59)), .mv 11 60]) (.s (.r [.ex 62 (.ld true 3 (.t 10)), .ex 63 (.call 16 [(.t 62)]), .mv 61 63, .ex 64 (.ext (.t 61) 0), .ex 65 (.ext (.t 61) 1), .ex 12 (.asn (.t 64) 3 44), .mv 13 65]) (.s (.r [.ex 66 (.ld true 3 (.t 10)), .ex 67 (.call 23 [(.t 66)]), .ex 14 (.alloc [.nil, .nil, .nil]), .nu (.st 3 (.t 14) (.t 67))]) (.s (.r [.mv 68 11, .ex 69 (.un .not (.t 68)), .mv 70 69, .gt 71 (.fa 1 (.t 3)) 70, .gt 72 (.ld false 1 (.t 71)) 70, .gt 73 (.len false (.t 72)) 70, .gt 74 (.bin .eql (.t 73) (.i 4)) 70, .ex 75 (.pick (.t 70) (.t 74) .n), .mv 76 75, .gf 77 (.mv (.t 11)) 76, .gf 78 (.mv (.t 77)) 76, .gt 79 (.mv (.t 12)) 78, .gt 80 (.mv (.t 8)) 78, .gt 81 (.call 15 [(.t 79), (.t 80)]) 78, .gf 82 (.pick (.t 78) (.t 81) .n) 76, .gf 83 (.mv (.t 82)) 76, .gt 84 (.fa 0 (.t 14)) 83, .gt 85 (.ld false 1 (.t 84)) 83, .gt 86 (.mv (.t 8)) 83, .gt 87 (.call 15 [(.t 85), (.t 86)]) 83, .gf 88 (.pick (.t 83) (.t 87) .n) 76, .gf 89 (.mv (.t 88)) 76, .gt 90 (.fa 2 (.t 14)) 89, .gt 91 (.ld false 1 (.t 90)) 89, .gt 92 (.len false (.t 91)) 89, .gt 93 (.bin .eql (.t 92) (.i 0)) 89, .gf 94 (.pick (.t 89) (.t 93) .n) 76, .ex 95 (.pick (.t 76) .y (.t 94)), .mv 2 95]) .ret)))))))))))
theorem c_laws_FnOverLow_eq : compF Go.Proofs.Tryz.prog [21] 4 = some (c_laws_FnOverLow.ac, [(.t 2)], 96) := by kernel_rfl

theorem f_FnOverLow (W0 : World) (hs : W0.ShapedOpen Go.Proofs.Tryz.prog) (c0' : Str) : Fn Go.Proofs.Tryz.prog W0 4 [eCode c0'] (.c (CB true)) [] := by
  refine fnX (c := c_laws_FnOverLow) mixed c_laws_FnOverLow_eq (by simp) rfl fun hg => ?_
  have hM := hM_of hs
  refine dr ?_
  refine cP (fun h1 => ?_) (fun h1 => ?_)
  · exact dz
  refine dr ?_
  refine oW (f_DrawOverLower W0 c0') rfl trivial rfl rfl ⟨noO, OS.no.oz.mono (by omega)⟩ fun o hx => ⟨rfl, ?_⟩
  clear hx
  have q1 := f_impl_OverLower W0 hM o
  have q2 := f_spec_OverLower W0 o
  cases h2 : oOk o with
  | false =>
    rw [h2] at q1 q2
    refine dEr ?_
    repeat ((first | refine c0 q1 rfl ?_ | refine c0 q2 rfl ?_ | refine xiT ?_ | refine xiF ?_ | refine xbT ?_ | refine xbF ?_ | refine xiN ?_ | refine xiM ?_ | refine xbN ?_ | refine xbM ?_ | refine xeT ?_ | refine xeF ?_ | refine c0 (f_OSt W0 _ _ rfl) rfl ?_ | refine c0 (f_ESt W0 _ _ rfl) rfl ?_ | refine c0 (f_MSt W0 _ _ rfl) rfl ?_); first | refine dEr ?_ | exact dz)
    try rfl
  | true =>
    obtain ⟨t, x, g⟩ := OG.of h2
    rw [if_pos h2, g.low] at q1 q2
    have q3 := f_impl_OverView W0 hM o
    rw [if_pos h2, g.vw] at q3
    have q4 := f_impl_OverPush W0 hM o
    by_cases hl : 4 ≤ o.layers.length
    · obtain ⟨e1, e2⟩ := g.push_no hl
      rw [e1] at q4
      have q6 := f_impl_OverSink W0 hM o
      rw [g.sink.1] at q6
      refine dEr ?_
      repeat ((first | refine c0 q1 rfl ?_ | refine c0 q2 rfl ?_ | refine c0 q3 rfl ?_ | refine c0 q4 rfl ?_ | refine c0 q6 rfl ?_ | refine xiT ?_ | refine xiF ?_ | refine xbT ?_ | refine xbF ?_ | refine xiN ?_ | refine xiM ?_ | refine xbN ?_ | refine xbM ?_ | refine xeT ?_ | refine xeF ?_ | refine c0 (f_OSt W0 _ _ rfl) rfl ?_ | refine c0 (f_ESt W0 _ _ rfl) rfl ?_ | refine c0 (f_MSt W0 _ _ rfl) rfl ?_); first | refine dEr ?_ | exact dz)
      refine cP (fun h3 => ?_) (fun h3 => ?_)
      · exact dz
      · omega
    · obtain ⟨e1, g1⟩ := g.push hl
      rw [e1] at q4
      have q5 := f_impl_OverLower W0 hM ⟨o.base, o.layers ++ [o.upper], []⟩
      rw [if_pos g1.ok, g1.low] at q5
      have q6 := f_impl_OverSink W0 hM ⟨o.base, o.layers ++ [o.upper], []⟩
      rw [g1.sink.1] at q6
      refine dEr ?_
      repeat ((first | refine c0 q1 rfl ?_ | refine c0 q2 rfl ?_ | refine c0 q3 rfl ?_ | refine c0 q4 rfl ?_ | refine c0 q5 rfl ?_ | refine c0 q6 rfl ?_ | refine xiT ?_ | refine xiF ?_ | refine xbT ?_ | refine xbF ?_ | refine xiN ?_ | refine xiM ?_ | refine xbN ?_ | refine xbM ?_ | refine xeT ?_ | refine xeF ?_ | refine c0 (f_OSt W0 _ _ rfl) rfl ?_ | refine c0 (f_ESt W0 _ _ rfl) rfl ?_ | refine c0 (f_MSt W0 _ _ rfl) rfl ?_); first | refine dEr ?_ | exact dz)
      try exact xcT


def c_laws_FnOverDrop : XC := (.s (.r [.ex 2 (.mv .n)]) (.s (.s (.r [.mv 9 0, .ex 10 (.len false (.t 9)), .ex 11 (.bin .gtr (.t 10) (.i 1048576))]) (.cnd (.t 11) (.s (.r [.ex 2 (.mv .y)]) .ret) .skip)) (.s (.r [.mv 12 0, .ex 13 (.opn 24 [(.t 12)]), .ex 3 (.alloc [.nil, .nil, .nil]), .nu (.st 3 (.t 3) (.t 13))]) (.s (.r [.ex 14 (.ld true 3 (.t 3)), .ex 15 (.call 25 [(.t 14)]), .ex 4 (.alloc [.nil, .nil, .nil]), .nu (.st 3 (.t 4) (.t 15))]) (.s (.s (.d [.ex 16 (.ld true 3 (.t 4)), .ex 17 (.ld true 3 (.t 3)), .ex 18 (.call 27 [(.t 17)]), .ex 19 (.call 26 [(.t 16), (.t 18)]), .ex 20 (.un .not (.t 19))]) (.cnd (.t 20) (.s (.r [.ex 2 (.mv .n)]) .ret) .skip)) (.s (.s (.r [.ex 21 (.ld true 3 (.t 3)), .ex 22 (.call 28 [(.t 21)]), .ex 23 (.un .not (.t 22))]) (.cnd (.t 23) (.s (.r [.ex 24 (.ld true 3 (.t 4)), .ex 25 (.build [.nil, .nil, .nil] []), .ex 26 (.call 26 [(.t 24), (.t 25)]), .mv 2 26]) .ret) .skip)) (.s (.r [.ex 28 (.ld true 3 (.t 3)), .ex 29 (.call 16 [(.t 28)]), .mv 27 29, .ex 30 (.ext (.t 27) 0), .ex 31 (.ext (.t 27) 1), .ex 5 (.asn (.t 30) 3 44), .mv 6 31]) (.s (.r [.ex 33 (.ld true 3 (.t 4)), .ex 34 (.call 13 [(.t 33)]), .mv 32 34, .ex 35 (.ext (.t 32) 0), .ex 36 (.ext (.t 32) 1), .ex 7 (.asn (.t 35) 3 44), .mv 8 36]) (.s (.d [.mv 37 8, .mv 38 37, .gt 39 (.mv (.t 5)) 38, .gt 40 (.mv (.t 7)) 38, .gt 41 (.call 15 [(.t 39), (.t 40)]) 38, .ex 42 (.pick (.t 38) (.t 41) .n), .mv 43 42, .gt 44 (.ld true 3 (.t 4)) 43, .gt 45 (.call 29 [(.t 44)]) 43, .ex 46 (.pick (.t 43) (.t 45) .n), .mv 47 46, .gt 48 (.ld true 3 (.t 4)) 47, .gt 49 (.call 25 [(.t 48)]) 47, .gt 50 (.ld true 3 (.t 4)) 47, .gt 51 (.call 26 [(.t 49), (.t 50)]) 47, .ex 52 (.pick (.t 47) (.t 51) .n), .mv 2 52]) .ret)))))))))
theorem c_laws_FnOverDrop_eq : compF Go.Proofs.Tryz.prog [24] 5 = some (c_laws_FnOverDrop.ac, [(.t 2)], 53) := by kernel_rfl

theorem f_FnOverDrop (W0 : World) (hs : W0.ShapedOpen Go.Proofs.Tryz.prog) (c0' : Str) : Fn Go.Proofs.Tryz.prog W0 5 [eCode c0'] (.c (CB true)) [] := by
  refine fnX (c := c_laws_FnOverDrop) mixed c_laws_FnOverDrop_eq (by simp) rfl fun hg => ?_
  have hM := hM_of hs
  refine dr ?_
  refine cP (fun h1 => ?_) (fun h1 => ?_)
  · exact dz
  refine dr ?_
  refine oW (f_DrawOverDrop W0 c0') rfl trivial rfl rfl ⟨noO, OS.no.oz.mono (by omega)⟩ fun o hx => ⟨rfl, ?_⟩
  clear hx
  have q1 := f_impl_OverDrop W0 hM o
  have q2 := f_spec_OverDrop W0 o
  have q3 := f_spec_OverOk W0 o
  cases h2 : oOk o with
  | false =>
    rw [oDrop, if_neg (by simp [h2])] at q1 q2
    rw [h2] at q3
    refine dEr ?_
    repeat ((first | refine c0 q1 rfl ?_ | refine c0 q2 rfl ?_ | refine c0 q3 rfl ?_ | refine xiT ?_ | refine xiF ?_ | refine xbT ?_ | refine xbF ?_ | refine xiN ?_ | refine xiM ?_ | refine xbN ?_ | refine xbM ?_ | refine xeT ?_ | refine xeF ?_ | refine c0 (f_OSt W0 _ _ rfl) rfl ?_ | refine c0 (f_ESt W0 _ _ rfl) rfl ?_ | refine c0 (f_MSt W0 _ _ rfl) rfl ?_); first | refine dEr ?_ | exact dz)
    try rfl
  | true =>
    obtain ⟨t, x, g⟩ := OG.of h2
    obtain ⟨e1, g1⟩ := g.drop
    rw [e1] at q1 q2
    rw [h2] at q3
    have q4 := f_impl_OverLower W0 hM o
    rw [if_pos h2, g.low] at q4
    have q5 := f_impl_OverView W0 hM ⟨o.base, o.layers, []⟩
    rw [if_pos g1.ok, g1.vw] at q5
    have q6 := f_impl_OverOk W0 hM ⟨o.base, o.layers, []⟩
    rw [g1.ok] at q6
    have q7 := f_impl_OverDrop W0 hM ⟨o.base, o.layers, []⟩
    rw [g1.drop.1] at q7
    refine dEr ?_
    repeat ((first | refine c0 q1 rfl ?_ | refine c0 q2 rfl ?_ | refine c0 q3 rfl ?_ | refine c0 q4 rfl ?_ | refine c0 q5 rfl ?_ | refine c0 q6 rfl ?_ | refine c0 q7 rfl ?_ | refine xiT ?_ | refine xiF ?_ | refine xbT ?_ | refine xbF ?_ | refine xiN ?_ | refine xiM ?_ | refine xbN ?_ | refine xbM ?_ | refine xeT ?_ | refine xeF ?_ | refine c0 (f_OSt W0 _ _ rfl) rfl ?_ | refine c0 (f_ESt W0 _ _ rfl) rfl ?_ | refine c0 (f_MSt W0 _ _ rfl) rfl ?_); first | refine dEr ?_ | exact dz)
    try rfl


def c_laws_FnOverFlat : XC := (.s (.r [.ex 2 (.mv .n)]) (.s (.s (.r [.mv 16 0, .ex 17 (.len false (.t 16)), .ex 18 (.bin .gtr (.t 17) (.i 1048576))]) (.cnd (.t 18) (.s (.r [.ex 2 (.mv .y)]) .ret) .skip)) (.s (.r [.mv 19 0, .ex 20 (.opn 34 [(.t 19)]), .ex 3 (.alloc [.nil, .nil, .nil]), .nu (.st 3 (.t 3) (.t 20))]) (.s (.r [.ex 22 (.ld true 3 (.t 3)), .ex 23 (.call 35 [(.t 22)]), .mv 21 23, .ex 24 (.ext (.t 21) 0), .ex 25 (.ext (.t 21) 1), .ex 4 (.alloc [.nil, .nil, .nil]), .nu (.st 3 (.t 4) (.t 24)), .mv 5 25]) (.s (.r [.ex 27 (.ld true 3 (.t 3)), .ex 28 (.call 36 [(.t 27)]), .mv 26 28, .ex 29 (.ext (.t 26) 0), .ex 30 (.ext (.t 26) 1), .ex 6 (.alloc [.nil, .nil, .nil]), .nu (.st 3 (.t 6) (.t 29)), .mv 7 30]) (.s (.s (.r [.mv 31 5, .mv 32 7, .ex 33 (.bb true (.t 31) (.t 32)), .mv 34 33, .gf 35 (.ld true 3 (.t 4)) 34, .gf 36 (.ld true 3 (.t 6)) 34, .gf 37 (.call 26 [(.t 35), (.t 36)]) 34, .gf 38 (.un .not (.t 37)) 34, .ex 39 (.pick (.t 34) .y (.t 38))]) (.cnd (.t 39) (.s (.r [.ex 2 (.mv .n)]) .ret) .skip)) (.s (.s (.r [.mv 40 5, .ex 41 (.un .not (.t 40))]) (.cnd (.t 41) (.s (.r [.ex 42 (.ld true 3 (.t 4)), .ex 43 (.ld true 3 (.t 3)), .ex 44 (.call 26 [(.t 42), (.t 43)]), .mv 45 44, .gf 46 (.ld true 3 (.t 3)) 45, .gf 47 (.call 28 [(.t 46)]) 45, .gf 48 (.un .not (.t 47)) 45, .gf 49 (.mv (.t 48)) 45, .gt 50 (.ld true 3 (.t 4)) 49, .gt 51 (.build [.nil, .nil, .nil] []) 49, .gt 52 (.call 26 [(.t 50), (.t 51)]) 49, .gf 53 (.pick (.t 49) (.t 52) .n) 45, .ex 54 (.pick (.t 45) .y (.t 53)), .mv 2 54]) .ret) .skip)) (.s (.r [.ex 56 (.ld true 3 (.t 3)), .ex 57 (.call 13 [(.t 56)]), .mv 55 57, .ex 58 (.ext (.t 55) 0), .ex 59 (.ext (.t 55) 1), .ex 8 (.asn (.t 58) 3 44), .mv 9 59]) (.s (.r [.ex 61 (.ld true 3 (.t 4)), .ex 62 (.call 13 [(.t 61)]), .mv 60 62, .ex 63 (.ext (.t 60) 0), .ex 64 (.ext (.t 60) 1), .ex 10 (.asn (.t 63) 3 44), .mv 11 64]) (.s (.r [.ex 66 (.ld true 3 (.t 3)), .ex 67 (.call 16 [(.t 66)]), .mv 65 67, .ex 68 (.ext (.t 65) 0), .ex 69 (.ext (.t 65) 1), .ex 12 (.asn (.t 68) 3 44), .mv 13 69]) (.s (.r [.ex 71 (.ld true 3 (.t 4)), .ex 72 (.call 16 [(.t 71)]), .mv 70 72, .ex 73 (.ext (.t 70) 0), .ex 74 (.ext (.t 70) 1), .ex 14 (.asn (.t 73) 3 44), .mv 15 74]) (.s (.r [.mv 75 11, .mv 76 75, .gt 77 (.mv (.t 8)) 76, .gt 78 (.mv (.t 10)) 76, .gt 79 (.call 15 [(.t 77), (.t 78)]) 76, .ex 80 (.pick (.t 76) (.t 79) .n), .mv 81 80, .gt 82 (.mv (.t 12)) 81, .gt 83 (.mv (.t 14)) 81, .gt 84 (.call 15 [(.t 82), (.t 83)]) 81, .ex 85 (.pick (.t 81) (.t 84) .n), .mv 86 85, .gt 87 (.ld true 3 (.t 4)) 86, .gt 88 (.call 29 [(.t 87)]) 86, .ex 89 (.pick (.t 86) (.t 88) .n), .mv 90 89, .gt 91 (.fa 1 (.t 4)) 90, .gt 92 (.ld false 1 (.t 91)) 90, .gt 93 (.len false (.t 92)) 90, .gt 94 (.bin .eql (.t 93) (.i 1)) 90, .ex 95 (.pick (.t 90) (.t 94) .n), .mv 96 95, .gt 97 (.fa 2 (.t 4)) 96, .gt 98 (.ld false 1 (.t 97)) 96, .gt 99 (.fa 2 (.t 3)) 96, .gt 100 (.ld false 1 (.t 99)) 96, .gt 101 (.call 19 [(.t 98), (.t 100)]) 96, .ex 102 (.pick (.t 96) (.t 101) .n), .mv 2 102]) .ret))))))))))))
theorem c_laws_FnOverFlat_eq : compF Go.Proofs.Tryz.prog [34] 8 = some (c_laws_FnOverFlat.ac, [(.t 2)], 103) := by kernel_rfl

theorem f_FnOverFlat (W0 : World) (hs : W0.ShapedOpen Go.Proofs.Tryz.prog) (c0' : Str) : Fn Go.Proofs.Tryz.prog W0 8 [eCode c0'] (.c (CB true)) [] := by
  refine fnX (c := c_laws_FnOverFlat) mixed c_laws_FnOverFlat_eq (by simp) rfl fun hg => ?_
  have hM := hM_of hs
  refine dr ?_
  refine cP (fun h1 => ?_) (fun h1 => ?_)
  · exact dz
  refine dr ?_
  refine oW (f_DrawOverFlat W0 c0') rfl trivial rfl rfl ⟨noO, OS.no.oz.mono (by omega)⟩ fun o hx => ⟨rfl, ?_⟩
  clear hx
  have q1 := f_impl_OverFlat W0 hM o
  have q2 := f_spec_OverFlat W0 o
  have q3 := f_spec_OverOk W0 o
  cases h2 : oOk o with
  | false =>
    rw [oFlat, if_neg (by simp [h2])] at q1 q2
    rw [h2] at q3
    refine dEr ?_
    repeat ((first | refine c0 q1 rfl ?_ | refine c0 q2 rfl ?_ | refine c0 q3 rfl ?_ | refine c0 (f_impl_OverSame W0 noO o) rfl ?_ | refine xiT ?_ | refine xiF ?_ | refine xbT ?_ | refine xbF ?_ | refine xiN ?_ | refine xiM ?_ | refine xbN ?_ | refine xbM ?_ | refine xeT ?_ | refine xeF ?_ | refine c0 (f_OSt W0 _ _ rfl) rfl ?_ | refine c0 (f_ESt W0 _ _ rfl) rfl ?_ | refine c0 (f_MSt W0 _ _ rfl) rfl ?_); first | refine dEr ?_ | exact dz)
    refine cP (fun h3 => ?_) (fun h3 => ?_)
    · exact dz
    · refine dEr ?_
      repeat ((first | refine c0 q3 rfl ?_ | refine xiT ?_ | refine xiF ?_ | refine xbT ?_ | refine xbF ?_ | refine xiN ?_ | refine xiM ?_ | refine xbN ?_ | refine xbM ?_ | refine xeT ?_ | refine xeF ?_ | refine c0 (f_OSt W0 _ _ rfl) rfl ?_ | refine c0 (f_ESt W0 _ _ rfl) rfl ?_ | refine c0 (f_MSt W0 _ _ rfl) rfl ?_); first | refine dEr ?_ | exact dz)
      try rfl
  | true =>
    obtain ⟨t, x, g⟩ := OG.of h2
    rw [h2] at q3
    cases hj : flatO o with
    | none =>
      rw [oFlat, if_pos h2, hj] at q1 q2
      refine dEr ?_
      repeat ((first | refine c0 q1 rfl ?_ | refine c0 q2 rfl ?_ | refine c0 q3 rfl ?_ | refine xiT ?_ | refine xiF ?_ | refine xbT ?_ | refine xbF ?_ | refine xiN ?_ | refine xiM ?_ | refine xbN ?_ | refine xbM ?_ | refine xeT ?_ | refine xeF ?_ | refine c0 (f_OSt W0 _ _ rfl) rfl ?_ | refine c0 (f_ESt W0 _ _ rfl) rfl ?_ | refine c0 (f_MSt W0 _ _ rfl) rfl ?_); first | refine dEr ?_ | exact dz)
      try rfl
    | some j =>
      obtain ⟨e1, g1, _⟩ := g.flat hj
      rw [e1] at q1 q2
      have q4 := f_impl_OverLower W0 hM o
      have q5 := f_impl_OverView W0 hM o
      rw [if_pos h2, g.low] at q4
      rw [if_pos h2, g.vw] at q5
      have q6 := f_impl_OverLower W0 hM ⟨o.base, [j], o.upper⟩
      have q7 := f_impl_OverView W0 hM ⟨o.base, [j], o.upper⟩
      rw [if_pos g1.ok, g1.low] at q6
      rw [if_pos g1.ok, g1.vw] at q7
      have q8 := f_impl_OverOk W0 hM ⟨o.base, [j], o.upper⟩
      rw [g1.ok] at q8
      refine dEr ?_
      repeat ((first | refine c0 q1 rfl ?_ | refine c0 q2 rfl ?_ | refine c0 q3 rfl ?_ | refine c0 q4 rfl ?_ | refine c0 q5 rfl ?_ | refine c0 q6 rfl ?_ | refine c0 q7 rfl ?_ | refine c0 q8 rfl ?_ | refine xiT ?_ | refine xiF ?_ | refine xbT ?_ | refine xbF ?_ | refine xiN ?_ | refine xiM ?_ | refine xbN ?_ | refine xbM ?_ | refine xeT ?_ | refine xeF ?_ | refine c0 (f_OSt W0 _ _ rfl) rfl ?_ | refine c0 (f_ESt W0 _ _ rfl) rfl ?_ | refine c0 (f_MSt W0 _ _ rfl) rfl ?_); first | refine dEr ?_ | exact dz)
      try rfl


def c_laws_FnOverPush : XC := (.s (.r [.ex 4 (.mv .n)]) (.s (.s (.r [.mv 21 0, .ex 22 (.len false (.t 21)), .ex 23 (.bin .gtr (.t 22) (.i 1048576)), .mv 24 23, .gf 25 (.mv (.t 1)) 24, .gf 26 (.len false (.t 25)) 24, .gf 27 (.bin .gtr (.t 26) (.i 1048576)) 24, .ex 28 (.pick (.t 24) .y (.t 27))]) (.cnd (.t 28) (.s (.r [.ex 4 (.mv .y)]) .ret) .skip)) (.s (.r [.mv 29 0, .ex 30 (.opn 41 [(.t 29)]), .ex 5 (.alloc [.nil, .nil, .nil]), .nu (.st 3 (.t 5) (.t 30))]) (.s (.r [.mv 32 1, .ex 33 (.opn 37 [(.t 32)]), .mv 31 33, .ex 34 (.ext (.t 31) 0), .ex 35 (.ext (.t 31) 1), .ex 6 (.alloc [.nil, .nil, .nil]), .ex 7 (.alloc [(.c (.sc (.int .i64 0))), (.c (.sc (.string ⟨#[]⟩))), (.c (.sc (.string ⟨#[]⟩))), (.c (.sc (.string ⟨#[]⟩)))]), .nu (.st 3 (.t 6) (.t 34)), .nu (.st 4 (.t 7) (.t 35))]) (.s (.r [.ex 37 (.ld true 3 (.t 5)), .ex 38 (.call 22 [(.t 37)]), .mv 36 38, .ex 39 (.ext (.t 36) 0), .ex 40 (.ext (.t 36) 1), .ex 8 (.alloc [.nil, .nil, .nil]), .nu (.st 3 (.t 8) (.t 39)), .mv 9 40]) (.s (.r [.ex 42 (.ld true 3 (.t 5)), .ex 43 (.call 42 [(.t 42)]), .mv 41 43, .ex 44 (.ext (.t 41) 0), .ex 45 (.ext (.t 41) 1), .ex 10 (.alloc [.nil, .nil, .nil]), .nu (.st 3 (.t 10) (.t 44)), .mv 11 45]) (.s (.s (.r [.mv 46 9, .mv 47 11, .ex 48 (.bb true (.t 46) (.t 47)), .mv 49 48, .gf 50 (.ld true 3 (.t 8)) 49, .gf 51 (.ld true 3 (.t 10)) 49, .gf 52 (.call 26 [(.t 50), (.t 51)]) 49, .gf 53 (.un .not (.t 52)) 49, .ex 54 (.pick (.t 49) .y (.t 53))]) (.cnd (.t 54) (.s (.r [.ex 4 (.mv .n)]) .ret) .skip)) (.s (.s (.r [.mv 55 9, .ex 56 (.un .not (.t 55))]) (.cnd (.t 56) (.s (.r [.ex 57 (.ld true 3 (.t 8)), .ex 58 (.ld true 3 (.t 5)), .ex 59 (.call 26 [(.t 57), (.t 58)]), .mv 60 59, .gt 61 (.fa 1 (.t 5)) 60, .gt 62 (.ld false 1 (.t 61)) 60, .gt 63 (.len false (.t 62)) 60, .gt 64 (.bin .eql (.t 63) (.i 4)) 60, .ex 65 (.pick (.t 60) (.t 64) .n), .mv 66 65, .gf 67 (.ld true 3 (.t 5)) 66, .gf 68 (.call 28 [(.t 67)]) 66, .gf 69 (.un .not (.t 68)) 66, .gf 70 (.mv (.t 69)) 66, .gt 71 (.ld true 3 (.t 8)) 70, .gt 72 (.build [.nil, .nil, .nil] []) 70, .gt 73 (.call 26 [(.t 71), (.t 72)]) 70, .gf 74 (.pick (.t 70) (.t 73) .n) 66, .ex 75 (.pick (.t 66) .y (.t 74)), .mv 4 75]) .ret) .skip)) (.s (.r [.ex 77 (.ld true 3 (.t 5)), .ex 78 (.call 13 [(.t 77)]), .mv 76 78, .ex 79 (.ext (.t 76) 0), .ex 80 (.ext (.t 76) 1), .ex 12 (.asn (.t 79) 3 44), .mv 13 80]) (.s (.r [.ex 82 (.ld true 3 (.t 8)), .ex 83 (.call 13 [(.t 82)]), .mv 81 83, .ex 84 (.ext (.t 81) 0), .ex 85 (.ext (.t 81) 1), .ex 14 (.asn (.t 84) 3 44), .mv 15 85]) (.s (.r [.ex 87 (.ld true 3 (.t 8)), .ex 88 (.ld true 4 (.t 7)), .ex 89 (.call 38 [(.t 87), (.t 88)]), .mv 86 89, .ex 90 (.ext (.t 86) 0), .ex 91 (.ext (.t 86) 1), .ex 16 (.alloc [.nil, .nil, .nil]), .nu (.st 3 (.t 16) (.t 90)), .mv 17 91]) (.s (.r [.ex 92 (.ld true 3 (.t 16)), .ex 93 (.call 25 [(.t 92)]), .ex 18 (.alloc [.nil, .nil, .nil]), .nu (.st 3 (.t 18) (.t 93))]) (.s (.r [.ex 95 (.ld true 3 (.t 18)), .ex 96 (.call 13 [(.t 95)]), .mv 94 96, .ex 97 (.ext (.t 94) 0), .ex 98 (.ext (.t 94) 1), .ex 19 (.asn (.t 97) 3 44), .mv 20 98]) (.s (.r [.mv 99 15, .mv 100 99, .gt 101 (.mv (.t 12)) 100, .gt 102 (.mv (.t 14)) 100, .gt 103 (.call 15 [(.t 101), (.t 102)]) 100, .ex 104 (.pick (.t 100) (.t 103) .n), .mv 105 104, .gt 106 (.ld true 3 (.t 8)) 105, .gt 107 (.call 29 [(.t 106)]) 105, .ex 108 (.pick (.t 105) (.t 107) .n), .mv 109 108, .gt 110 (.fa 2 (.t 8)) 109, .gt 111 (.ld false 1 (.t 110)) 109, .gt 112 (.len false (.t 111)) 109, .gt 113 (.bin .eql (.t 112) (.i 0)) 109, .ex 114 (.pick (.t 109) (.t 113) .n), .mv 115 114, .gt 116 (.ld true 3 (.t 18)) 115, .gt 117 (.ld true 3 (.t 8)) 115, .gt 118 (.call 26 [(.t 116), (.t 117)]) 115, .ex 119 (.pick (.t 115) (.t 118) .n), .mv 120 119, .gt 121 (.mv (.t 19)) 120, .gt 122 (.mv (.t 12)) 120, .gt 123 (.call 15 [(.t 121), (.t 122)]) 120, .ex 124 (.pick (.t 120) (.t 123) .n), .mv 4 124]) .ret))))))))))))))
theorem c_laws_FnOverPush_eq : compF Go.Proofs.Tryz.prog [41, 37] 11 = some (c_laws_FnOverPush.ac, [(.t 4)], 125) := by kernel_rfl

theorem f_FnOverPush (W0 : World) (hs : W0.ShapedOpen Go.Proofs.Tryz.prog) (c0' c1' : Str) : Fn Go.Proofs.Tryz.prog W0 11 [eCode c0', eCode c1'] (.c (CB true)) [] := by
  refine fnX (c := c_laws_FnOverPush) mixed c_laws_FnOverPush_eq (by simp) rfl fun hg => ?_
  have hM := hM_of hs
  refine dr ?_
  refine cP (fun h1 => ?_) (fun h1 => ?_)
  · exact dz
  refine dr ?_
  refine cP (fun h1 => ?_) (fun h1 => ?_)
  · exact dz
  refine dr ?_
  refine oW (f_DrawOverPush W0 c0') rfl trivial rfl rfl ⟨noO, OS.no.oz.mono (by omega)⟩ fun o hx => ⟨rfl, ?_⟩
  clear hx
  refine dEr ?_
  refine oW (f_DrawOverDo W0 c1') rfl trivial rfl rfl ⟨(noO, ⟨0, [], [], []⟩), OS.no.oz.mono (by omega)⟩ fun x hx => ⟨rfl, ?_⟩
  obtain ⟨o2, op⟩ := x
  clear hx
  have q1 := f_impl_OverPush W0 hM o
  have q2 := f_spec_OverPush W0 o
  have q3 := f_spec_OverOk W0 o
  cases h2 : oOk o with
  | false =>
    rw [oPush, if_neg (by simp [h2])] at q1 q2
    rw [h2] at q3
    refine dEr ?_
    repeat ((first | refine c0 q1 rfl ?_ | refine c0 q2 rfl ?_ | refine c0 q3 rfl ?_ | refine c0 (f_impl_OverSame W0 noO o) rfl ?_ | refine xiT ?_ | refine xiF ?_ | refine xbT ?_ | refine xbF ?_ | refine xiN ?_ | refine xiM ?_ | refine xbN ?_ | refine xbM ?_ | refine xeT ?_ | refine xeF ?_ | refine c0 (f_OSt W0 _ _ rfl) rfl ?_ | refine c0 (f_ESt W0 _ _ rfl) rfl ?_ | refine c0 (f_MSt W0 _ _ rfl) rfl ?_); first | refine dEr ?_ | exact dz)
    refine cP (fun h3 => ?_) (fun h3 => ?_)
    · refine dEr ?_
      repeat ((first | refine xiT ?_ | refine xiF ?_ | refine xbT ?_ | refine xbF ?_ | refine xiN ?_ | refine xiM ?_ | refine xbN ?_ | refine xbM ?_ | refine xeT ?_ | refine xeF ?_ | refine c0 (f_OSt W0 _ _ rfl) rfl ?_ | refine c0 (f_ESt W0 _ _ rfl) rfl ?_ | refine c0 (f_MSt W0 _ _ rfl) rfl ?_); first | refine dEr ?_ | exact dz)
      refine cP (fun h4 => ?_) (fun h4 => ?_)
      · exact dz
      · refine dEr ?_
        repeat ((first | refine c0 q3 rfl ?_ | refine xiT ?_ | refine xiF ?_ | refine xbT ?_ | refine xbF ?_ | refine xiN ?_ | refine xiM ?_ | refine xbN ?_ | refine xbM ?_ | refine xeT ?_ | refine xeF ?_ | refine c0 (f_OSt W0 _ _ rfl) rfl ?_ | refine c0 (f_ESt W0 _ _ rfl) rfl ?_ | refine c0 (f_MSt W0 _ _ rfl) rfl ?_); first | refine dEr ?_ | exact dz)
        try rfl
    · refine dEr ?_
      repeat ((first | refine c0 q3 rfl ?_ | refine xiT ?_ | refine xiF ?_ | refine xbT ?_ | refine xbF ?_ | refine xiN ?_ | refine xiM ?_ | refine xbN ?_ | refine xbM ?_ | refine xeT ?_ | refine xeF ?_ | refine c0 (f_OSt W0 _ _ rfl) rfl ?_ | refine c0 (f_ESt W0 _ _ rfl) rfl ?_ | refine c0 (f_MSt W0 _ _ rfl) rfl ?_); first | refine dEr ?_ | exact dz)
      try rfl
  | true =>
    obtain ⟨t, x, g⟩ := OG.of h2
    rw [h2] at q3
    by_cases hl : 4 ≤ o.layers.length
    · obtain ⟨e1, e2⟩ := g.push_no hl
      rw [e1] at q1 q2
      refine dEr ?_
      repeat ((first | refine c0 q1 rfl ?_ | refine c0 q2 rfl ?_ | refine c0 q3 rfl ?_ | refine xiT ?_ | refine xiF ?_ | refine xbT ?_ | refine xbF ?_ | refine xiN ?_ | refine xiM ?_ | refine xbN ?_ | refine xbM ?_ | refine xeT ?_ | refine xeF ?_ | refine c0 (f_OSt W0 _ _ rfl) rfl ?_ | refine c0 (f_ESt W0 _ _ rfl) rfl ?_ | refine c0 (f_MSt W0 _ _ rfl) rfl ?_); first | refine dEr ?_ | exact dz)
      refine cP (fun h3 => ?_) (fun h3 => ?_)
      · exact dz
      · omega
    · obtain ⟨e1, g1⟩ := g.push hl
      rw [e1] at q1 q2
      have q4 := f_impl_OverView W0 hM o
      rw [if_pos h2, g.vw] at q4
      have q5 := f_impl_OverView W0 hM ⟨o.base, o.layers ++ [o.upper], []⟩
      rw [if_pos g1.ok, g1.vw] at q5
      have q6 := f_impl_OverDo W0 hM ⟨o.base, o.layers ++ [o.upper], []⟩ op
      obtain ⟨d1, d2, d3, d4, _⟩ := g1.do op
      have q7 := f_impl_OverDrop W0 hM (oDo ⟨o.base, o.layers ++ [o.upper], []⟩ op).1
      rw [d1.drop.1, d3, d4] at q7
      have q8 := f_impl_OverOk W0 hM ⟨o.base, o.layers ++ [o.upper], []⟩
      rw [g1.ok] at q8
      refine dEr ?_
      repeat ((first | refine c0 q1 rfl ?_ | refine c0 q2 rfl ?_ | refine c0 q3 rfl ?_ | refine c0 q4 rfl ?_ | refine c0 q5 rfl ?_ | refine c0 q6 rfl ?_ | refine c0 q7 rfl ?_ | refine c0 q8 rfl ?_ | refine xiT ?_ | refine xiF ?_ | refine xbT ?_ | refine xbF ?_ | refine xiN ?_ | refine xiM ?_ | refine xbN ?_ | refine xbM ?_ | refine xeT ?_ | refine xeF ?_ | refine c0 (f_OSt W0 _ _ rfl) rfl ?_ | refine c0 (f_ESt W0 _ _ rfl) rfl ?_ | refine c0 (f_MSt W0 _ _ rfl) rfl ?_); first | refine dEr ?_ | exact dz)
      try rfl


theorem eOGet_q (x : Option (Ent × Int)) : eOGet x = .tup [eEnt (x.getD (noE, 0)).1, CI (x.getD (noE, 0)).2, CB x.isSome] := by cases x <;> rfl
theorem oGet_no {o : Over} (h : oOk o = false) (p : Str) : oGet o p = none := by rw [oGet, if_neg (by simp [h])]
theorem find_self {x : List Ent} (h : TG x) {e : Ent} (he : e ∈ x) : find x e.path = some e := (fnd_iff h.srt).1 he
theorem OG.eget {o : Over} {t x : List Ent} (g : OG o t x) {e : Ent} (he : e ∈ x) : oGet o e.path = some (e, (topN (allL o) e.path (allL o).length : Int)) := by
  have hx := TG.of g.gx
  rw [g.get, get_find (hx.path he), find_self hx he]; rfl
theorem allL_len {o : Over} : (allL o).length = o.layers.length + 1 := by simp [allL]

def c_laws_FnOverEach : XC := (.s (.r [.ex 2 (.mv .n)]) (.s (.s (.r [.mv 18 0, .ex 19 (.len false (.t 18)), .ex 20 (.bin .gtr (.t 19) (.i 1048576))]) (.cnd (.t 20) (.s (.r [.ex 2 (.mv .y)]) .ret) .skip)) (.s (.r [.mv 22 0, .ex 23 (.opn 30 [(.t 22)]), .mv 21 23, .ex 24 (.ext (.t 21) 0), .ex 25 (.ext (.t 21) 1), .ex 3 (.alloc [.nil, .nil, .nil]), .nu (.st 3 (.t 3) (.t 24)), .mv 4 25]) (.s (.r [.ex 27 (.ld true 3 (.t 3)), .mv 28 4, .ex 29 (.call 31 [(.t 27), (.t 28)]), .mv 26 29, .ex 30 (.ext (.t 26) 0), .ex 31 (.ext (.t 26) 1), .ex 32 (.ext (.t 26) 2), .ex 5 (.alloc [(.c (.sc (.string ⟨#[]⟩))), (.c (.sc (.bool false))), (.c (.sc (.string ⟨#[]⟩)))]), .nu (.st 3 (.t 5) (.t 30)), .mv 6 31, .mv 7 32]) (.s (.r [.ex 34 (.ld true 3 (.t 3)), .mv 35 4, .ex 36 (.call 32 [(.t 34), (.t 35)]), .mv 33 36, .ex 37 (.ext (.t 33) 0), .ex 38 (.ext (.t 33) 1), .ex 39 (.ext (.t 33) 2), .ex 8 (.alloc [(.c (.sc (.string ⟨#[]⟩))), (.c (.sc (.bool false))), (.c (.sc (.string ⟨#[]⟩)))]), .nu (.st 3 (.t 8) (.t 37)), .mv 9 38, .mv 10 39]) (.s (.s (.r [.mv 40 7, .mv 41 10, .ex 42 (.bb true (.t 40) (.t 41)), .mv 43 42, .gf 44 (.ld true 3 (.t 3)) 43, .gf 45 (.call 28 [(.t 44)]) 43, .gf 46 (.un .not (.t 45)) 43, .ex 47 (.pick (.t 43) .y (.t 46))]) (.cnd (.t 47) (.s (.r [.mv 48 7, .mv 49 10, .ex 50 (.bb false (.t 48) (.t 49)), .mv 2 50]) .ret) .skip)) (.s (.r [.ex 52 (.ld true 3 (.t 3)), .ex 53 (.call 13 [(.t 52)]), .mv 51 53, .ex 54 (.ext (.t 51) 0), .ex 55 (.ext (.t 51) 1), .ex 11 (.asn (.t 54) 3 44), .mv 12 55]) (.s (.r [.mv 56 4, .ex 57 (.bin .eql (.t 56) (.s [47])), .mv 13 57]) (.s (.s (.r [.ex 14 (.mv (.i 0))]) (.blk 0 (.loop (.s (.s (.r [.mv 58 14, .mv 59 11, .ex 60 (.len false (.t 59)), .ex 61 (.bin .lss (.t 58) (.t 60))]) (.cnd (.t 61) .skip (.exit 0))) (.s (.blk 1 (.s (.d [.ex 65 (.ld true 3 (.t 3)), .mv 66 11, .mv 67 14, .ex 68 (.ia 3 (.t 66) (.t 67)), .ex 69 (.fa 0 (.t 68)), .ex 70 (.ld false 1 (.t 69)), .ex 71 (.call 31 [(.t 65), (.t 70)]), .mv 64 71, .ex 72 (.ext (.t 64) 0), .ex 73 (.ext (.t 64) 1), .ex 74 (.ext (.t 64) 2), .ex 15 (.alloc [(.c (.sc (.string ⟨#[]⟩))), (.c (.sc (.bool false))), (.c (.sc (.string ⟨#[]⟩)))]), .nu (.st 3 (.t 15) (.t 72)), .mv 16 73, .mv 17 74]) (.s (.s (.d [.mv 75 17, .ex 76 (.un .not (.t 75)), .mv 77 76, .gf 78 (.ld true 3 (.t 15)) 77, .gf 79 (.mv (.t 11)) 77, .gf 80 (.mv (.t 14)) 77, .gf 81 (.ia 3 (.t 79) (.t 80)) 77, .gf 82 (.ld true 3 (.t 81)) 77, .gf 83 (.beq true [.s, .b, .s] (.t 78) (.t 82)) 77, .ex 84 (.pick (.t 77) .y (.t 83)), .mv 85 84, .gf 86 (.mv (.t 16)) 85, .gf 87 (.bin .lss (.t 86) (.i 0)) 85, .ex 88 (.pick (.t 85) .y (.t 87))]) (.cnd (.t 88) (.s (.r [.ex 2 (.mv .n)]) .ret) .skip)) (.r [.mv 89 13, .mv 90 89, .gf 91 (.mv (.t 11)) 90, .gf 92 (.mv (.t 14)) 90, .gf 93 (.ia 3 (.t 91) (.t 92)) 90, .gf 94 (.fa 0 (.t 93)) 90, .gf 95 (.ld false 1 (.t 94)) 90, .gf 96 (.mv (.t 4)) 90, .gf 97 (.bin .eql (.t 95) (.t 96)) 90, .ex 98 (.pick (.t 90) .y (.t 97)), .mv 13 98])))) (.r [.mv 62 14, .ex 63 (.bin .add (.t 62) (.i 1)), .mv 14 63])))))) (.s (.r [.mv 99 13, .mv 100 7, .ex 101 (.bb false (.t 99) (.t 100)), .mv 2 101]) .ret))))))))))
theorem c_laws_FnOverEach_eq : compF Go.Proofs.Tryz.prog [30] 6 = some (c_laws_FnOverEach.ac, [(.t 2)], 102) := by kernel_rfl

theorem f_FnOverEach (W0 : World) (hs : W0.ShapedOpen Go.Proofs.Tryz.prog) (c0' : Str) : Fn Go.Proofs.Tryz.prog W0 6 [eCode c0'] (.c (CB true)) [] := by
  refine fnX (c := c_laws_FnOverEach) mixed c_laws_FnOverEach_eq (by simp) rfl fun hg => ?_
  have hM := hM_of hs
  refine dr ?_
  refine cP (fun h1 => ?_) (fun h1 => ?_)
  · exact dz
  refine dr ?_
  refine oW (f_DrawOverGet W0 c0') rfl trivial rfl rfl ⟨(noO, []), OS.no.oz.mono (by omega)⟩ fun x hx => ⟨rfl, ?_⟩
  obtain ⟨o, p⟩ := x
  clear hx
  have q1 := f_impl_OverGet W0 hM o p
  have q2 := f_spec_OverGet W0 o p
  have q3 := f_spec_OverOk W0 o
  cases h2 : oOk o with
  | false =>
    rw [oGet_no h2] at q1 q2
    rw [h2] at q3
    refine dEr ?_
    repeat ((first | refine c0 q1 rfl ?_ | refine c0 q2 rfl ?_ | refine c0 q3 rfl ?_ | refine xiT ?_ | refine xiF ?_ | refine xbT ?_ | refine xbF ?_ | refine xiN ?_ | refine xiM ?_ | refine xbN ?_ | refine xbM ?_ | refine xeT ?_ | refine xeF ?_ | refine c0 (f_OSt W0 _ _ rfl) rfl ?_ | refine c0 (f_ESt W0 _ _ rfl) rfl ?_ | refine c0 (f_MSt W0 _ _ rfl) rfl ?_); first | refine dEr ?_ | exact dz)
    try exact xcB
  | true =>
    obtain ⟨t, x, g⟩ := OG.of h2
    have hx := TG.of g.gx
    have hxl := hx.len
    rw [h2] at q3
    rw [eOGet_q] at q1 q2
    have er : (oGet o p).isSome = (get x p).isSome := by rw [g.get]; cases get x p <;> rfl
    generalize (oGet o p).isSome = ok at *
    generalize (oGet o p).getD (noE, 0) = r at *
    have q4 := f_impl_OverView W0 hM o
    rw [if_pos h2, g.vw] at q4
    refine dEr ?_
    repeat ((first | refine c0 q1 rfl ?_ | refine c0 q2 rfl ?_ | refine c0 q3 rfl ?_ | refine c0 q4 rfl ?_ | refine xiT ?_ | refine xiF ?_ | refine xbT ?_ | refine xbF ?_ | refine xiN ?_ | refine xiM ?_ | refine xbN ?_ | refine xbM ?_ | refine xeT ?_ | refine xeF ?_ | refine c0 (f_OSt W0 _ _ rfl) rfl ?_ | refine c0 (f_ESt W0 _ _ rfl) rfl ?_ | refine c0 (f_MSt W0 _ _ rfl) rfl ?_); first | refine dEr ?_ | exact dz)
    refine lp2 (fun (k : Nat) (b : Bool) => [(3, .ptr 48 0), (4, .c (CS p)), (7, .c (CB ok)), (11, .c (eEnts x)), (13, .c (CB b)), (14, I k)]) (fun _ _ => [(48, ovB o)]) (fun k b => k ≤ x.length ∧ (b = true ↔ p = [47] ∨ ∃ i, ∃ h : i < x.length, i < k ∧ x[i].path = p)) (fun k _ => x.length - k) 0 (eqS p [47]) ⟨by simp, by rw [eqS_t]; simp⟩ ?_ ?_
    · refine dr ?_
      trivial
    rintro k b ⟨hk, hb⟩
    refine dr ?_
    refine cP (fun h3 => ?_) (fun h3 => ?_)
    · have hk' : k < x.length := by omega
      have q5 := f_impl_OverGet W0 hM o x[k].path
      rw [g.eget (List.getElem_mem hk')] at q5
      refine dEr ?_
      repeat ((first | refine c0 q5 rfl ?_ | refine xiT ?_ | refine xiF ?_ | refine xbT ?_ | refine xbF ?_ | refine xiN ?_ | refine xiM ?_ | refine xbN ?_ | refine xbM ?_ | refine xeT ?_ | refine xeF ?_ | refine c0 (f_OSt W0 _ _ rfl) rfl ?_ | refine c0 (f_ESt W0 _ _ rfl) rfl ?_ | refine c0 (f_MSt W0 _ _ rfl) rfl ?_); first | refine dEr ?_ | exact dz)
      refine cP (fun h4 => ?_) (fun h4 => ?_)
      · omega
      have hn : ∀ c : Bool, (c = true ↔ b = true ∨ x[k].path = p) → (c = true ↔ p = [47] ∨ ∃ i, ∃ h : i < x.length, i < k + 1 ∧ x[i].path = p) := fun c hc => by
        rw [hc, hb]
        constructor
        · rintro ((h | ⟨i, h, hi, he⟩) | h)
          · exact .inl h
          · exact .inr ⟨i, h, by omega, he⟩
          · exact .inr ⟨k, hk', by omega, h⟩
        · rintro (h | ⟨i, h, hi, he⟩)
          · exact .inl (.inl h)
          · by_cases e : i = k
            · subst e; exact .inr he
            · exact .inl (.inr ⟨i, h, by omega, he⟩)
      refine dr ?_
      refine cP (fun h5 => ?_) (fun h5 => ?_)
      · refine dr ?_
        refine ⟨k + 1, true, ⟨by omega, hn _ (by simp [h5])⟩, by omega, ?_⟩
        refine dr ?_
        trivial
      · refine dr ?_
        refine ⟨k + 1, eqS x[k].path p, ⟨by omega, hn _ (by rw [eqS_t]; simp [h5])⟩, by omega, ?_⟩
        refine dr ?_
        trivial
    · refine dr ?_
      refine congrArg CB (eqB_t.2 ?_)
      rw [er, Bool.eq_iff_iff, hb]
      unfold get
      by_cases hp : p = [47]
      · rw [if_pos hp]; simp [hp]
      · rw [if_neg hp]
        constructor
        · rintro (h | ⟨i, h, _, he⟩)
          · exact absurd h hp
          · rw [← he, find_self hx (List.getElem_mem h)]; rfl
        · intro h
          obtain ⟨e, he⟩ := Option.isSome_iff_exists.1 h
          obtain ⟨h4, h5⟩ := find_path he
          obtain ⟨i, hi, rfl⟩ := List.mem_iff_getElem.1 h5
          exact .inr ⟨i, hi, by omega, h4⟩


def c_laws_FnOverGet : XC := (.s (.r [.ex 2 (.mv .n)]) (.s (.s (.r [.mv 21 0, .ex 22 (.len false (.t 21)), .ex 23 (.bin .gtr (.t 22) (.i 1048576))]) (.cnd (.t 23) (.s (.r [.ex 2 (.mv .y)]) .ret) .skip)) (.s (.r [.mv 25 0, .ex 26 (.opn 30 [(.t 25)]), .mv 24 26, .ex 27 (.ext (.t 24) 0), .ex 28 (.ext (.t 24) 1), .ex 3 (.alloc [.nil, .nil, .nil]), .nu (.st 3 (.t 3) (.t 27)), .mv 4 28]) (.s (.r [.ex 30 (.ld true 3 (.t 3)), .mv 31 4, .ex 32 (.call 31 [(.t 30), (.t 31)]), .mv 29 32, .ex 33 (.ext (.t 29) 0), .ex 34 (.ext (.t 29) 1), .ex 35 (.ext (.t 29) 2), .ex 5 (.alloc [(.c (.sc (.string ⟨#[]⟩))), (.c (.sc (.bool false))), (.c (.sc (.string ⟨#[]⟩)))]), .nu (.st 3 (.t 5) (.t 33)), .mv 6 34, .mv 7 35]) (.s (.r [.ex 37 (.ld true 3 (.t 3)), .mv 38 4, .ex 39 (.call 32 [(.t 37), (.t 38)]), .mv 36 39, .ex 40 (.ext (.t 36) 0), .ex 41 (.ext (.t 36) 1), .ex 42 (.ext (.t 36) 2), .ex 8 (.alloc [(.c (.sc (.string ⟨#[]⟩))), (.c (.sc (.bool false))), (.c (.sc (.string ⟨#[]⟩)))]), .nu (.st 3 (.t 8) (.t 40)), .mv 9 41, .mv 10 42]) (.s (.s (.r [.ex 43 (.ld true 3 (.t 5)), .ex 44 (.ld true 3 (.t 8)), .ex 45 (.beq true [.s, .b, .s] (.t 43) (.t 44)), .mv 46 45, .gf 47 (.mv (.t 6)) 46, .gf 48 (.mv (.t 9)) 46, .gf 49 (.bin .neq (.t 47) (.t 48)) 46, .ex 50 (.pick (.t 46) .y (.t 49)), .mv 51 50, .gf 52 (.mv (.t 7)) 51, .gf 53 (.mv (.t 10)) 51, .gf 54 (.bb true (.t 52) (.t 53)) 51, .ex 55 (.pick (.t 51) .y (.t 54))]) (.cnd (.t 55) (.s (.r [.ex 2 (.mv .n)]) .ret) .skip)) (.s (.r [.ex 57 (.ld true 3 (.t 3)), .ex 58 (.call 13 [(.t 57)]), .mv 56 58, .ex 59 (.ext (.t 56) 0), .ex 60 (.ext (.t 56) 1), .ex 11 (.asn (.t 59) 3 44), .mv 12 60]) (.s (.r [.mv 62 11, .mv 63 4, .ex 64 (.call 33 [(.t 62), (.t 63)]), .mv 61 64, .ex 65 (.ext (.t 61) 0), .ex 66 (.ext (.t 61) 1), .ex 13 (.alloc [(.c (.sc (.string ⟨#[]⟩))), (.c (.sc (.bool false))), (.c (.sc (.string ⟨#[]⟩)))]), .nu (.st 3 (.t 13) (.t 65)), .mv 14 66]) (.s (.s (.r [.mv 67 12, .ex 68 (.un .not (.t 67)), .mv 69 68, .gf 70 (.mv (.t 14)) 69, .gf 71 (.un .not (.t 70)) 69, .ex 72 (.pick (.t 69) .y (.t 71))]) (.cnd (.t 72) (.s (.r [.mv 73 7, .ex 74 (.un .not (.t 73)), .mv 75 74, .gt 76 (.mv (.t 6)) 75, .gt 77 (.bin .eql (.t 76) (.i 0)) 75, .ex 78 (.pick (.t 75) (.t 77) .n), .mv 2 78]) .ret) .skip)) (.s (.s (.r [.mv 79 7, .ex 80 (.un .not (.t 79)), .mv 81 80, .gf 82 (.ld true 3 (.t 5)) 81, .gf 83 (.ld true 3 (.t 13)) 81, .gf 84 (.beq true [.s, .b, .s] (.t 82) (.t 83)) 81, .ex 85 (.pick (.t 81) .y (.t 84)), .mv 86 85, .gf 87 (.mv (.t 6)) 86, .gf 88 (.bin .lss (.t 87) (.i 0)) 86, .ex 89 (.pick (.t 86) .y (.t 88)), .mv 90 89, .gf 91 (.mv (.t 6)) 90, .gf 92 (.fa 1 (.t 3)) 90, .gf 93 (.ld false 1 (.t 92)) 90, .gf 94 (.len false (.t 93)) 90, .gf 95 (.bin .add (.t 94) (.i 1)) 90, .gf 96 (.bin .gtr (.t 91) (.t 95)) 90, .ex 97 (.pick (.t 90) .y (.t 96))]) (.cnd (.t 97) (.s (.r [.ex 2 (.mv .n)]) .ret) .skip)) (.s (.r [.ex 99 (.fa 0 (.t 3)), .ex 100 (.ld false 1 (.t 99)), .mv 101 4, .ex 102 (.call 33 [(.t 100), (.t 101)]), .mv 98 102, .ex 103 (.ext (.t 98) 0), .ex 104 (.ext (.t 98) 1), .ex 15 (.alloc [(.c (.sc (.string ⟨#[]⟩))), (.c (.sc (.bool false))), (.c (.sc (.string ⟨#[]⟩)))]), .nu (.st 3 (.t 15) (.t 103)), .mv 16 104]) (.s (.r [.ex 106 (.ld true 3 (.t 3)), .ex 107 (.call 16 [(.t 106)]), .mv 105 107, .ex 108 (.ext (.t 105) 0), .ex 109 (.ext (.t 105) 1), .ex 17 (.asn (.t 108) 3 44), .mv 18 109]) (.s (.r [.mv 111 17, .mv 112 4, .ex 113 (.call 33 [(.t 111), (.t 112)]), .mv 110 113, .ex 114 (.ext (.t 110) 0), .ex 115 (.ext (.t 110) 1), .ex 19 (.alloc [(.c (.sc (.string ⟨#[]⟩))), (.c (.sc (.bool false))), (.c (.sc (.string ⟨#[]⟩)))]), .nu (.st 3 (.t 19) (.t 114)), .mv 20 115]) (.s (.r [.mv 116 6, .ex 117 (.bin .gtr (.t 116) (.i 0)), .mv 118 117, .gf 119 (.mv (.t 16)) 118, .gf 120 (.mv (.t 119)) 118, .gt 121 (.ld true 3 (.t 15)) 120, .gt 122 (.ld true 3 (.t 5)) 120, .gt 123 (.beq false [.s, .b, .s] (.t 121) (.t 122)) 120, .gf 124 (.pick (.t 120) (.t 123) .n) 118, .ex 125 (.pick (.t 118) .y (.t 124)), .mv 126 125, .gt 127 (.mv (.t 6)) 126, .gt 128 (.fa 1 (.t 3)) 126, .gt 129 (.ld false 1 (.t 128)) 126, .gt 130 (.len false (.t 129)) 126, .gt 131 (.bin .add (.t 130) (.i 1)) 126, .gt 132 (.bin .eql (.t 127) (.t 131)) 126, .gt 133 (.mv (.t 132)) 126, .gf 134 (.mv (.t 20)) 133, .gf 135 (.mv (.t 134)) 133, .gt 136 (.ld true 3 (.t 19)) 135, .gt 137 (.ld true 3 (.t 5)) 135, .gt 138 (.beq false [.s, .b, .s] (.t 136) (.t 137)) 135, .gf 139 (.pick (.t 135) (.t 138) .n) 133, .gt 140 (.pick (.t 133) .y (.t 139)) 126, .ex 141 (.pick (.t 126) (.t 140) .n), .mv 2 141]) .ret))))))))))))))
theorem c_laws_FnOverGet_eq : compF Go.Proofs.Tryz.prog [30] 7 = some (c_laws_FnOverGet.ac, [(.t 2)], 142) := by kernel_rfl

set_option maxRecDepth 20000 in
theorem f_FnOverGet (W0 : World) (hs : W0.ShapedOpen Go.Proofs.Tryz.prog) (c0' : Str) : Fn Go.Proofs.Tryz.prog W0 7 [eCode c0'] (.c (CB true)) [] := by
  refine fnX (c := c_laws_FnOverGet) mixed c_laws_FnOverGet_eq (by simp) rfl fun hg => ?_
  have hM := hM_of hs
  refine dr ?_
  refine cP (fun h1 => ?_) (fun h1 => ?_)
  · exact dz
  refine dr ?_
  refine oW (f_DrawOverGet W0 c0') rfl trivial rfl rfl ⟨(noO, []), OS.no.oz.mono (by omega)⟩ fun x hx => ⟨rfl, ?_⟩
  obtain ⟨o, p⟩ := x
  clear hx
  have q1 := f_impl_OverGet W0 hM o p
  have q2 := f_spec_OverGet W0 o p
  have q3 := f_impl_OverView W0 hM o
  cases h2 : oOk o with
  | false =>
    rw [oGet_no h2] at q1 q2
    rw [h2] at q3
    have q4 := f_impl_TreeGet W0 hM [] p
    rw [eEntO_eq] at q4
    refine dEr ?_
    repeat ((first | refine c0 q1 rfl ?_ | refine c0 q2 rfl ?_ | refine c0 q3 rfl ?_ | refine c0 q4 rfl ?_ | refine xiT ?_ | refine xiF ?_ | refine xbT ?_ | refine xbF ?_ | refine xiN ?_ | refine xiM ?_ | refine xbN ?_ | refine xbM ?_ | refine xeT ?_ | refine xeF ?_ | refine c0 (f_OSt W0 _ _ rfl) rfl ?_ | refine c0 (f_ESt W0 _ _ rfl) rfl ?_ | refine c0 (f_MSt W0 _ _ rfl) rfl ?_); first | refine dEr ?_ | exact dz)
    try exact xcT
  | true =>
    obtain ⟨t, x, g⟩ := OG.of h2
    have hx := TG.of g.gx
    rw [if_pos h2, g.vw] at q3
    rw [g.get] at q1 q2
    have q4 := f_impl_TreeGet W0 hM x p
    rw [if_pos g.gx] at q4
    cases hy : get x p with
    | none =>
      rw [hy, Option.map_none] at q1 q2
      rw [hy] at q4
      refine dEr ?_
      repeat ((first | refine c0 q1 rfl ?_ | refine c0 q2 rfl ?_ | refine c0 q3 rfl ?_ | refine c0 q4 rfl ?_ | refine xiT ?_ | refine xiF ?_ | refine xbT ?_ | refine xbF ?_ | refine xiN ?_ | refine xiM ?_ | refine xbN ?_ | refine xbM ?_ | refine xeT ?_ | refine xeF ?_ | refine c0 (f_OSt W0 _ _ rfl) rfl ?_ | refine c0 (f_ESt W0 _ _ rfl) rfl ?_ | refine c0 (f_MSt W0 _ _ rfl) rfl ?_); first | refine dEr ?_ | exact dz)
      try exact xcT
    | some e =>
      rw [hy, Option.map_some] at q1 q2
      rw [hy] at q4
      obtain ⟨k1, k2⟩ := g.from hy
      have hle := topN_le (all := allL o) (p := p) (k := (allL o).length)
      have hal := @allL_len o
      generalize topN (allL o) p (allL o).length = n at *
      have hb : n = 0 → ((get o.base p).getD noE) = e ∧ (get o.base p).isSome = true := fun h => by rw [k1 h]; exact ⟨rfl, rfl⟩
      have ht : n ≠ (o, p).fst.layers.length + 1 → ((get t p).getD noE) = e ∧ (get t p).isSome = true := fun h => by rw [k2 h]; exact ⟨rfl, rfl⟩
      have hn4 : n ≤ (o, p).fst.layers.length + 1 := by have : n ≤ o.layers.length + 1 := by omega
                                                        exact this
      clear k1 k2 hle hal
      have hl4 : (o, p).fst.layers.length ≤ 4 := g.lay.1
      have q5 := f_impl_TreeGet W0 hM o.base p
      rw [if_pos g.lay.2.2, eEntO_eq] at q5
      have q6 := f_impl_OverLower W0 hM o
      rw [if_pos h2, g.low] at q6
      have q7 := f_impl_TreeGet W0 hM t p
      rw [if_pos g.gt, eEntO_eq] at q7
      refine dEr ?_
      repeat ((first | refine c0 q1 rfl ?_ | refine c0 q2 rfl ?_ | refine c0 q3 rfl ?_ | refine c0 q4 rfl ?_ | refine xiT ?_ | refine xiF ?_ | refine xbT ?_ | refine xbF ?_ | refine xiN ?_ | refine xiM ?_ | refine xbN ?_ | refine xbM ?_ | refine xeT ?_ | refine xeF ?_ | refine c0 (f_OSt W0 _ _ rfl) rfl ?_ | refine c0 (f_ESt W0 _ _ rfl) rfl ?_ | refine c0 (f_MSt W0 _ _ rfl) rfl ?_); first | refine dEr ?_ | exact dz)
      refine cP (fun h3 => ?_) (fun h3 => ?_)
      · omega
      clear h3
      refine dEr ?_
      repeat ((first | refine xiT ?_ | refine xiF ?_ | refine xbT ?_ | refine xbF ?_ | refine xiN ?_ | refine xiM ?_ | refine xbN ?_ | refine xbM ?_ | refine xeT ?_ | refine xeF ?_ | refine c0 (f_OSt W0 _ _ rfl) rfl ?_ | refine c0 (f_ESt W0 _ _ rfl) rfl ?_ | refine c0 (f_MSt W0 _ _ rfl) rfl ?_); first | refine dEr ?_ | exact dz)
      refine cP (fun h3 => ?_) (fun h3 => ?_)
      · omega
      clear h3
      generalize (get o.base p).getD noE = eb at *
      generalize (get o.base p).isSome = ob at *
      generalize (get t p).getD noE = et at *
      generalize (get t p).isSome = ot at *
      refine dEr ?_
      repeat ((first | refine c0 q5 rfl ?_ | refine c0 q6 rfl ?_ | refine c0 q7 rfl ?_ | refine xiT ?_ | refine xiF ?_ | refine xbT ?_ | refine xbF ?_ | refine xiN ?_ | refine xiM ?_ | refine xbN ?_ | refine xbM ?_ | refine xeT ?_ | refine xeF ?_ | refine c0 (f_OSt W0 _ _ rfl) rfl ?_ | refine c0 (f_ESt W0 _ _ rfl) rfl ?_ | refine c0 (f_MSt W0 _ _ rfl) rfl ?_); first | refine dEr ?_ | exact dz)
      refine cP (fun h4 => ?_) (fun h4 => ?_)
      · refine dEr ?_
        repeat ((first | refine xiT ?_ | refine xiF ?_ | refine xbT ?_ | refine xbF ?_ | refine xiN ?_ | refine xiM ?_ | refine xbN ?_ | refine xbM ?_ | refine xeT ?_ | refine xeF ?_ | refine c0 (f_OSt W0 _ _ rfl) rfl ?_ | refine c0 (f_ESt W0 _ _ rfl) rfl ?_ | refine c0 (f_MSt W0 _ _ rfl) rfl ?_); first | refine dEr ?_ | exact dz)
        refine cP (fun h5 => ?_) (fun h5 => ?_)
        · exact dz
        · obtain ⟨rfl, rfl⟩ := ht (by omega)
          refine dEr ?_
          repeat ((first | refine xiT ?_ | refine xiF ?_ | refine xbT ?_ | refine xbF ?_ | refine xiN ?_ | refine xiM ?_ | refine xbN ?_ | refine xbM ?_ | refine xeT ?_ | refine xeF ?_ | refine c0 (f_OSt W0 _ _ rfl) rfl ?_ | refine c0 (f_ESt W0 _ _ rfl) rfl ?_ | refine c0 (f_MSt W0 _ _ rfl) rfl ?_); first | refine dEr ?_ | exact dz)
          refine congrArg CB ?_
          rw [bqEnt]; simp
      · obtain ⟨rfl, rfl⟩ := hb (by omega)
        refine dEr ?_
        repeat ((first | refine xiT ?_ | refine xiF ?_ | refine xbT ?_ | refine xbF ?_ | refine xiN ?_ | refine xiM ?_ | refine xbN ?_ | refine xbM ?_ | refine xeT ?_ | refine xeF ?_ | refine c0 (f_OSt W0 _ _ rfl) rfl ?_ | refine c0 (f_ESt W0 _ _ rfl) rfl ?_ | refine c0 (f_MSt W0 _ _ rfl) rfl ?_); first | refine dEr ?_ | exact dz)
        refine cP (fun h5 => ?_) (fun h5 => ?_)
        · exact dz
        · obtain ⟨rfl, rfl⟩ := ht (by omega)
          refine dEr ?_
          repeat ((first | refine xiT ?_ | refine xiF ?_ | refine xbT ?_ | refine xbF ?_ | refine xiN ?_ | refine xiM ?_ | refine xbN ?_ | refine xbM ?_ | refine xeT ?_ | refine xeF ?_ | refine c0 (f_OSt W0 _ _ rfl) rfl ?_ | refine c0 (f_ESt W0 _ _ rfl) rfl ?_ | refine c0 (f_MSt W0 _ _ rfl) rfl ?_); first | refine dEr ?_ | exact dz)
          refine congrArg CB ?_
          rw [bqEnt]; simp


def c_laws_FnOverBack : XC := (.s (.r [.ex 2 (.mv .n)]) (.s (.s (.r [.mv 15 0, .ex 16 (.len false (.t 15)), .ex 17 (.bin .gtr (.t 16) (.i 1048576))]) (.cnd (.t 17) (.s (.r [.ex 2 (.mv .y)]) .ret) .skip)) (.s (.r [.mv 19 0, .ex 20 (.opn 37 [(.t 19)]), .mv 18 20, .ex 21 (.ext (.t 18) 0), .ex 22 (.ext (.t 18) 1), .ex 3 (.alloc [.nil, .nil, .nil]), .ex 4 (.alloc [(.c (.sc (.int .i64 0))), (.c (.sc (.string ⟨#[]⟩))), (.c (.sc (.string ⟨#[]⟩))), (.c (.sc (.string ⟨#[]⟩)))]), .nu (.st 3 (.t 3) (.t 21)), .nu (.st 4 (.t 4) (.t 22))]) (.s (.r [.ex 24 (.ld true 3 (.t 3)), .ex 25 (.ld true 4 (.t 4)), .ex 26 (.call 38 [(.t 24), (.t 25)]), .mv 23 26, .ex 27 (.ext (.t 23) 0), .ex 28 (.ext (.t 23) 1), .ex 5 (.alloc [.nil, .nil, .nil]), .nu (.st 3 (.t 5) (.t 27)), .mv 6 28]) (.s (.r [.ex 30 (.ld true 3 (.t 3)), .ex 31 (.ld true 4 (.t 4)), .ex 32 (.call 39 [(.t 30), (.t 31)]), .mv 29 32, .ex 33 (.ext (.t 29) 0), .ex 34 (.ext (.t 29) 1), .ex 7 (.alloc [.nil, .nil, .nil]), .nu (.st 3 (.t 7) (.t 33)), .mv 8 34]) (.s (.s (.r [.mv 35 6, .mv 36 8, .ex 37 (.bin .neq (.t 35) (.t 36)), .mv 38 37, .gf 39 (.mv (.t 6)) 38, .gf 40 (.bin .neq (.t 39) (.i 0)) 38, .ex 41 (.pick (.t 38) .y (.t 40))]) (.cnd (.t 41) (.s (.r [.mv 42 6, .mv 43 8, .ex 44 (.bin .eql (.t 42) (.t 43)), .mv 2 44]) .ret) .skip)) (.s (.r [.ex 46 (.ld true 3 (.t 3)), .ex 47 (.fa 1 (.t 4)), .ex 48 (.ld false 1 (.t 47)), .ex 49 (.call 31 [(.t 46), (.t 48)]), .mv 45 49, .ex 50 (.ext (.t 45) 0), .ex 51 (.ext (.t 45) 1), .ex 52 (.ext (.t 45) 2), .ex 9 (.alloc [(.c (.sc (.string ⟨#[]⟩))), (.c (.sc (.bool false))), (.c (.sc (.string ⟨#[]⟩)))]), .nu (.st 3 (.t 9) (.t 50)), .mv 10 51, .mv 11 52]) (.s (.r [.ex 53 (.fa 1 (.t 4)), .ex 54 (.ld false 1 (.t 53)), .ex 55 (.build [(.c (.sc (.int .i64 0))), (.c (.sc (.string ⟨#[]⟩))), (.c (.sc (.string ⟨#[]⟩))), (.c (.sc (.string ⟨#[]⟩)))] [(0, (1, (.i 4))), (1, (1, (.t 54)))]), .ex 12 (.alloc [(.c (.sc (.int .i64 0))), (.c (.sc (.string ⟨#[]⟩))), (.c (.sc (.string ⟨#[]⟩))), (.c (.sc (.string ⟨#[]⟩)))]), .nu (.st 4 (.t 12) (.t 55))]) (.s (.blk 0 (.s (.r [.ex 57 (.fa 0 (.t 4)), .ex 58 (.ld false 1 (.t 57)), .ex 59 (.bin .eql (.t 58) (.i 5)), .mv 56 59]) (.cnd (.t 56) (.r [.ex 60 (.fa 2 (.t 4)), .ex 61 (.ld false 1 (.t 60)), .ex 62 (.fa 1 (.t 4)), .ex 63 (.ld false 1 (.t 62)), .ex 64 (.build [(.c (.sc (.int .i64 0))), (.c (.sc (.string ⟨#[]⟩))), (.c (.sc (.string ⟨#[]⟩))), (.c (.sc (.string ⟨#[]⟩)))] [(0, (1, (.i 5))), (1, (1, (.t 61))), (2, (1, (.t 63)))]), .nu (.st 4 (.t 12) (.t 64))]) (.s (.r [.ex 66 (.fa 0 (.t 4)), .ex 67 (.ld false 1 (.t 66)), .ex 68 (.bin .eql (.t 67) (.i 4)), .mv 65 68]) (.cnd (.t 65) (.r [.ex 69 (.fa 0 (.t 12)), .nu (.st 1 (.t 69) (.i 1))]) (.s (.r [.ex 71 (.fa 0 (.t 4)), .ex 72 (.ld false 1 (.t 71)), .ex 73 (.bin .eql (.t 72) (.i 3)), .mv 74 73, .gf 75 (.fa 0 (.t 4)) 74, .gf 76 (.ld false 1 (.t 75)) 74, .gf 77 (.bin .eql (.t 76) (.i 2)) 74, .gf 78 (.mv (.t 77)) 74, .gt 79 (.mv (.t 11)) 78, .gf 80 (.pick (.t 78) (.t 79) .n) 74, .ex 81 (.pick (.t 74) .y (.t 80)), .mv 70 81]) (.cnd (.t 70) (.s (.r [.ex 82 (.fa 0 (.t 12)), .nu (.st 1 (.t 82) (.i 2))]) (.r [.ex 83 (.fa 2 (.t 9)), .ex 84 (.ld false 1 (.t 83)), .ex 85 (.fa 3 (.t 12)), .nu (.st 1 (.t 85) (.t 84))])) (.s (.r [.ex 87 (.fa 0 (.t 4)), .ex 88 (.ld false 1 (.t 87)), .ex 89 (.bin .eql (.t 88) (.i 2)), .mv 86 89]) (.cnd (.t 86) (.r [.ex 90 (.fa 0 (.t 12)), .nu (.st 1 (.t 90) (.i 3))]) .skip))))))))) (.s (.r [.ex 92 (.ld true 3 (.t 5)), .ex 93 (.ld true 4 (.t 12)), .ex 94 (.call 38 [(.t 92), (.t 93)]), .mv 91 94, .ex 95 (.ext (.t 91) 0), .ex 96 (.ext (.t 91) 1), .ex 13 (.alloc [.nil, .nil, .nil]), .nu (.st 3 (.t 13) (.t 95)), .mv 14 96]) (.s (.r [.mv 97 14, .ex 98 (.bin .eql (.t 97) (.i 0)), .mv 99 98, .gt 100 (.ld true 3 (.t 13)) 99, .gt 101 (.ld true 3 (.t 3)) 99, .gt 102 (.call 26 [(.t 100), (.t 101)]) 99, .ex 103 (.pick (.t 99) (.t 102) .n), .mv 2 103]) .ret)))))))))))
theorem c_laws_FnOverBack_eq : compF Go.Proofs.Tryz.prog [37] 10 = some (c_laws_FnOverBack.ac, [(.t 2)], 104) := by kernel_rfl

theorem f_FnOverBack (W0 : World) (hs : W0.ShapedOpen Go.Proofs.Tryz.prog) (c0' : Str) : Fn Go.Proofs.Tryz.prog W0 10 [eCode c0'] (.c (CB true)) [] := by
  refine fnX (c := c_laws_FnOverBack) mixed c_laws_FnOverBack_eq (by simp) rfl fun hg => ?_
  have hM := hM_of hs
  refine dr ?_
  refine cP (fun h1 => ?_) (fun h1 => ?_)
  · exact dz
  refine dr ?_
  refine oW (f_DrawOverDo W0 c0') rfl trivial rfl rfl ⟨(noO, ⟨0, [], [], []⟩), OS.no.oz.mono (by omega)⟩ fun x hx => ⟨rfl, ?_⟩
  obtain ⟨o, op⟩ := x
  clear hx
  have q1 := f_impl_OverDo W0 hM o op
  have q2 := f_spec_OverDo W0 o op
  cases h2 : oOk o with
  | false =>
    rw [oDo_no h2] at q1 q2
    refine dEr ?_
    repeat ((first | refine c0 q1 rfl ?_ | refine c0 q2 rfl ?_ | refine xiT ?_ | refine xiF ?_ | refine xbT ?_ | refine xbF ?_ | refine xiN ?_ | refine xiM ?_ | refine xbN ?_ | refine xbM ?_ | refine xeT ?_ | refine xeF ?_ | refine c0 (f_OSt W0 _ _ rfl) rfl ?_ | refine c0 (f_ESt W0 _ _ rfl) rfl ?_ | refine c0 (f_MSt W0 _ _ rfl) rfl ?_); first | refine dEr ?_ | exact dz)
    try exact xcT
  | true =>
    obtain ⟨t, x, g⟩ := OG.of h2
    have hbk := g.back (op := op)
    have q3 := f_impl_OverGet W0 hM o op.path
    rw [eOGet_q] at q3
    have e1 : (oGet o op.path).map (·.1) = if (oGet o op.path).isSome = true then some ((oGet o op.path).getD (noE, 0)).1 else none := by cases oGet o op.path <;> rfl
    rw [e1] at hbk
    have hwd : ((if (oGet o op.path).isSome = true then some ((oGet o op.path).getD (noE, 0)).1 else none).getD noE) = ((oGet o op.path).getD (noE, 0)).1 := by cases oGet o op.path <;> rfl
    generalize oDo o op = r at *
    obtain ⟨y, c⟩ := r
    generalize (oGet o op.path).isSome = ok at *
    generalize (oGet o op.path).getD (noE, 0) = w at *
    refine dEr ?_
    repeat ((first | refine c0 q1 rfl ?_ | refine c0 q2 rfl ?_ | refine xiT ?_ | refine xiF ?_ | refine xbT ?_ | refine xbF ?_ | refine xiN ?_ | refine xiM ?_ | refine xbN ?_ | refine xbM ?_ | refine xeT ?_ | refine xeF ?_ | refine c0 (f_OSt W0 _ _ rfl) rfl ?_ | refine c0 (f_ESt W0 _ _ rfl) rfl ?_ | refine c0 (f_MSt W0 _ _ rfl) rfl ?_); first | refine dEr ?_ | exact dz)
    refine cP (fun h3 => ?_) (fun h3 => ?_)
    · refine dEr ?_
      repeat ((first | refine xiT ?_ | refine xiF ?_ | refine xbT ?_ | refine xbF ?_ | refine xiN ?_ | refine xiM ?_ | refine xbN ?_ | refine xbM ?_ | refine xeT ?_ | refine xeF ?_ | refine c0 (f_OSt W0 _ _ rfl) rfl ?_ | refine c0 (f_ESt W0 _ _ rfl) rfl ?_ | refine c0 (f_MSt W0 _ _ rfl) rfl ?_); first | refine dEr ?_ | exact dz)
      try exact xcT
    have hbk := hbk h3
    simp only at hbk
    have fin : ∀ b, backOp op (if ok = true then some w.1 else none) = b → Fn Go.Proofs.Tryz.prog W0 38 [eOver y, eOp b] (.c (eOC (o, 0))) [] := fun b hb => by
      have := f_impl_OverDo W0 hM y b
      rw [← hb, hbk] at this
      rw [← hb]; exact this
    refine dEr ?_
    repeat ((first | refine c0 q3 rfl ?_ | refine xiT ?_ | refine xiF ?_ | refine xbT ?_ | refine xbF ?_ | refine xiN ?_ | refine xiM ?_ | refine xbN ?_ | refine xbM ?_ | refine xeT ?_ | refine xeF ?_ | refine c0 (f_OSt W0 _ _ rfl) rfl ?_ | refine c0 (f_ESt W0 _ _ rfl) rfl ?_ | refine c0 (f_MSt W0 _ _ rfl) rfl ?_); first | refine dEr ?_ | exact dz)
    unfold backOp at fin
    refine cP (fun k5 => ?_) (fun k5 => ?_)
    all_goals (first | have k5 : op.kind = 5 := k5 | have k5 : op.kind ≠ 5 := k5)
    · have q9 := fin ⟨5, op.dest, op.path, []⟩ (by simp [k5])
      refine dEr ?_
      repeat ((first | refine c0 q9 rfl ?_ | refine xiT ?_ | refine xiF ?_ | refine xbT ?_ | refine xbF ?_ | refine xiN ?_ | refine xiM ?_ | refine xbN ?_ | refine xbM ?_ | refine xeT ?_ | refine xeF ?_ | refine c0 (f_OSt W0 _ _ rfl) rfl ?_ | refine c0 (f_ESt W0 _ _ rfl) rfl ?_ | refine c0 (f_MSt W0 _ _ rfl) rfl ?_); first | refine dEr ?_ | exact dz)
      try rfl
    refine dEr ?_
    repeat ((first | refine xiT ?_ | refine xiF ?_ | refine xbT ?_ | refine xbF ?_ | refine xiN ?_ | refine xiM ?_ | refine xbN ?_ | refine xbM ?_ | refine xeT ?_ | refine xeF ?_ | refine c0 (f_OSt W0 _ _ rfl) rfl ?_ | refine c0 (f_ESt W0 _ _ rfl) rfl ?_ | refine c0 (f_MSt W0 _ _ rfl) rfl ?_); first | refine dEr ?_ | exact dz)
    refine cP (fun k4 => ?_) (fun k4 => ?_)
    all_goals (first | have k4 : op.kind = 4 := k4 | have k4 : op.kind ≠ 4 := k4)
    · have q9 := fin ⟨1, op.path, [], []⟩ (by simp [k4])
      refine dEr ?_
      repeat ((first | refine c0 q9 rfl ?_ | refine xiT ?_ | refine xiF ?_ | refine xbT ?_ | refine xbF ?_ | refine xiN ?_ | refine xiM ?_ | refine xbN ?_ | refine xbM ?_ | refine xeT ?_ | refine xeF ?_ | refine c0 (f_OSt W0 _ _ rfl) rfl ?_ | refine c0 (f_ESt W0 _ _ rfl) rfl ?_ | refine c0 (f_MSt W0 _ _ rfl) rfl ?_); first | refine dEr ?_ | exact dz)
      try rfl
    refine dEr ?_
    repeat ((first | refine xiT ?_ | refine xiF ?_ | refine xbT ?_ | refine xbF ?_ | refine xiN ?_ | refine xiM ?_ | refine xbN ?_ | refine xbM ?_ | refine xeT ?_ | refine xeF ?_ | refine c0 (f_OSt W0 _ _ rfl) rfl ?_ | refine c0 (f_ESt W0 _ _ rfl) rfl ?_ | refine c0 (f_MSt W0 _ _ rfl) rfl ?_); first | refine dEr ?_ | exact dz)
    refine cP (fun k3 => ?_) (fun k3 => ?_)
    all_goals (first | have k3 : op.kind = 3 := k3 | have k3 : op.kind ≠ 3 := k3)
    · have q9 := fin ⟨2, op.path, [], w.1.data⟩ (by rw [if_neg k5, if_neg k4, if_pos (.inl k3), hwd])
      refine dEr ?_
      repeat ((first | refine c0 q9 rfl ?_ | refine xiT ?_ | refine xiF ?_ | refine xbT ?_ | refine xbF ?_ | refine xiN ?_ | refine xiM ?_ | refine xbN ?_ | refine xbM ?_ | refine xeT ?_ | refine xeF ?_ | refine c0 (f_OSt W0 _ _ rfl) rfl ?_ | refine c0 (f_ESt W0 _ _ rfl) rfl ?_ | refine c0 (f_MSt W0 _ _ rfl) rfl ?_); first | refine dEr ?_ | exact dz)
      try rfl
    refine dEr ?_
    repeat ((first | refine xiT ?_ | refine xiF ?_ | refine xbT ?_ | refine xbF ?_ | refine xiN ?_ | refine xiM ?_ | refine xbN ?_ | refine xbM ?_ | refine xeT ?_ | refine xeF ?_ | refine c0 (f_OSt W0 _ _ rfl) rfl ?_ | refine c0 (f_ESt W0 _ _ rfl) rfl ?_ | refine c0 (f_MSt W0 _ _ rfl) rfl ?_); first | refine dEr ?_ | exact dz)
    refine cP (fun k2 => ?_) (fun k2 => ?_)
    all_goals (first | have k2 : op.kind = 2 := k2 | have k2 : op.kind ≠ 2 := k2)
    · cases hok : ok with
      | true =>
        rw [hok] at fin
        have q9 := fin ⟨2, op.path, [], w.1.data⟩ (by simp [k2])
        refine dEr ?_
        repeat ((first | refine c0 q9 rfl ?_ | refine xiT ?_ | refine xiF ?_ | refine xbT ?_ | refine xbF ?_ | refine xiN ?_ | refine xiM ?_ | refine xbN ?_ | refine xbM ?_ | refine xeT ?_ | refine xeF ?_ | refine c0 (f_OSt W0 _ _ rfl) rfl ?_ | refine c0 (f_ESt W0 _ _ rfl) rfl ?_ | refine c0 (f_MSt W0 _ _ rfl) rfl ?_); first | refine dEr ?_ | exact dz)
        try rfl
      | false =>
        rw [hok] at fin
        have q9 := fin ⟨3, op.path, [], []⟩ (by simp [k2])
        refine dEr ?_
        repeat ((first | refine c0 q9 rfl ?_ | refine xiT ?_ | refine xiF ?_ | refine xbT ?_ | refine xbF ?_ | refine xiN ?_ | refine xiM ?_ | refine xbN ?_ | refine xbM ?_ | refine xeT ?_ | refine xeF ?_ | refine c0 (f_OSt W0 _ _ rfl) rfl ?_ | refine c0 (f_ESt W0 _ _ rfl) rfl ?_ | refine c0 (f_MSt W0 _ _ rfl) rfl ?_); first | refine dEr ?_ | exact dz)
        refine cP (fun k6 => ?_) (fun k6 => ?_)
        · refine dEr ?_
          repeat ((first | refine c0 q9 rfl ?_ | refine xiT ?_ | refine xiF ?_ | refine xbT ?_ | refine xbF ?_ | refine xiN ?_ | refine xiM ?_ | refine xbN ?_ | refine xbM ?_ | refine xeT ?_ | refine xeF ?_ | refine c0 (f_OSt W0 _ _ rfl) rfl ?_ | refine c0 (f_ESt W0 _ _ rfl) rfl ?_ | refine c0 (f_MSt W0 _ _ rfl) rfl ?_); first | refine dEr ?_ | exact dz)
          try rfl
        · exact absurd k2 k6
    · have q9 := fin ⟨4, op.path, [], []⟩ (by simp [k5, k4, k3, k2])
      refine dEr ?_
      repeat ((first | refine c0 q9 rfl ?_ | refine xiT ?_ | refine xiF ?_ | refine xbT ?_ | refine xbF ?_ | refine xiN ?_ | refine xiM ?_ | refine xbN ?_ | refine xbM ?_ | refine xeT ?_ | refine xeF ?_ | refine c0 (f_OSt W0 _ _ rfl) rfl ?_ | refine c0 (f_ESt W0 _ _ rfl) rfl ?_ | refine c0 (f_MSt W0 _ _ rfl) rfl ?_); first | refine dEr ?_ | exact dz)
      refine cP (fun k6 => ?_) (fun k6 => ?_)
      · exact absurd k6 k2
      refine dEr ?_
      repeat ((first | refine c0 q9 rfl ?_ | refine xiT ?_ | refine xiF ?_ | refine xbT ?_ | refine xbF ?_ | refine xiN ?_ | refine xiM ?_ | refine xbN ?_ | refine xbM ?_ | refine xeT ?_ | refine xeF ?_ | refine c0 (f_OSt W0 _ _ rfl) rfl ?_ | refine c0 (f_ESt W0 _ _ rfl) rfl ?_ | refine c0 (f_MSt W0 _ _ rfl) rfl ?_); first | refine dEr ?_ | exact dz)
      try rfl


end Go.Proofs.YtaecaabnjenllaaGreatDoor

/- The walks of more laws on trees on layers; no condition but one on a package variable that start-up code lays. -/
import Derived.Test.YthblflnfhdnpdaaGreatDoorLc1
namespace Go.Proofs.YthblflnfhdnpdaaGreatDoor
set_option linter.unusedSimpArgs false
set_option linter.unusedVariables false
open Go Go.RowKit


def c_laws_FnOverFlatTwice : XC := (.s (.r [.ex 2 (.mv .n)]) (.s (.s (.r [.mv 10 0, .ex 11 (.len false (.t 10)), .ex 12 (.bin .gtr (.t 11) (.i 1048576))]) (.cnd (.t 12) (.s (.r [.ex 2 (.mv .y)]) .ret) .skip)) (.s (.r [.mv 13 0, .ex 14 (.opn 13 [(.t 13)]), .ex 3 (.alloc [.nil, .nil, .nil]), .nu (.st 3 (.t 3) (.t 14))]) (.s (.r [.ex 16 (.ld true 3 (.t 3)), .ex 17 (.call 14 [(.t 16)]), .mv 15 17, .ex 18 (.ext (.t 15) 0), .ex 19 (.ext (.t 15) 1), .ex 4 (.alloc [.nil, .nil, .nil]), .nu (.st 3 (.t 4) (.t 18)), .mv 5 19]) (.s (.r [.ex 21 (.ld true 3 (.t 3)), .ex 22 (.call 15 [(.t 21)]), .mv 20 22, .ex 23 (.ext (.t 20) 0), .ex 24 (.ext (.t 20) 1), .ex 6 (.alloc [.nil, .nil, .nil]), .nu (.st 3 (.t 6) (.t 23)), .mv 7 24]) (.s (.s (.r [.mv 25 5, .mv 26 7, .ex 27 (.bb true (.t 25) (.t 26)), .mv 28 27, .gf 29 (.mv (.t 5)) 28, .gf 30 (.un .not (.t 29)) 28, .ex 31 (.pick (.t 28) .y (.t 30))]) (.cnd (.t 31) (.s (.r [.mv 32 5, .mv 33 7, .ex 34 (.bb false (.t 32) (.t 33)), .mv 2 34]) .ret) .skip)) (.s (.r [.ex 36 (.ld true 3 (.t 4)), .ex 37 (.call 14 [(.t 36)]), .mv 35 37, .ex 38 (.ext (.t 35) 0), .ex 39 (.ext (.t 35) 1), .ex 8 (.alloc [.nil, .nil, .nil]), .nu (.st 3 (.t 8) (.t 38)), .mv 9 39]) (.s (.d [.mv 40 9, .ex 41 (.un .not (.t 40)), .mv 42 41, .gt 43 (.ld true 3 (.t 4)) 42, .gt 44 (.ld true 3 (.t 8)) 42, .gt 45 (.call 16 [(.t 43), (.t 44)]) 42, .ex 46 (.pick (.t 42) (.t 45) .n), .mv 47 46, .gt 48 (.ld true 3 (.t 4)) 47, .gt 49 (.call 17 [(.t 48)]) 47, .gt 50 (.ld true 3 (.t 3)) 47, .gt 51 (.call 17 [(.t 50)]) 47, .gt 52 (.call 16 [(.t 49), (.t 51)]) 47, .ex 53 (.pick (.t 47) (.t 52) .n), .mv 54 53, .gt 55 (.ld true 3 (.t 3)) 54, .gt 56 (.call 17 [(.t 55)]) 54, .gt 57 (.call 17 [(.t 56)]) 54, .gt 58 (.ld true 3 (.t 3)) 54, .gt 59 (.call 17 [(.t 58)]) 54, .gt 60 (.call 16 [(.t 57), (.t 59)]) 54, .ex 61 (.pick (.t 54) (.t 60) .n), .mv 2 61]) .ret))))))))
theorem c_laws_FnOverFlatTwice_eq : compF Go.Proofs.Tryz.prog [13] 3 = some (c_laws_FnOverFlatTwice.ac, [(.t 2)], 62) := by kernel_rfl

theorem f_FnOverFlatTwice (W0 : World) (hs : W0.ShapedOpen Go.Proofs.Tryz.prog) (c0' : Str) : Fn Go.Proofs.Tryz.prog W0 3 [eCode c0'] (.c (CB true)) [] := by
  refine fnX (c := c_laws_FnOverFlatTwice) mixed c_laws_FnOverFlatTwice_eq (by simp) rfl fun hg => ?_
  have hM := hM_of hs
  refine dr ?_
  refine cP (fun h1 => ?_) (fun h1 => ?_)
  · exact dz
  refine dr ?_
  refine oW (f_DrawOverFlat W0 c0') rfl trivial rfl rfl ⟨noO, OS.no.oz.mono (by omega)⟩ fun o hx => ⟨rfl, ?_⟩
  clear hx
  have q1 := f_impl_OverFlat W0 hM o
  have q2 := f_spec_OverFlat W0 o
  cases h2 : oOk o with
  | false =>
    rw [oFlat, if_neg (by simp [h2])] at q1 q2
    refine dEr ?_
    repeat ((first | refine c0 q1 rfl ?_ | refine c0 q2 rfl ?_ | refine xiT ?_ | refine xiF ?_ | refine xbT ?_ | refine xbF ?_ | refine xiN ?_ | refine xiM ?_ | refine xbN ?_ | refine xbM ?_ | refine xeT ?_ | refine xeF ?_ | refine c0 (f_OSt W0 _ _ rfl) rfl ?_ | refine c0 (f_ESt W0 _ _ rfl) rfl ?_ | refine c0 (f_MSt W0 _ _ rfl) rfl ?_); first | refine dEr ?_ | exact dz)
    try exact xcB
  | true =>
    obtain ⟨t, x, g⟩ := OG.of h2
    cases hj : flatO o with
    | none =>
      rw [oFlat, if_pos h2, hj] at q1 q2
      refine dEr ?_
      repeat ((first | refine c0 q1 rfl ?_ | refine c0 q2 rfl ?_ | refine xiT ?_ | refine xiF ?_ | refine xbT ?_ | refine xbF ?_ | refine xiN ?_ | refine xiM ?_ | refine xbN ?_ | refine xbM ?_ | refine xeT ?_ | refine xeF ?_ | refine c0 (f_OSt W0 _ _ rfl) rfl ?_ | refine c0 (f_ESt W0 _ _ rfl) rfl ?_ | refine c0 (f_MSt W0 _ _ rfl) rfl ?_); first | refine dEr ?_ | exact dz)
      try exact xcB
    | some j =>
      obtain ⟨e1, g1, _⟩ := g.flat hj
      rw [e1] at q1 q2
      have q3 := f_impl_OverFlat W0 hM ⟨o.base, [j], o.upper⟩
      rw [oFlat, if_pos g1.ok, show flatO ⟨o.base, [j], o.upper⟩ = none from rfl] at q3
      have q4 := f_impl_OverSink W0 hM ⟨o.base, [j], o.upper⟩
      rw [g1.sink.1] at q4
      have q5 := f_impl_OverSink W0 hM o
      rw [g.sink.1] at q5
      have q6 := f_impl_OverSink W0 hM ⟨t, [], o.upper⟩
      rw [g.sink.2.sink.1] at q6
      refine dEr ?_
      repeat ((first | refine c0 q1 rfl ?_ | refine c0 q2 rfl ?_ | refine c0 q3 rfl ?_ | refine c0 q4 rfl ?_ | refine c0 q5 rfl ?_ | refine c0 q6 rfl ?_ | refine xiT ?_ | refine xiF ?_ | refine xbT ?_ | refine xbF ?_ | refine xiN ?_ | refine xiM ?_ | refine xbN ?_ | refine xbM ?_ | refine xeT ?_ | refine xeF ?_ | refine c0 (f_OSt W0 _ _ rfl) rfl ?_ | refine c0 (f_ESt W0 _ _ rfl) rfl ?_ | refine c0 (f_MSt W0 _ _ rfl) rfl ?_); first | refine dEr ?_ | exact dz)
      try rfl


def c_laws_FnOverBeneath : XC := (.s (.r [.ex 2 (.mv .n)]) (.s (.s (.r [.mv 15 0, .ex 16 (.len false (.t 15)), .ex 17 (.bin .gtr (.t 16) (.i 1048576))]) (.cnd (.t 17) (.s (.r [.ex 2 (.mv .y)]) .ret) .skip)) (.s (.r [.mv 19 0, .ex 20 (.opn 18 [(.t 19)]), .mv 18 20, .ex 21 (.ext (.t 18) 0), .ex 22 (.ext (.t 18) 1), .ex 3 (.alloc [.nil, .nil, .nil]), .ex 4 (.alloc [(.c (.sc (.int .i64 0))), (.c (.sc (.string ⟨#[]⟩))), (.c (.sc (.string ⟨#[]⟩))), (.c (.sc (.string ⟨#[]⟩)))]), .nu (.st 3 (.t 3) (.t 21)), .nu (.st 4 (.t 4) (.t 22))]) (.s (.r [.ex 24 (.ld true 3 (.t 3)), .ex 25 (.ld true 4 (.t 4)), .ex 26 (.call 19 [(.t 24), (.t 25)]), .mv 23 26, .ex 27 (.ext (.t 23) 0), .ex 28 (.ext (.t 23) 1), .ex 5 (.alloc [.nil, .nil, .nil]), .nu (.st 3 (.t 5) (.t 27)), .mv 6 28]) (.s (.r [.ex 30 (.ld true 3 (.t 3)), .ex 31 (.ld true 4 (.t 4)), .ex 32 (.call 20 [(.t 30), (.t 31)]), .mv 29 32, .ex 33 (.ext (.t 29) 0), .ex 34 (.ext (.t 29) 1), .ex 7 (.alloc [.nil, .nil, .nil]), .nu (.st 3 (.t 7) (.t 33)), .mv 8 34]) (.s (.s (.r [.mv 35 6, .mv 36 8, .ex 37 (.bin .neq (.t 35) (.t 36)), .mv 38 37, .gf 39 (.ld true 3 (.t 3)) 38, .gf 40 (.call 21 [(.t 39)]) 38, .gf 41 (.un .not (.t 40)) 38, .ex 42 (.pick (.t 38) .y (.t 41))]) (.cnd (.t 42) (.s (.r [.mv 43 6, .mv 44 8, .ex 45 (.bin .eql (.t 43) (.t 44)), .mv 2 45]) .ret) .skip)) (.s (.r [.ex 46 (.ld true 3 (.t 3)), .ex 9 (.alloc [.nil, .nil, .nil]), .nu (.st 3 (.t 9) (.t 46))]) (.s (.r [.ex 47 (.fa 2 (.t 9)), .nu (.st 1 (.t 47) (.k .nil))]) (.s (.r [.ex 48 (.ld true 3 (.t 5)), .ex 10 (.alloc [.nil, .nil, .nil]), .nu (.st 3 (.t 10) (.t 48))]) (.s (.r [.ex 49 (.fa 2 (.t 10)), .nu (.st 1 (.t 49) (.k .nil))]) (.s (.r [.ex 51 (.ld true 3 (.t 3)), .ex 52 (.call 22 [(.t 51)]), .mv 50 52, .ex 53 (.ext (.t 50) 0), .ex 54 (.ext (.t 50) 1), .ex 11 (.asn (.t 53) 3 59), .mv 12 54]) (.s (.r [.ex 56 (.ld true 3 (.t 5)), .ex 57 (.call 22 [(.t 56)]), .mv 55 57, .ex 58 (.ext (.t 55) 0), .ex 59 (.ext (.t 55) 1), .ex 13 (.asn (.t 58) 3 59), .mv 14 59]) (.s (.r [.ex 60 (.ld true 3 (.t 9)), .ex 61 (.ld true 3 (.t 10)), .ex 62 (.call 16 [(.t 60), (.t 61)]), .mv 63 62, .gt 64 (.mv (.t 12)) 63, .ex 65 (.pick (.t 63) (.t 64) .n), .mv 66 65, .gt 67 (.mv (.t 14)) 66, .ex 68 (.pick (.t 66) (.t 67) .n), .mv 69 68, .gt 70 (.mv (.t 11)) 69, .gt 71 (.mv (.t 13)) 69, .gt 72 (.call 23 [(.t 70), (.t 71)]) 69, .ex 73 (.pick (.t 69) (.t 72) .n), .mv 2 73]) .ret)))))))))))))
theorem c_laws_FnOverBeneath_eq : compF Go.Proofs.Tryz.prog [18] 4 = some (c_laws_FnOverBeneath.ac, [(.t 2)], 74) := by kernel_rfl

theorem f_FnOverBeneath (W0 : World) (hs : W0.ShapedOpen Go.Proofs.Tryz.prog) (c0' : Str) : Fn Go.Proofs.Tryz.prog W0 4 [eCode c0'] (.c (CB true)) [] := by
  refine fnX (c := c_laws_FnOverBeneath) mixed c_laws_FnOverBeneath_eq (by simp) rfl fun hg => ?_
  have hM := hM_of hs
  refine dr ?_
  refine cP (fun h1 => ?_) (fun h1 => ?_)
  · exact dz
  refine dr ?_
  refine oW (f_DrawOverDo W0 c0') rfl trivial rfl rfl ⟨(noO, ⟨0, [], [], []⟩), OS.no.oz.mono (by omega)⟩ fun x hx => ⟨rfl, ?_⟩
  obtain ⟨o, op⟩ := x
  clear hx
  have q1 := f_impl_OverDo W0 hM o op
  have q2 := f_spec_OverDo W0 o op
  have q3 := f_spec_OverOk W0 o
  cases h2 : oOk o with
  | false =>
    rw [oDo_no h2] at q1 q2
    rw [h2] at q3
    refine dEr ?_
    repeat ((first | refine c0 q1 rfl ?_ | refine c0 q2 rfl ?_ | refine c0 q3 rfl ?_ | refine xiT ?_ | refine xiF ?_ | refine xbT ?_ | refine xbF ?_ | refine xiN ?_ | refine xiM ?_ | refine xbN ?_ | refine xbM ?_ | refine xeT ?_ | refine xeF ?_ | refine c0 (f_OSt W0 _ _ rfl) rfl ?_ | refine c0 (f_ESt W0 _ _ rfl) rfl ?_ | refine c0 (f_MSt W0 _ _ rfl) rfl ?_); first | refine dEr ?_ | exact dz)
    try exact xcT
  | true =>
    obtain ⟨t, x, g⟩ := OG.of h2
    obtain ⟨g1, g2, g3, g4, g5⟩ := g.do op
    rw [h2] at q3
    have q5 := f_impl_OverLower W0 hM o
    rw [if_pos h2, g.low] at q5
    have q6 := f_impl_OverLower W0 hM (oDo o op).1
    rw [if_pos g1.ok, g1.low] at q6
    generalize oDo o op = r at *
    obtain ⟨⟨yb, yl, yu⟩, c⟩ := r
    simp only at g3 g4
    subst g3 g4
    refine dEr ?_
    repeat ((first | refine c0 q1 rfl ?_ | refine c0 q2 rfl ?_ | refine c0 q3 rfl ?_ | refine c0 q5 rfl ?_ | refine c0 q6 rfl ?_ | refine c0 (f_OSt W0 ⟨o.base, o.layers, []⟩ ⟨o.base, o.layers, []⟩ rfl) rfl ?_ | refine xiT ?_ | refine xiF ?_ | refine xbT ?_ | refine xbF ?_ | refine xiN ?_ | refine xiM ?_ | refine xbN ?_ | refine xbM ?_ | refine xeT ?_ | refine xeF ?_ | refine c0 (f_OSt W0 _ _ rfl) rfl ?_ | refine c0 (f_ESt W0 _ _ rfl) rfl ?_ | refine c0 (f_MSt W0 _ _ rfl) rfl ?_); first | refine dEr ?_ | exact dz)
    try rfl


def c_laws_FnOverSink : XC := (.s (.r [.ex 4 (.mv .n)]) (.s (.s (.r [.mv 17 0, .ex 18 (.len false (.t 17)), .ex 19 (.bin .gtr (.t 18) (.i 1048576)), .mv 20 19, .gf 21 (.mv (.t 1)) 20, .gf 22 (.len false (.t 21)) 20, .gf 23 (.bin .gtr (.t 22) (.i 1048576)) 20, .ex 24 (.pick (.t 20) .y (.t 23))]) (.cnd (.t 24) (.s (.r [.ex 4 (.mv .y)]) .ret) .skip)) (.s (.r [.mv 25 0, .ex 26 (.opn 24 [(.t 25)]), .ex 5 (.alloc [.nil, .nil, .nil]), .nu (.st 3 (.t 5) (.t 26))]) (.s (.r [.mv 28 1, .ex 29 (.opn 18 [(.t 28)]), .mv 27 29, .ex 30 (.ext (.t 27) 0), .ex 31 (.ext (.t 27) 1), .ex 6 (.alloc [.nil, .nil, .nil]), .ex 7 (.alloc [(.c (.sc (.int .i64 0))), (.c (.sc (.string ⟨#[]⟩))), (.c (.sc (.string ⟨#[]⟩))), (.c (.sc (.string ⟨#[]⟩)))]), .nu (.st 3 (.t 6) (.t 30)), .nu (.st 4 (.t 7) (.t 31))]) (.s (.r [.ex 32 (.ld true 3 (.t 5)), .ex 33 (.call 17 [(.t 32)]), .ex 8 (.alloc [.nil, .nil, .nil]), .nu (.st 3 (.t 8) (.t 33))]) (.s (.s (.d [.ex 34 (.ld true 3 (.t 8)), .ex 35 (.ld true 3 (.t 5)), .ex 36 (.call 25 [(.t 35)]), .ex 37 (.call 16 [(.t 34), (.t 36)]), .ex 38 (.un .not (.t 37))]) (.cnd (.t 38) (.s (.r [.ex 4 (.mv .n)]) .ret) .skip)) (.s (.s (.r [.ex 39 (.ld true 3 (.t 5)), .ex 40 (.call 21 [(.t 39)]), .ex 41 (.un .not (.t 40))]) (.cnd (.t 41) (.s (.r [.ex 42 (.ld true 3 (.t 8)), .ex 43 (.build [.nil, .nil, .nil] []), .ex 44 (.call 16 [(.t 42), (.t 43)]), .mv 4 44]) .ret) .skip)) (.s (.r [.ex 46 (.ld true 3 (.t 5)), .ex 47 (.ld true 4 (.t 7)), .ex 48 (.call 19 [(.t 46), (.t 47)]), .mv 45 48, .ex 49 (.ext (.t 45) 0), .ex 50 (.ext (.t 45) 1), .ex 9 (.alloc [.nil, .nil, .nil]), .nu (.st 3 (.t 9) (.t 49)), .mv 10 50]) (.s (.r [.ex 52 (.ld true 3 (.t 8)), .ex 53 (.ld true 4 (.t 7)), .ex 54 (.call 19 [(.t 52), (.t 53)]), .mv 51 54, .ex 55 (.ext (.t 51) 0), .ex 56 (.ext (.t 51) 1), .ex 11 (.alloc [.nil, .nil, .nil]), .nu (.st 3 (.t 11) (.t 55)), .mv 12 56]) (.s (.r [.ex 58 (.ld true 3 (.t 9)), .ex 59 (.call 26 [(.t 58)]), .mv 57 59, .ex 60 (.ext (.t 57) 0), .ex 61 (.ext (.t 57) 1), .ex 13 (.asn (.t 60) 3 59), .mv 14 61]) (.s (.r [.ex 63 (.ld true 3 (.t 11)), .ex 64 (.call 26 [(.t 63)]), .mv 62 64, .ex 65 (.ext (.t 62) 0), .ex 66 (.ext (.t 62) 1), .ex 15 (.asn (.t 65) 3 59), .mv 16 66]) (.s (.r [.ex 67 (.ld true 3 (.t 8)), .ex 68 (.call 27 [(.t 67)]), .mv 69 68, .gt 70 (.fa 1 (.t 8)) 69, .gt 71 (.ld false 1 (.t 70)) 69, .gt 72 (.len false (.t 71)) 69, .gt 73 (.bin .eql (.t 72) (.i 0)) 69, .ex 74 (.pick (.t 69) (.t 73) .n), .mv 75 74, .gt 76 (.mv (.t 10)) 75, .gt 77 (.mv (.t 12)) 75, .gt 78 (.bin .eql (.t 76) (.t 77)) 75, .ex 79 (.pick (.t 75) (.t 78) .n), .mv 80 79, .gt 81 (.mv (.t 13)) 80, .gt 82 (.mv (.t 15)) 80, .gt 83 (.call 23 [(.t 81), (.t 82)]) 80, .ex 84 (.pick (.t 80) (.t 83) .n), .mv 85 84, .gt 86 (.fa 2 (.t 9)) 85, .gt 87 (.ld false 1 (.t 86)) 85, .gt 88 (.fa 2 (.t 11)) 85, .gt 89 (.ld false 1 (.t 88)) 85, .gt 90 (.call 28 [(.t 87), (.t 89)]) 85, .ex 91 (.pick (.t 85) (.t 90) .n), .mv 4 91]) .ret))))))))))))
theorem c_laws_FnOverSink_eq : compF Go.Proofs.Tryz.prog [24, 18] 5 = some (c_laws_FnOverSink.ac, [(.t 4)], 92) := by kernel_rfl

theorem f_FnOverSink (W0 : World) (hs : W0.ShapedOpen Go.Proofs.Tryz.prog) (c0' c1' : Str) : Fn Go.Proofs.Tryz.prog W0 5 [eCode c0', eCode c1'] (.c (CB true)) [] := by
  refine fnX (c := c_laws_FnOverSink) mixed c_laws_FnOverSink_eq (by simp) rfl fun hg => ?_
  have hM := hM_of hs
  refine dr ?_
  refine cP (fun h1 => ?_) (fun h1 => ?_)
  · exact dz
  refine dr ?_
  refine cP (fun h1 => ?_) (fun h1 => ?_)
  · exact dz
  refine dr ?_
  refine oW (f_DrawOverSink W0 c0') rfl trivial rfl rfl ⟨noO, OS.no.oz.mono (by omega)⟩ fun o hx => ⟨rfl, ?_⟩
  clear hx
  refine dEr ?_
  refine oW (f_DrawOverDo W0 c1') rfl trivial rfl rfl ⟨(noO, ⟨0, [], [], []⟩), OS.no.oz.mono (by omega)⟩ fun x hx => ⟨rfl, ?_⟩
  obtain ⟨o2, op⟩ := x
  clear hx
  have q1 := f_impl_OverSink W0 hM o
  have q2 := f_spec_OverSink W0 o
  have q3 := f_spec_OverOk W0 o
  cases h2 : oOk o with
  | false =>
    rw [oSink, if_neg (by simp [h2])] at q1 q2
    rw [h2] at q3
    refine dEr ?_
    repeat ((first | refine c0 q1 rfl ?_ | refine c0 q2 rfl ?_ | refine c0 q3 rfl ?_ | refine xiT ?_ | refine xiF ?_ | refine xbT ?_ | refine xbF ?_ | refine xiN ?_ | refine xiM ?_ | refine xbN ?_ | refine xbM ?_ | refine xeT ?_ | refine xeF ?_ | refine c0 (f_OSt W0 _ _ rfl) rfl ?_ | refine c0 (f_ESt W0 _ _ rfl) rfl ?_ | refine c0 (f_MSt W0 _ _ rfl) rfl ?_); first | refine dEr ?_ | exact dz)
    try rfl
  | true =>
    obtain ⟨t, x, g⟩ := OG.of h2
    rw [h2] at q3
    obtain ⟨e1, g1⟩ := g.sink
    rw [e1] at q1 q2
    have q4 := f_impl_OverDo W0 hM o op
    have q5 := f_impl_OverDo W0 hM ⟨t, [], o.upper⟩ op
    have q8 := f_impl_OverOk W0 hM ⟨t, [], o.upper⟩
    rw [g1.ok] at q8
    obtain ⟨a1, _⟩ := g.do op
    obtain ⟨b1, _, _, b4, _⟩ := g1.do op
    have q6 := f_impl_OverView W0 hM (oDo o op).1
    rw [if_pos a1.ok, a1.vw] at q6
    have q7 := f_impl_OverView W0 hM (oDo ⟨t, [], o.upper⟩ op).1
    rw [if_pos b1.ok, b1.vw] at q7
    have hc : (oDo ⟨t, [], o.upper⟩ op).2 = (oDo o op).2 := by rw [(g.do op).2.1, (g1.do op).2.1]
    have hu : (oDo ⟨t, [], o.upper⟩ op).1.upper = (oDo o op).1.upper := by rw [a1.up, b1.up]
    generalize oDo o op = r at *
    generalize oDo ⟨t, [], o.upper⟩ op = s at *
    obtain ⟨⟨yb, yl, yu⟩, c⟩ := r
    obtain ⟨⟨zb, zl, zu⟩, d⟩ := s
    simp only at hc hu
    subst hc hu
    refine dEr ?_
    repeat ((first | refine c0 q1 rfl ?_ | refine c0 q2 rfl ?_ | refine c0 q3 rfl ?_ | refine c0 q4 rfl ?_ | refine c0 q5 rfl ?_ | refine c0 q6 rfl ?_ | refine c0 q7 rfl ?_ | refine c0 q8 rfl ?_ | refine xiT ?_ | refine xiF ?_ | refine xbT ?_ | refine xbF ?_ | refine xiN ?_ | refine xiM ?_ | refine xbN ?_ | refine xbM ?_ | refine xeT ?_ | refine xeF ?_ | refine c0 (f_OSt W0 _ _ rfl) rfl ?_ | refine c0 (f_ESt W0 _ _ rfl) rfl ?_ | refine c0 (f_MSt W0 _ _ rfl) rfl ?_); first | refine dEr ?_ | exact dz)
    try rfl


end Go.Proofs.YthblflnfhdnpdaaGreatDoor

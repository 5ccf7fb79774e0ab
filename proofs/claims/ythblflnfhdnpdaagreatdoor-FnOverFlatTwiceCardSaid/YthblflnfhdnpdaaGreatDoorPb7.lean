/- Contracts: two layers in one (reference); no condition. -/
import Derived.Test.YthblflnfhdnpdaaGreatDoorPb5
import Derived.Test.YthblflnfhdnpdaaGreatDoorQa6
namespace Go.Proofs.YthblflnfhdnpdaaGreatDoor
set_option linter.unusedSimpArgs false
set_option linter.unusedVariables false
open Go Go.RowKit


def c_spec_l3Both : XC := (.s (.r [.ex 4 (.mv (.i 0))]) (.s (.s (.r [.mv 5 0, .ex 6 (.bin .eql (.t 5) (.i 2)), .mv 7 6, .gt 8 (.mv (.t 1)) 7, .gt 9 (.bin .neq (.t 8) (.i 0)) 7, .ex 10 (.pick (.t 7) (.t 9) .n), .mv 11 10, .gt 12 (.mv (.t 1)) 11, .gt 13 (.bin .neq (.t 12) (.i 2)) 11, .ex 14 (.pick (.t 11) (.t 13) .n)]) (.cnd (.t 14) (.s (.r [.ex 4 (.mv (.i 4))]) .ret) .skip)) (.s (.r [.mv 15 0, .mv 4 15]) .ret)))
theorem c_spec_l3Both_eq : compF Go.Proofs.Tryz.prog [] 225 = some (c_spec_l3Both.ac, [(.t 4)], 16) := by kernel_rfl

theorem f_l3Both (W0 : World) (a b : Int) : Fn Go.Proofs.Tryz.prog W0 225 [CI a, CI b] (.c (CI (bothK a b))) [] := by
  refine fnX (c := c_spec_l3Both) mixed c_spec_l3Both_eq (by simp) rfl fun hg => ?_
  refine dr ?_
  refine cP (fun h1 => ?_) (fun h1 => ?_)
  · refine dr ?_
    refine cP (fun h2 => ?_) (fun h2 => ?_)
    · refine dr ?_
      refine cP (fun h3 => ?_) (fun h3 => ?_)
      · refine dr ?_
        exact congrArg CI (by rw [bothK, if_pos ⟨h1, h2, h3⟩])
      · refine dr ?_
        exact congrArg CI (by rw [bothK, if_neg (fun h => h.2.2 h3)])
    · refine dr ?_
      exact congrArg CI (by rw [bothK, if_neg (fun h => h.2.1 h2)])
  · refine dr ?_
    exact congrArg CI (by rw [bothK, if_neg (fun h => h1 h.1)])


def c_spec_l3Tidy : XC := (.s (.r [.ex 2 (.asn (.k .nil) 3 49)]) (.s (.r [.ex 6 .bsl0, .ex 3 (.asn (.t 6) 3 49)]) (.s (.s (.r [.ex 4 (.mv (.i 0))]) (.blk 0 (.loop (.s (.s (.r [.mv 7 4, .mv 8 0, .ex 9 (.len false (.t 8)), .ex 10 (.bin .lss (.t 7) (.t 9))]) (.cnd (.t 10) .skip (.exit 0))) (.s (.blk 1 (.s (.r [.mv 13 0, .mv 14 4, .ex 15 (.ia 3 (.t 13) (.t 14)), .ex 16 (.ld true 3 (.t 15)), .ex 5 (.alloc [(.c (.sc (.string ⟨#[]⟩))), (.c (.sc (.int .i64 0))), (.c (.sc (.string ⟨#[]⟩)))]), .nu (.st 3 (.t 5) (.t 16))]) (.s (.s (.r [.mv 17 3, .ex 18 (.fa 0 (.t 5)), .ex 19 (.ld false 1 (.t 18)), .ex 20 (.call 222 [(.t 17), (.t 19)])]) (.cnd (.t 20) (.s (.s (.r [.ex 21 (.fa 1 (.t 5)), .ex 22 (.ld false 1 (.t 21)), .ex 23 (.bin .eql (.t 22) (.i 3))]) (.cnd (.t 23) (.exit 1) .skip)) (.s (.r [.ex 24 (.fa 1 (.t 5)), .ex 25 (.ld false 1 (.t 24)), .ex 26 (.bin .eql (.t 25) (.i 4))]) (.cnd (.t 26) (.r [.ex 27 (.fa 1 (.t 5)), .nu (.st 1 (.t 27) (.i 2))]) .skip))) .skip)) (.r [.mv 28 3, .ex 29 (.ld true 3 (.t 5)), .ex 30 (.bsl 3 49 [(.t 29)]), .ex 31 (.app false 3 40 49 (.t 28) (.t 30)), .ex 3 (.asn (.t 31) 3 49)])))) (.r [.mv 11 4, .ex 12 (.bin .add (.t 11) (.i 1)), .mv 4 12])))))) (.s (.r [.mv 32 3, .ex 2 (.asn (.t 32) 3 49)]) .ret))))
theorem c_spec_l3Tidy_eq : compF Go.Proofs.Tryz.prog [] 150 = some (c_spec_l3Tidy.ac, [(.t 2)], 33) := by kernel_rfl

theorem tidyF_len {out : List Mark} {m : Mark} : (tidyF out m).length ≤ out.length + 1 := by
  unfold tidyF; split
  · split <;> simp
  · simp
theorem f_l3Tidy (W0 : World) (l : List Mark) (hl : l.length ≤ 1000000) : Fn Go.Proofs.Tryz.prog W0 150 [eMarks l] (.c (eMarks (l.foldl tidyF []))) [] := by
  refine fnX (c := c_spec_l3Tidy) mixed c_spec_l3Tidy_eq (by simp) rfl fun hg => ?_
  refine dr ?_
  refine lp2 (fun (k : Nat) (out : List Mark) => [(0, .c (eMarks l)), (3, .own 48 out.length), (4, I k)]) (fun _ out => [(48, .row (out.map eMark) 3 49)]) (fun k out => k ≤ l.length ∧ out = (l.take k).foldl tidyF [] ∧ out.length ≤ k) (fun k _ => l.length - k) 0 [] ⟨by simp, rfl, by simp⟩ ?_ ?_
  · refine dr ?_
    trivial
  rintro k out ⟨hk, ho, hle⟩
  refine dr ?_
  refine cP (fun h1 => ?_) (fun h1 => ?_)
  · have hk' : k < l.length := by omega
    have hn : (l.take (k + 1)).foldl tidyF [] = tidyF out l[k] := by rw [fold_next hk', ← ho]
    have hn2 : (tidyF out l[k]).length ≤ k + 1 := by have := tidyF_len (out := out) (m := l[k]); omega
    refine dr ?_
    repeat (refine c0 (f_l3Bare W0 out _) rfl ?_; first | refine dr ?_ | exact dz)
    refine cP (fun h2 => ?_) (fun h2 => ?_)
    · refine dr ?_
      refine cP (fun h3 => ?_) (fun h3 => ?_)
      · refine dr ?_
        have e : tidyF out l[k] = out := by rw [tidyF, if_pos h2, if_pos h3]
        refine ⟨k + 1, out, ⟨by omega, by rw [hn, e], by omega⟩, by omega, ?_⟩
        refine dr ?_
        trivial
      · refine dr ?_
        refine cP (fun h4 => ?_) (fun h4 => ?_)
        · refine dr ?_
          repeat ((first | refine oB (by simp; omega) ?_ | refine oB (by simp) ?_); first | refine dr ?_ | exact dz)
          have e : tidyF out l[k] = out ++ [⟨l[k].path, 2, l[k].data⟩] := by rw [tidyF, if_pos h2, if_neg h3, if_pos h4]
          refine ⟨k + 1, out ++ [⟨l[k].path, 2, l[k].data⟩], ⟨by omega, by rw [hn, e], by simp; omega⟩, by omega, ?_⟩
          refine dr ?_
          repeat (refine oB (by simp <;> rfl) ?_; first | refine dr ?_ | exact dz)
          trivial
        · refine dr ?_
          repeat ((first | refine oB (by simp; omega) ?_ | refine oB (by simp) ?_); first | refine dr ?_ | exact dz)
          have e : tidyF out l[k] = out ++ [l[k]] := by rw [tidyF, if_pos h2, if_neg h3, if_neg h4]
          refine ⟨k + 1, out ++ [l[k]], ⟨by omega, by rw [hn, e], by simp; omega⟩, by omega, ?_⟩
          refine dr ?_
          repeat (refine oB (by simp <;> rfl) ?_; first | refine dr ?_ | exact dz)
          trivial
    · refine dr ?_
      repeat ((first | refine oB (by simp; omega) ?_ | refine oB (by simp) ?_); first | refine dr ?_ | exact dz)
      have e : tidyF out l[k] = out ++ [l[k]] := by rw [tidyF, if_neg (by simp [h2])]
      refine ⟨k + 1, out ++ [l[k]], ⟨by omega, by rw [hn, e], by simp; omega⟩, by omega, ?_⟩
      refine dr ?_
      repeat (refine oB (by simp <;> rfl) ?_; first | refine dr ?_ | exact dz)
      trivial
  have hkl : k = l.length := by omega
  rw [hkl, List.take_length] at ho
  refine dr ?_
  repeat (refine oB (by simp) ?_; first | refine dr ?_ | exact dz)
  rw [ho]; rfl


def c_spec_l3Join : XC := (.s (.r [.ex 4 (.asn (.k .nil) 3 49)]) (.s (.r [.ex 9 .bsl0, .ex 5 (.asn (.t 9) 3 49)]) (.s (.s (.r [.ex 6 (.mv (.i 0))]) (.blk 0 (.loop (.s (.s (.r [.mv 10 6, .mv 11 1, .ex 12 (.len false (.t 11)), .ex 13 (.bin .lss (.t 10) (.t 12))]) (.cnd (.t 13) .skip (.exit 0))) (.s (.blk 1 (.s (.r [.mv 16 0, .mv 17 1, .mv 18 6, .ex 19 (.ia 3 (.t 17) (.t 18)), .ex 20 (.fa 0 (.t 19)), .ex 21 (.ld false 1 (.t 20)), .ex 22 (.call 223 [(.t 16), (.t 21)]), .ex 23 (.un .not (.t 22)), .mv 24 23, .gt 25 (.mv (.t 0)) 24, .gt 26 (.mv (.t 1)) 24, .gt 27 (.mv (.t 6)) 24, .gt 28 (.ia 3 (.t 26) (.t 27)) 24, .gt 29 (.fa 0 (.t 28)) 24, .gt 30 (.ld false 1 (.t 29)) 24, .gt 31 (.call 224 [(.t 25), (.t 30)]) 24, .gt 32 (.bin .eql (.t 31) (.i 0)) 24, .ex 33 (.pick (.t 24) (.t 32) .n)]) (.cnd (.t 33) (.r [.mv 34 5, .mv 35 1, .mv 36 6, .ex 37 (.ia 3 (.t 35) (.t 36)), .ex 38 (.ld true 3 (.t 37)), .ex 39 (.call 169 [(.t 34), (.t 38)]), .ex 5 (.asn (.t 39) 3 49)]) .skip))) (.r [.mv 14 6, .ex 15 (.bin .add (.t 14) (.i 1)), .mv 6 15])))))) (.s (.s (.r [.ex 7 (.mv (.i 0))]) (.blk 2 (.loop (.s (.s (.r [.mv 40 7, .mv 41 0, .ex 42 (.len false (.t 41)), .ex 43 (.bin .lss (.t 40) (.t 42))]) (.cnd (.t 43) .skip (.exit 2))) (.s (.blk 3 (.s (.r [.mv 46 0, .mv 47 7, .ex 48 (.ia 3 (.t 46) (.t 47)), .ex 49 (.ld true 3 (.t 48)), .ex 8 (.alloc [(.c (.sc (.string ⟨#[]⟩))), (.c (.sc (.int .i64 0))), (.c (.sc (.string ⟨#[]⟩)))]), .nu (.st 3 (.t 8) (.t 49))]) (.s (.d [.ex 50 (.fa 1 (.t 8)), .ex 51 (.ld false 1 (.t 50)), .mv 52 1, .ex 53 (.fa 0 (.t 8)), .ex 54 (.ld false 1 (.t 53)), .ex 55 (.call 224 [(.t 52), (.t 54)]), .ex 56 (.call 225 [(.t 51), (.t 55)]), .ex 57 (.fa 1 (.t 8)), .nu (.st 1 (.t 57) (.t 56))]) (.r [.mv 58 5, .ex 59 (.ld true 3 (.t 8)), .ex 60 (.call 169 [(.t 58), (.t 59)]), .ex 5 (.asn (.t 60) 3 49)])))) (.r [.mv 44 7, .ex 45 (.bin .add (.t 44) (.i 1)), .mv 7 45])))))) (.s (.r [.mv 61 5, .ex 4 (.asn (.t 61) 3 49)]) .ret)))))
theorem c_spec_l3Join_eq : compF Go.Proofs.Tryz.prog [] 151 = some (c_spec_l3Join.ac, [(.t 4)], 62) := by kernel_rfl

theorem f_l3Join (W0 : World) (a b : List Mark) (hl : a.length + b.length ≤ 1000000) : Fn Go.Proofs.Tryz.prog W0 151 [eMarks a, eMarks b] (.c (eMarks (join0 a b))) [] := by
  refine fnX (c := c_spec_l3Join) mixed c_spec_l3Join_eq (by simp) rfl fun hg => ?_
  refine dr ?_
  refine lz2 80 (fun (k : Nat) (out : List Mark) => [(0, .c (eMarks a)), (1, .c (eMarks b)), (5, .c (eMarks out)), (6, I k)]) (fun _ _ => []) (fun k out => k ≤ b.length ∧ out = ((b.take k).filter (joinB a)).foldl lput [] ∧ out.length ≤ k) (fun k _ => b.length - k) 0 [] ⟨by simp, rfl, by simp⟩ ?_ ?_
  · refine dr ?_
    trivial
  rintro k out ⟨hk, ho, hle⟩
  refine dr ?_
  refine cP (fun h1 => ?_) (fun h1 => ?_)
  · have hk' : k < b.length := by omega
    have no : joinB a b[k] = false → out = ((b.take (k + 1)).filter (joinB a)).foldl lput [] := fun h => by rw [filt_f hk' h, ho]
    have yes : joinB a b[k] = true → lput out b[k] = ((b.take (k + 1)).filter (joinB a)).foldl lput [] := fun h => by rw [filt_t hk' h, List.foldl_append, ← ho]; rfl
    refine dEr ?_
    repeat (refine c0 (f_l3Hides W0 _ _) rfl ?_; first | refine dEr ?_ | exact dz)
    refine cP (fun h2 => ?_) (fun h2 => ?_)
    · refine dEr ?_
      repeat (refine c0 (f_l3Kind W0 _ _) rfl ?_; first | refine dEr ?_ | exact dz)
      refine cP (fun h3 => ?_) (fun h3 => ?_)
      · have hpl : (lput out b[k]).length ≤ out.length + 1 := putG_len
        refine dEr ?_
        repeat (refine c0 (f_l3Put W0 _ b[k] (by omega)) rfl ?_; first | refine dEr ?_ | exact dz)
        refine ⟨k + 1, lput out b[k], ⟨by omega, yes (by simp [joinB, h2, h3]), by omega⟩, by omega, ?_⟩
        refine dr ?_
        trivial
      · refine dr ?_
        refine ⟨k + 1, out, ⟨by omega, no (by simp [joinB, h3]), by omega⟩, by omega, ?_⟩
        refine dr ?_
        trivial
    · refine dr ?_
      refine ⟨k + 1, out, ⟨by omega, no (by simp [joinB, h2]), by omega⟩, by omega, ?_⟩
      refine dr ?_
      trivial
  have hkl : k = b.length := by omega
  rw [hkl, List.take_length] at ho
  have hj : join0 a b = (a.map (joinM b)).foldl lput out := by rw [join0, ho]
  rw [hj]
  have hob : out.length ≤ b.length := by omega
  clear ho hk hle hj h1 hkl
  generalize hoo : out = o0 at *
  refine dr ?_
  refine lp2 (fun (k : Nat) (out : List Mark) => [(0, .c (eMarks a)), (1, .c (eMarks b)), (5, .c (eMarks out)), (7, I k)]) (fun _ _ => []) (fun k out => k ≤ a.length ∧ out = ((a.take k).map (joinM b)).foldl lput o0 ∧ out.length ≤ o0.length + k) (fun k _ => a.length - k) 0 o0 ⟨by simp, rfl, by simp⟩ ?_ ?_
  · refine dr ?_
    trivial
  clear hoo
  rintro k out ⟨hk, ho, hle⟩
  refine dr ?_
  refine cP (fun h1 => ?_) (fun h1 => ?_)
  · have hk' : k < a.length := by omega
    have hn : ((a.take (k + 1)).map (joinM b)).foldl lput o0 = lput out (joinM b a[k]) := by
      rw [List.take_succ_eq_append_getElem hk', List.map_append, List.foldl_append, ← ho]; rfl
    have hpl : (lput out (joinM b a[k])).length ≤ out.length + 1 := putG_len
    refine dEr ?_
    repeat ((first | refine c0 (f_l3Kind W0 _ _) rfl ?_ | refine c0 (f_l3Both W0 _ _) rfl ?_ | refine c0 (f_l3Put W0 _ (joinM b a[k]) (by omega)) rfl ?_); first | refine dEr ?_ | exact dz)
    refine ⟨k + 1, _, ⟨by omega, hn.symm, by omega⟩, by omega, ?_⟩
    refine dr ?_
    trivial
  have hkl : k = a.length := by omega
  rw [hkl, List.take_length] at ho
  refine dr ?_
  rw [ho]


def c_spec_LayerJoin : XC := (.s (.r [.ex 4 (.asn (.k .nil) 3 49), .ex 5 (.mv .n)]) (.s (.s (.r [.mv 7 0, .ex 8 (.call 149 [(.t 7)]), .ex 9 (.un .not (.t 8)), .mv 10 9, .gf 11 (.mv (.t 1)) 10, .gf 12 (.call 149 [(.t 11)]) 10, .gf 13 (.un .not (.t 12)) 10, .ex 14 (.pick (.t 10) .y (.t 13))]) (.cnd (.t 14) (.s (.r [.ex 15 .bsl0, .ex 4 (.asn (.t 15) 3 49), .ex 5 (.mv .n)]) .ret) .skip)) (.s (.r [.mv 16 0, .mv 17 1, .ex 18 (.call 151 [(.t 16), (.t 17)]), .ex 19 (.call 150 [(.t 18)]), .ex 6 (.asn (.t 19) 3 49)]) (.s (.s (.r [.mv 20 6, .ex 21 (.len false (.t 20)), .ex 22 (.bin .gtr (.t 21) (.i 32))]) (.cnd (.t 22) (.s (.r [.ex 23 .bsl0, .ex 4 (.asn (.t 23) 3 49), .ex 5 (.mv .n)]) .ret) .skip)) (.s (.r [.mv 24 6, .ex 4 (.asn (.t 24) 3 49), .ex 5 (.mv .y)]) .ret)))))
theorem c_spec_LayerJoin_eq : compF Go.Proofs.Tryz.prog [] 64 = some (c_spec_LayerJoin.ac, [(.t 4), (.t 5)], 25) := by kernel_rfl

theorem f_spec_LayerJoin (W0 : World) (a b : List Mark) : Fn Go.Proofs.Tryz.prog W0 64 [eMarks a, eMarks b] (.c (eMarksO (lJoin a b))) [] := by
  refine fnX (c := c_spec_LayerJoin) mixed c_spec_LayerJoin_eq (by simp) rfl fun hg => ?_
  refine dEr ?_
  repeat (refine c0 (f_spec_LayerOk W0 _) rfl ?_; first | refine dEr ?_ | exact dz)
  refine cP (fun h1 => ?_) (fun h1 => ?_)
  · refine dEr ?_
    rw [lJoin, if_neg (by simp [h1])]; rfl
  refine dEr ?_
  repeat (refine c0 (f_spec_LayerOk W0 _) rfl ?_; first | refine dEr ?_ | exact dz)
  refine cP (fun h2 => ?_) (fun h2 => ?_)
  · refine dr ?_
    rw [lJoin, if_neg (by simp [h2])]; rfl
  have ga := LG.of h1
  have gb := LG.of h2
  have hla := (lOk_iff.1 h1).1
  have hlb := (lOk_iff.1 h2).1
  have hjl : (join0 a b).length ≤ 1000000 := by
    have e1 : (join0 a b).length ≤ ((b.filter (joinB a)).foldl lput []).length + (a.map (joinM b)).length := fold_put_len (key := Mark.path) (a.map (joinM b)) ((b.filter (joinB a)).foldl lput [])
    have e2 : ((b.filter (joinB a)).foldl lput []).length ≤ 0 + (b.filter (joinB a)).length := fold_put_len (key := Mark.path) (b.filter (joinB a)) []
    have e3 := List.length_filter_le (joinB a) b
    rw [List.length_map] at e1
    omega
  have hc := f_l3Tidy W0 (join0 a b) hjl
  rw [tidy_fold_all (join0_LG ga gb)] at hc
  have e : lJoin a b = if (joinL a b).length ≤ 32 then some (joinL a b) else none := by rw [lJoin, if_pos (by simp [h1, h2])]
  rw [e]
  unfold joinL at *
  refine dr ?_
  repeat ((first | refine c0 (f_l3Join W0 _ _ (by omega)) rfl ?_ | refine c0 hc rfl ?_); first | refine dr ?_ | exact dz)
  intro hg3 hg4
  refine dr ?_
  refine cP (fun h3 => ?_) (fun h3 => ?_)
  · refine dr ?_
    rw [if_neg (by omega)]; rfl
  · refine dr ?_
    rw [if_pos (by omega)]; rfl


end Go.Proofs.YthblflnfhdnpdaaGreatDoor

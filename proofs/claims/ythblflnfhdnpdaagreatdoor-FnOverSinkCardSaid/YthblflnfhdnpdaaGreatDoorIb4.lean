/- Contracts: two layers in one, what a tree differs by (the program); no condition but one on a package variable that start-up code lays. -/
import Derived.Test.YthblflnfhdnpdaaGreatDoorIb3
namespace Go.Proofs.YthblflnfhdnpdaaGreatDoor
set_option linter.unusedSimpArgs false
set_option linter.unusedVariables false
open Go Go.RowKit

theorem kind_getD {b : List Mark} {p : Str} : ((mfind b p).getD noM).kind = kind b p := by unfold kind; cases mfind b p <;> rfl


def c_impl_joinMarks : XC := (.s (.r [.ex 4 (.asn (.k .nil) 3 49)]) (.s (.r [.ex 5 (.asn (.k .nil) 3 49)]) (.s (.s (.r [.mv 14 1, .ex 15 (.len false (.t 14)), .ex 16 (.mv (.i 0))]) (.blk 0 (.loop (.s (.r [.ex 17 (.bin .lss (.t 16) (.t 15))]) (.s (.cnd (.t 17) .skip (.exit 0)) (.s (.blk 1 (.s (.r [.ex 18 (.ia 3 (.t 14) (.t 16)), .ex 19 (.ld true 3 (.t 18)), .ex 7 (.alloc [(.c (.sc (.string ⟨#[]⟩))), (.c (.sc (.int .i64 0))), (.c (.sc (.string ⟨#[]⟩)))]), .nu (.st 3 (.t 7) (.t 19))]) (.s (.r [.mv 21 0, .ex 22 (.fa 0 (.t 7)), .ex 23 (.ld false 1 (.t 22)), .ex 24 (.call 159 [(.t 21), (.t 23)]), .mv 20 24, .ex 25 (.ext (.t 20) 0), .ex 26 (.ext (.t 20) 1), .ex 8 (.alloc [(.c (.sc (.string ⟨#[]⟩))), (.c (.sc (.int .i64 0))), (.c (.sc (.string ⟨#[]⟩)))]), .nu (.st 3 (.t 8) (.t 25)), .mv 9 26]) (.s (.r [.mv 27 9, .ex 28 (.un .not (.t 27)), .mv 29 28, .gt 30 (.mv (.t 0)) 29, .gt 31 (.fa 0 (.t 7)) 29, .gt 32 (.ld false 1 (.t 31)) 29, .gt 33 (.call 215 [(.t 30), (.t 32)]) 29, .gt 34 (.un .not (.t 33)) 29, .ex 35 (.pick (.t 29) (.t 34) .n)]) (.cnd (.t 35) (.r [.mv 36 5, .ex 37 (.ld true 3 (.t 7)), .ex 38 (.bsl 3 49 [(.t 37)]), .ex 39 (.app false 3 40 49 (.t 36) (.t 38)), .ex 5 (.asn (.t 39) 3 49)]) .skip))))) (.r [.ex 40 (.bin .add (.t 16) (.i 1)), .mv 16 40]))))))) (.s (.s (.r [.mv 41 0, .ex 42 (.len false (.t 41)), .ex 43 (.mv (.i 0))]) (.blk 2 (.loop (.s (.r [.ex 44 (.bin .lss (.t 43) (.t 42))]) (.s (.cnd (.t 44) .skip (.exit 2)) (.s (.blk 3 (.s (.r [.ex 45 (.ia 3 (.t 41) (.t 43)), .ex 46 (.ld true 3 (.t 45)), .ex 11 (.alloc [(.c (.sc (.string ⟨#[]⟩))), (.c (.sc (.int .i64 0))), (.c (.sc (.string ⟨#[]⟩)))]), .nu (.st 3 (.t 11) (.t 46))]) (.s (.r [.mv 48 1, .ex 49 (.fa 0 (.t 11)), .ex 50 (.ld false 1 (.t 49)), .ex 51 (.call 159 [(.t 48), (.t 50)]), .mv 47 51, .ex 52 (.ext (.t 47) 0), .ex 53 (.ext (.t 47) 1), .ex 12 (.alloc [(.c (.sc (.string ⟨#[]⟩))), (.c (.sc (.int .i64 0))), (.c (.sc (.string ⟨#[]⟩)))]), .nu (.st 3 (.t 12) (.t 52)), .mv 13 53]) (.s (.s (.r [.ex 54 (.fa 1 (.t 11)), .ex 55 (.ld false 1 (.t 54)), .ex 56 (.bin .eql (.t 55) (.i 2)), .mv 57 56, .gt 58 (.mv (.t 13)) 57, .ex 59 (.pick (.t 57) (.t 58) .n), .mv 60 59, .gt 61 (.fa 1 (.t 12)) 60, .gt 62 (.ld false 1 (.t 61)) 60, .gt 63 (.bin .neq (.t 62) (.i 2)) 60, .ex 64 (.pick (.t 60) (.t 63) .n)]) (.cnd (.t 64) (.r [.ex 65 (.fa 1 (.t 11)), .nu (.st 1 (.t 65) (.i 4))]) .skip)) (.r [.mv 66 5, .ex 67 (.ld true 3 (.t 11)), .ex 68 (.bsl 3 49 [(.t 67)]), .ex 69 (.app false 3 40 49 (.t 66) (.t 68)), .ex 5 (.asn (.t 69) 3 49)]))))) (.r [.ex 70 (.bin .add (.t 43) (.i 1)), .mv 43 70]))))))) (.s (.r [.mv 71 5, .ex 4 (.asn (.t 71) 3 49)]) .ret)))))
theorem c_impl_joinMarks_eq : compF Go.Proofs.Tryz.prog [] 146 = some (c_impl_joinMarks.ac, [(.t 4)], 72) := by kernel_rfl

theorem f_joinMarks (W0 : World) (hM : HM W0) (a b : List Mark) (ha : lOk a = true) (hb : lOk b = true) : Fn Go.Proofs.Tryz.prog W0 146 [eMarks a, eMarks b] (.c (eMarks (joinX a b))) [] := by
  have ga := LG.of ha
  have gb := LG.of hb
  have la := (lOk_iff.1 ha).1
  have lb := (lOk_iff.1 hb).1
  refine fnX (c := c_impl_joinMarks) mixed c_impl_joinMarks_eq (by simp) rfl fun hg => ?_
  refine dr ?_
  refine lp2 (fun (k : Nat) (out : List Mark) => [(0, .c (eMarks a)), (1, .c (eMarks b)), (5, .own 80 out.length), (14, .c (eMarks b)), (15, I b.length), (16, I k)]) (fun _ out => [(80, .row (out.map eMark) 3 49)]) (fun k out => k ≤ b.length ∧ out = (b.take k).filter (joinB a) ∧ out.length ≤ k) (fun k _ => b.length - k) 0 [] ⟨by simp, rfl, by simp⟩ ?_ ?_
  · refine dr ?_
    trivial
  rintro k out ⟨hk, ho, hle⟩
  refine dr ?_
  refine cP (fun h3 => ?_) (fun h3 => ?_)
  · have hk' : k < b.length := by omega
    have hc := f_markAt W0 a b[k].path
    rw [eMarkO_eq] at hc
    have hh := f_impl_hides W0 hM a b[k].path
    rw [hides2_eq ga (gb.path (List.getElem_mem hk'))] at hh
    refine dEr ?_
    repeat (refine c0 hc rfl ?_; first | refine dEr ?_ | exact dz)
    refine cP (fun h4 => ?_) (fun h4 => ?_)
    · have hk0 := ga.kind0.2 (show mfind a b[k].path = none by simpa using h4)
      refine dEr ?_
      repeat (refine c0 hh rfl ?_; first | refine dEr ?_ | exact dz)
      refine cP (fun h5 => ?_) (fun h5 => ?_)
      · refine dr ?_
        repeat ((first | refine oB (by simp; omega) ?_ | refine oB (by simp) ?_); first | refine dr ?_ | exact dz)
        refine ⟨k + 1, out ++ [b[k]], ⟨by omega, by rw [filt_t hk' (by simp [joinB, hk0, h5]), ho], by simp; omega⟩, by omega, ?_⟩
        refine dr ?_
        repeat (refine oB (by simp <;> rfl) ?_; first | refine dr ?_ | exact dz)
        trivial
      · refine dr ?_
        refine ⟨k + 1, out, ⟨by omega, by rw [filt_f hk' (by simp [joinB, h5]), ho], by omega⟩, by omega, ?_⟩
        refine dr ?_
        trivial
    · have hk0 : kind a b[k].path ≠ 0 := fun e => by rw [ga.kind0.1 e] at h4; cases h4
      refine dr ?_
      refine ⟨k + 1, out, ⟨by omega, by rw [filt_f hk' (by simp [joinB, hk0]), ho], by omega⟩, by omega, ?_⟩
      refine dr ?_
      trivial
  have hkl : k = b.length := by omega
  rw [hkl, List.take_length] at ho
  have hX : joinX a b = out ++ a.map (joinM b) := by rw [joinX, ho]
  have hout : out.length ≤ 32 := by omega
  clear ho hle hk h3 hkl
  rw [hX]
  generalize hoo : out = o0 at *
  refine dr ?_
  refine lp2 (fun (k : Nat) (out : List Mark) => [(1, .c (eMarks b)), (5, .own 80 out.length), (41, .c (eMarks a)), (42, I a.length), (43, I k)]) (fun _ out => [(80, .row (out.map eMark) 3 49)]) (fun k out => k ≤ a.length ∧ out = o0 ++ (a.take k).map (joinM b) ∧ out.length ≤ o0.length + k) (fun k _ => a.length - k) 0 o0 ⟨by simp, by simp, by simp⟩ ?_ ?_
  · refine dr ?_
    trivial
  clear hoo
  rintro k out ⟨hk, ho, hle⟩
  refine dr ?_
  refine cP (fun h3 => ?_) (fun h3 => ?_)
  · have hk' : k < a.length := by omega
    have hn : o0 ++ (a.take (k + 1)).map (joinM b) = out ++ [joinM b a[k]] := by rw [List.take_succ_eq_append_getElem hk', List.map_append, ← List.append_assoc, ← ho]; rfl
    have hc := f_markAt W0 b a[k].path
    rw [eMarkO_eq] at hc
    have fin : ∀ x, x = joinM b a[k] → out ++ [x] = o0 ++ (a.take (k + 1)).map (joinM b) := fun x e => by rw [hn, e]
    refine dEr ?_
    repeat (refine c0 hc rfl ?_; first | refine dEr ?_ | exact dz)
    refine cP (fun h4 => ?_) (fun h4 => ?_)
    · refine dr ?_
      refine cP (fun h5 => ?_) (fun h5 => ?_)
      · have hk0 : kind b a[k].path ≠ 0 := fun e => by rw [gb.kind0.1 e] at h5; cases h5
        refine dr ?_
        refine cP (fun h6 => ?_) (fun h6 => ?_)
        · refine dr ?_
          repeat ((first | refine oB (by simp; omega) ?_ | refine oB (by simp) ?_); first | refine dr ?_ | exact dz)
          rw [kind_getD] at h6
          refine ⟨k + 1, out ++ [⟨a[k].path, 4, a[k].data⟩], ⟨by omega, fin _ (by unfold joinM bothK; rw [if_pos ⟨h4, hk0, h6⟩]), by simp; omega⟩, by omega, ?_⟩
          refine dr ?_
          repeat (refine oB (by simp <;> rfl) ?_; first | refine dr ?_ | exact dz)
          trivial
        · refine dr ?_
          repeat ((first | refine oB (by simp; omega) ?_ | refine oB (by simp) ?_); first | refine dr ?_ | exact dz)
          rw [kind_getD] at h6
          refine ⟨k + 1, out ++ [a[k]], ⟨by omega, fin _ (by unfold joinM bothK; rw [if_neg (fun h => h.2.2 h6)]), by simp; omega⟩, by omega, ?_⟩
          refine dr ?_
          repeat (refine oB (by simp <;> rfl) ?_; first | refine dr ?_ | exact dz)
          trivial
      · have hk0 := gb.kind0.2 (show mfind b a[k].path = none by simpa using h5)
        refine dr ?_
        repeat ((first | refine oB (by simp; omega) ?_ | refine oB (by simp) ?_); first | refine dr ?_ | exact dz)
        refine ⟨k + 1, out ++ [a[k]], ⟨by omega, fin _ (by unfold joinM bothK; rw [if_neg (fun h => h.2.1 hk0)]), by simp; omega⟩, by omega, ?_⟩
        refine dr ?_
        repeat (refine oB (by simp <;> rfl) ?_; first | refine dr ?_ | exact dz)
        trivial
    · refine dr ?_
      repeat ((first | refine oB (by simp; omega) ?_ | refine oB (by simp) ?_); first | refine dr ?_ | exact dz)
      refine ⟨k + 1, out ++ [a[k]], ⟨by omega, fin _ (by unfold joinM bothK; rw [if_neg (fun h => h4 h.1)]), by simp; omega⟩, by omega, ?_⟩
      refine dr ?_
      repeat (refine oB (by simp <;> rfl) ?_; first | refine dr ?_ | exact dz)
      trivial
  have hkl : k = a.length := by omega
  rw [hkl, List.take_length] at ho
  refine dr ?_
  repeat (refine oB (by simp) ?_; first | refine dr ?_ | exact dz)
  rw [← ho] <;> rfl


def c_impl_LayerJoin : XC := (.s (.r [.ex 4 (.asn (.k .nil) 3 49), .ex 5 (.mv .n)]) (.s (.s (.r [.mv 10 0, .ex 11 (.call 145 [(.t 10)]), .ex 12 (.un .not (.t 11)), .mv 13 12, .gf 14 (.mv (.t 1)) 13, .gf 15 (.call 145 [(.t 14)]) 13, .gf 16 (.un .not (.t 15)) 13, .ex 17 (.pick (.t 13) .y (.t 16))]) (.cnd (.t 17) (.s (.r [.ex 4 (.asn (.k .nil) 3 49), .ex 5 (.mv .n)]) .ret) .skip)) (.s (.r [.mv 18 0, .mv 19 1, .ex 20 (.call 146 [(.t 18), (.t 19)]), .ex 6 (.asn (.t 20) 3 49)]) (.s (.r [.ex 7 (.asn (.k .nil) 3 49)]) (.s (.s (.r [.mv 21 6, .ex 22 (.len false (.t 21)), .ex 23 (.mv (.i 0))]) (.blk 0 (.loop (.s (.r [.ex 24 (.bin .lss (.t 23) (.t 22))]) (.s (.cnd (.t 24) .skip (.exit 0)) (.s (.blk 1 (.s (.r [.ex 25 (.ia 3 (.t 21) (.t 23)), .ex 26 (.ld true 3 (.t 25)), .ex 9 (.alloc [(.c (.sc (.string ⟨#[]⟩))), (.c (.sc (.int .i64 0))), (.c (.sc (.string ⟨#[]⟩)))]), .nu (.st 3 (.t 9) (.t 26))]) (.s (.s (.r [.mv 27 6, .ex 28 (.fa 0 (.t 9)), .ex 29 (.ld false 1 (.t 28)), .ex 30 (.call 147 [(.t 27), (.t 29)])]) (.cnd (.t 30) (.s (.s (.r [.ex 31 (.fa 1 (.t 9)), .ex 32 (.ld false 1 (.t 31)), .ex 33 (.bin .eql (.t 32) (.i 3))]) (.cnd (.t 33) (.exit 1) .skip)) (.s (.r [.ex 34 (.fa 1 (.t 9)), .ex 35 (.ld false 1 (.t 34)), .ex 36 (.bin .eql (.t 35) (.i 4))]) (.cnd (.t 36) (.r [.ex 37 (.fa 1 (.t 9)), .nu (.st 1 (.t 37) (.i 2))]) .skip))) .skip)) (.r [.mv 38 7, .ex 39 (.ld true 3 (.t 9)), .ex 40 (.bsl 3 49 [(.t 39)]), .ex 41 (.app false 3 40 49 (.t 38) (.t 40)), .ex 7 (.asn (.t 41) 3 49)])))) (.r [.ex 42 (.bin .add (.t 23) (.i 1)), .mv 23 42]))))))) (.s (.s (.r [.mv 43 7, .ex 44 (.len false (.t 43)), .ex 45 (.bin .gtr (.t 44) (.i 32))]) (.cnd (.t 45) (.s (.r [.ex 4 (.asn (.k .nil) 3 49), .ex 5 (.mv .n)]) .ret) .skip)) (.s (.r [.mv 46 7, .ex 47 (.opn 148 [(.t 46)])]) (.s (.r [.mv 48 7, .ex 4 (.asn (.t 48) 3 49), .ex 5 (.mv .y)]) .ret))))))))
theorem c_impl_LayerJoin_eq : compF Go.Proofs.Tryz.prog [148] 62 = some (c_impl_LayerJoin.ac, [(.t 4), (.t 5)], 49) := by kernel_rfl

theorem f_impl_LayerJoin (W0 : World) (hM : HM W0) (a b : List Mark) : Fn Go.Proofs.Tryz.prog W0 62 [eMarks a, eMarks b] (.c (eMarksO (lJoin a b))) [] := by
  refine fnX (c := c_impl_LayerJoin) mixed c_impl_LayerJoin_eq (by simp) rfl fun hg => ?_
  refine dEr ?_
  repeat (refine c0 (f_impl_LayerOk W0 hM _) rfl ?_; first | refine dEr ?_ | exact dz)
  refine cP (fun h1 => ?_) (fun h1 => ?_)
  · refine dr ?_
    rw [lJoin, if_neg (by simp [h1])] <;> rfl
  refine dEr ?_
  repeat (refine c0 (f_impl_LayerOk W0 hM _) rfl ?_; first | refine dEr ?_ | exact dz)
  refine cP (fun h2 => ?_) (fun h2 => ?_)
  · refine dr ?_
    rw [lJoin, if_neg (by simp [h2])] <;> rfl
  have ga := LG.of h1
  have gb := LG.of h2
  have la := (lOk_iff.1 h1).1
  have lb := (lOk_iff.1 h2).1
  have e : lJoin a b = if (joinY a b).length ≤ 32 then some (joinL a b) else none := by rw [lJoin, if_pos (by simp [h1, h2]), joinY_len ga gb]
  have hxl : (joinX a b).length ≤ 64 := by
    have := List.length_filter_le (joinB a) b
    rw [joinX, List.length_append, List.length_map]; omega
  have hxp : ∀ m ∈ joinX a b, pOk m.path = true := fun m hm => (join0_LG ga gb).path ((joinX_mem ga gb m).1 hm)
  have hY : joinY a b = (joinX a b).filterMap (tidyP (joinX a b)) := rfl
  rw [e]
  refine dEr ?_
  repeat (refine c0 (f_joinMarks W0 hM a b h1 h2) rfl ?_; first | refine dEr ?_ | exact dz)
  rw [hY]
  generalize hXX : joinX a b = X at *
  refine lp2 (fun (k : Nat) (out : List Mark) => [(6, .c (eMarks X)), (7, .own 112 out.length), (21, .c (eMarks X)), (22, I X.length), (23, I k)]) (fun _ out => [(112, .row (out.map eMark) 3 49)]) (fun k out => k ≤ X.length ∧ out = (X.take k).filterMap (tidyP X) ∧ out.length ≤ k) (fun k _ => X.length - k) 0 [] ⟨by simp, rfl, by simp⟩ ?_ ?_
  · refine dr ?_
    trivial
  rintro k out ⟨hk, ho, hle⟩
  refine dr ?_
  refine cP (fun h3 => ?_) (fun h3 => ?_)
  · have hk' : k < X.length := by omega
    have hn : (X.take (k + 1)).filterMap (tidyP X) = out ++ (tidyP X X[k]).toList := by rw [fm_next hk', ← ho]
    have hb := f_belowBare W0 hM X X[k].path
    rw [bare2_eq' hxp (hxp _ (List.getElem_mem hk'))] at hb
    refine dEr ?_
    repeat (refine c0 hb rfl ?_; first | refine dEr ?_ | exact dz)
    refine cP (fun h4 => ?_) (fun h4 => ?_)
    · refine dr ?_
      refine cP (fun h5 => ?_) (fun h5 => ?_)
      · have e : tidyP X X[k] = none := by unfold tidyP; rw [if_pos h4, if_pos h5]
        rw [e] at hn
        refine dr ?_
        refine ⟨k + 1, out, ⟨by omega, by rw [hn]; simp, by omega⟩, by omega, ?_⟩
        refine dr ?_
        trivial
      · refine dr ?_
        refine cP (fun h6 => ?_) (fun h6 => ?_)
        · have e : tidyP X X[k] = some ⟨X[k].path, 2, X[k].data⟩ := by unfold tidyP; rw [if_pos h4, if_neg h5, if_pos h6]
          rw [e] at hn
          refine dr ?_
          repeat ((first | refine oB (by simp; omega) ?_ | refine oB (by simp) ?_); first | refine dr ?_ | exact dz)
          refine ⟨k + 1, out ++ [⟨X[k].path, 2, X[k].data⟩], ⟨by omega, by rw [hn]; rfl, by simp; omega⟩, by omega, ?_⟩
          refine dr ?_
          repeat (refine oB (by simp <;> rfl) ?_; first | refine dr ?_ | exact dz)
          trivial
        · have e : tidyP X X[k] = some X[k] := by unfold tidyP; rw [if_pos h4, if_neg h5, if_neg h6]
          rw [e] at hn
          refine dr ?_
          repeat ((first | refine oB (by simp; omega) ?_ | refine oB (by simp) ?_); first | refine dr ?_ | exact dz)
          refine ⟨k + 1, out ++ [X[k]], ⟨by omega, by rw [hn]; rfl, by simp; omega⟩, by omega, ?_⟩
          refine dr ?_
          repeat (refine oB (by simp <;> rfl) ?_; first | refine dr ?_ | exact dz)
          trivial
    · have e : tidyP X X[k] = some X[k] := by unfold tidyP; rw [if_neg (by simp [h4])]
      rw [e] at hn
      refine dr ?_
      repeat ((first | refine oB (by simp; omega) ?_ | refine oB (by simp) ?_); first | refine dr ?_ | exact dz)
      refine ⟨k + 1, out ++ [X[k]], ⟨by omega, by rw [hn]; rfl, by simp; omega⟩, by omega, ?_⟩
      refine dr ?_
      repeat (refine oB (by simp <;> rfl) ?_; first | refine dr ?_ | exact dz)
      trivial
  have hkl : k = X.length := by omega
  rw [hkl, List.take_length] at ho
  rw [← ho]
  have hYo : joinY a b = out := by rw [hY, ho]
  refine dr ?_
  refine cP (fun h5 => ?_) (fun h5 => ?_)
  · refine dr ?_
    rw [if_neg (by omega)] <;> rfl
  · refine dr ?_
    refine oW ((f_sortMarks_1 W0 out (by omega)).swp 1 112) rfl ⟨rfl, trivial⟩ rfl rfl sorts_ex fun S hS => ⟨rfl, ?_⟩
    refine dEr ?_
    repeat (refine oB (by simp [hS.len]) ?_; first | refine dEr ?_ | exact dz)
    rw [← hYo] at hS
    rw [if_pos (by omega), joinY_sorts ga gb hS] <;> rfl


def c_impl_TreeTurned : XC := (.s (.r [.ex 4 (.asn (.k .nil) 1 9)]) (.s (.s (.r [.mv 8 0, .ex 9 (.call 98 [(.t 8)]), .ex 10 (.un .not (.t 9)), .mv 11 10, .gf 12 (.mv (.t 1)) 11, .gf 13 (.call 98 [(.t 12)]) 11, .gf 14 (.un .not (.t 13)) 11, .ex 15 (.pick (.t 11) .y (.t 14))]) (.cnd (.t 15) (.s (.r [.ex 4 (.asn (.k .nil) 1 9)]) .ret) .skip)) (.s (.r [.ex 5 (.asn (.k .nil) 1 9)]) (.s (.r [.ex 6 (.mv (.i 0)), .ex 7 (.mv (.i 0))]) (.s (.blk 0 (.loop (.s (.s (.r [.mv 16 6, .mv 17 0, .ex 18 (.len false (.t 17)), .ex 19 (.bin .lss (.t 16) (.t 18)), .mv 20 19, .gf 21 (.mv (.t 7)) 20, .gf 22 (.mv (.t 1)) 20, .gf 23 (.len false (.t 22)) 20, .gf 24 (.bin .lss (.t 21) (.t 23)) 20, .ex 25 (.pick (.t 20) .y (.t 24))]) (.cnd (.t 25) .skip (.exit 0))) (.blk 1 (.blk 2 (.s (.d [.mv 48 7, .mv 49 1, .ex 50 (.len false (.t 49)), .ex 51 (.bin .eql (.t 48) (.t 50)), .mv 52 51, .gf 53 (.mv (.t 6)) 52, .gf 54 (.mv (.t 0)) 52, .gf 55 (.len false (.t 54)) 52, .gf 56 (.bin .lss (.t 53) (.t 55)) 52, .gf 57 (.mv (.t 56)) 52, .gt 58 (.mv (.t 0)) 57, .gt 59 (.mv (.t 6)) 57, .gt 60 (.ia 3 (.t 58) (.t 59)) 57, .gt 61 (.fa 0 (.t 60)) 57, .gt 62 (.ld false 1 (.t 61)) 57, .gt 63 (.mv (.t 1)) 57, .gt 64 (.mv (.t 7)) 57, .gt 65 (.ia 3 (.t 63) (.t 64)) 57, .gt 66 (.fa 0 (.t 65)) 57, .gt 67 (.ld false 1 (.t 66)) 57, .gt 68 (.bin .lss (.t 62) (.t 67)) 57, .gf 69 (.pick (.t 57) (.t 68) .n) 52, .ex 70 (.pick (.t 52) .y (.t 69)), .mv 47 70]) (.cnd (.t 47) (.s (.r [.mv 71 5, .mv 72 0, .mv 73 6, .ex 74 (.ia 3 (.t 72) (.t 73)), .ex 75 (.fa 0 (.t 74)), .ex 76 (.ld false 1 (.t 75)), .ex 77 (.bsl 1 9 [(.t 76)]), .ex 78 (.app false 1 16 9 (.t 71) (.t 77)), .ex 5 (.asn (.t 78) 1 9)]) (.r [.mv 79 6, .ex 80 (.bin .add (.t 79) (.i 1)), .mv 6 80])) (.s (.d [.mv 82 6, .mv 83 0, .ex 84 (.len false (.t 83)), .ex 85 (.bin .eql (.t 82) (.t 84)), .mv 86 85, .gf 87 (.mv (.t 1)) 86, .gf 88 (.mv (.t 7)) 86, .gf 89 (.ia 3 (.t 87) (.t 88)) 86, .gf 90 (.fa 0 (.t 89)) 86, .gf 91 (.ld false 1 (.t 90)) 86, .gf 92 (.mv (.t 0)) 86, .gf 93 (.mv (.t 6)) 86, .gf 94 (.ia 3 (.t 92) (.t 93)) 86, .gf 95 (.fa 0 (.t 94)) 86, .gf 96 (.ld false 1 (.t 95)) 86, .gf 97 (.bin .lss (.t 91) (.t 96)) 86, .ex 98 (.pick (.t 86) .y (.t 97)), .mv 81 98]) (.cnd (.t 81) (.s (.r [.mv 99 5, .mv 100 1, .mv 101 7, .ex 102 (.ia 3 (.t 100) (.t 101)), .ex 103 (.fa 0 (.t 102)), .ex 104 (.ld false 1 (.t 103)), .ex 105 (.bsl 1 9 [(.t 104)]), .ex 106 (.app false 1 16 9 (.t 99) (.t 105)), .ex 5 (.asn (.t 106) 1 9)]) (.r [.mv 107 7, .ex 108 (.bin .add (.t 107) (.i 1)), .mv 7 108])) (.s (.s (.d [.mv 26 0, .mv 27 6, .ex 28 (.ia 3 (.t 26) (.t 27)), .ex 29 (.ld true 3 (.t 28)), .mv 30 1, .mv 31 7, .ex 32 (.ia 3 (.t 30) (.t 31)), .ex 33 (.ld true 3 (.t 32)), .ex 34 (.beq true [.s, .b, .s] (.t 29) (.t 33))]) (.cnd (.t 34) (.r [.mv 35 5, .mv 36 0, .mv 37 6, .ex 38 (.ia 3 (.t 36) (.t 37)), .ex 39 (.fa 0 (.t 38)), .ex 40 (.ld false 1 (.t 39)), .ex 41 (.bsl 1 9 [(.t 40)]), .ex 42 (.app false 1 16 9 (.t 35) (.t 41)), .ex 5 (.asn (.t 42) 1 9)]) .skip)) (.s (.r [.mv 43 6, .ex 44 (.bin .add (.t 43) (.i 1)), .mv 6 44]) (.r [.mv 45 7, .ex 46 (.bin .add (.t 45) (.i 1)), .mv 7 46])))))))))))) (.s (.r [.mv 109 5, .ex 4 (.asn (.t 109) 1 9)]) .ret))))))
theorem c_impl_TreeTurned_eq : compF Go.Proofs.Tryz.prog [] 156 = some (c_impl_TreeTurned.ac, [(.t 4)], 110) := by kernel_rfl

def turnedO (a b : List Ent) : List Str := if (tOk a && tOk b) = true then turned a b else []
theorem merge_r {x : Ent} {a : List Ent} : mergeT (x :: a) [] = x.path :: mergeT a [] := by rw [mergeT]
theorem merge_l {x : Ent} {a : List Ent} : mergeT [] (x :: a) = x.path :: mergeT [] a := by rw [mergeT]
theorem merge_c {x y : Ent} {a b : List Ent} : mergeT (x :: a) (y :: b) = if ltS x.path y.path = true then x.path :: mergeT a (y :: b) else if ltS y.path x.path = true then y.path :: mergeT (x :: a) b else if x = y then mergeT a b else x.path :: mergeT a b := by rw [mergeT]
theorem f_TreeTurned (W0 : World) (hM : HM W0) (a b : List Ent) : Fn Go.Proofs.Tryz.prog W0 156 [eEnts a, eEnts b] (.c (eStrs (turnedO a b))) [] := by
  refine fnX (c := c_impl_TreeTurned) mixed c_impl_TreeTurned_eq (by simp) rfl fun hg => ?_
  refine dEr ?_
  repeat (refine c0 (f_impl_TreeOk W0 hM _) rfl ?_; first | refine dEr ?_ | exact dz)
  refine cP (fun h1 => ?_) (fun h1 => ?_)
  · refine dr ?_
    repeat (refine oB (by simp) ?_; first | refine dr ?_ | exact dz)
    rw [turnedO, if_neg (by simp [h1])] <;> rfl
  refine dEr ?_
  repeat (refine c0 (f_impl_TreeOk W0 hM _) rfl ?_; first | refine dEr ?_ | exact dz)
  refine cP (fun h2 => ?_) (fun h2 => ?_)
  · refine dr ?_
    repeat (refine oB (by simp) ?_; first | refine dr ?_ | exact dz)
    rw [turnedO, if_neg (by simp [h2])] <;> rfl
  have ga := TG.of h1
  have gb := TG.of h2
  have la := ga.len
  have lb := gb.len
  rw [turnedO, if_pos (by simp [h1, h2]), ← merge_turned ga gb]
  refine dr ?_
  refine lp3 (fun (i j : Nat) (out : List Str) => [(0, .c (eEnts a)), (1, .c (eEnts b)), (5, .own 80 out.length), (6, I i), (7, I j)]) (fun _ _ out => [(80, .row (out.map CS) 1 9)])
    (fun i j out => i ≤ a.length ∧ j ≤ b.length ∧ out ++ mergeT (a.drop i) (b.drop j) = mergeT a b ∧ out.length ≤ i + j) (fun i j _ => a.length + b.length - i - j) 0 0 [] ⟨by simp, by simp, by simp, by simp⟩ ?_ ?_
  · refine dr ?_
    trivial
  rintro i j out ⟨hi, hj, ho, hle⟩
  have stepA : ∀ (h : i < a.length), j = b.length ∨ (∃ h' : j < b.length, ltS a[i].path b[j].path = true) → (out ++ [a[i].path]) ++ mergeT (a.drop (i + 1)) (b.drop j) = mergeT a b := fun h hc => by
    rw [← ho, List.drop_eq_getElem_cons h]
    rcases hc with hc | ⟨h', hc⟩
    · rw [List.drop_of_length_le (l := b) (by omega), merge_r]; simp
    · rw [List.drop_eq_getElem_cons h', merge_c, if_pos hc]; simp
  have stepB : ∀ (h : j < b.length), i = a.length ∨ (∃ h' : i < a.length, ltS a[i].path b[j].path = false ∧ ltS b[j].path a[i].path = true) → (out ++ [b[j].path]) ++ mergeT (a.drop i) (b.drop (j + 1)) = mergeT a b := fun h hc => by
    rw [← ho, List.drop_eq_getElem_cons (l := b) h]
    rcases hc with hc | ⟨h', hc, hc2⟩
    · rw [List.drop_of_length_le (l := a) (by omega), merge_l]; simp
    · rw [List.drop_eq_getElem_cons h', merge_c, if_neg (by rw [hc]; simp), if_pos hc2]; simp
  refine dr ?_
  refine cP (fun hA => ?_) (fun hA => ?_)
  · have hA' : i < a.length := by omega
    refine dr ?_
    refine cP (fun hB => ?_) (fun hB => ?_)
    · refine dr ?_
      repeat ((first | refine oB (by simp; omega) ?_ | refine oB (by simp) ?_); first | refine dr ?_ | exact dz)
      refine ⟨i + 1, j, out ++ [a[i].path], ⟨by omega, by omega, stepA hA' (.inl (by omega)), by simp; omega⟩, by omega, ?_⟩
      refine dr ?_
      repeat (refine oB (by simp <;> rfl) ?_; first | refine dr ?_ | exact dz)
      trivial
    · have hB' : j < b.length := by omega
      refine dr ?_
      refine cP (fun hA2 => ?_) (fun hA2 => ?_)
      rotate_left
      · omega
      refine dr ?_
      refine cP (fun hC => ?_) (fun hC => ?_)
      · refine dr ?_
        repeat ((first | refine oB (by simp; omega) ?_ | refine oB (by simp) ?_); first | refine dr ?_ | exact dz)
        refine ⟨i + 1, j, out ++ [a[i].path], ⟨by omega, by omega, stepA hA' (.inr ⟨hB', hC⟩), by simp; omega⟩, by omega, ?_⟩
        refine dr ?_
        repeat (refine oB (by simp <;> rfl) ?_; first | refine dr ?_ | exact dz)
        trivial
      refine dr ?_
      refine cP (fun hD => ?_) (fun hD => ?_)
      · omega
      refine dr ?_
      refine cP (fun hE => ?_) (fun hE => ?_)
      · refine dr ?_
        repeat ((first | refine oB (by simp; omega) ?_ | refine oB (by simp) ?_); first | refine dr ?_ | exact dz)
        refine ⟨i, j + 1, out ++ [b[j].path], ⟨by omega, by omega, stepB hB' (.inr ⟨hA', hC, hE⟩), by simp; omega⟩, by omega, ?_⟩
        refine dr ?_
        repeat (refine oB (by simp <;> rfl) ?_; first | refine dr ?_ | exact dz)
        trivial
      have hm : mergeT (a.drop i) (b.drop j) = if a[i] = b[j] then mergeT (a.drop (i + 1)) (b.drop (j + 1)) else a[i].path :: mergeT (a.drop (i + 1)) (b.drop (j + 1)) := by
        rw [List.drop_eq_getElem_cons hA', List.drop_eq_getElem_cons hB', merge_c, if_neg (by rw [hC]; simp), if_neg (by rw [hE]; simp)]
      refine dr ?_
      refine cP (fun hF => ?_) (fun hF => ?_)
      · have hne : a[i] ≠ b[j] := by have := bqEnt a[i] b[j]; rw [hF] at this; simpa using this
        rw [if_neg hne] at hm
        refine dr ?_
        repeat ((first | refine oB (by simp; omega) ?_ | refine oB (by simp) ?_); first | refine dr ?_ | exact dz)
        refine ⟨i + 1, j + 1, out ++ [a[i].path], ⟨by omega, by omega, by rw [← ho, hm]; simp, by simp; omega⟩, by omega, ?_⟩
        refine dr ?_
        repeat (refine oB (by simp <;> rfl) ?_; first | refine dr ?_ | exact dz)
        trivial
      · have heq : a[i] = b[j] := by have := bqEnt a[i] b[j]; rw [hF] at this; simpa using this
        rw [if_pos heq] at hm
        refine dr ?_
        refine ⟨i + 1, j + 1, out, ⟨by omega, by omega, by rw [← ho, hm], by omega⟩, by omega, ?_⟩
        refine dr ?_
        trivial
  · have hA' : i = a.length := by omega
    refine dr ?_
    refine cP (fun hB => ?_) (fun hB => ?_)
    · have hB' : j < b.length := by omega
      refine dr ?_
      refine cP (fun hB2 => ?_) (fun hB2 => ?_)
      · omega
      refine dr ?_
      refine cP (fun hA2 => ?_) (fun hA2 => ?_)
      · omega
      refine dr ?_
      refine cP (fun hD => ?_) (fun hD => ?_)
      rotate_left
      · omega
      refine dr ?_
      repeat ((first | refine oB (by simp; omega) ?_ | refine oB (by simp) ?_); first | refine dr ?_ | exact dz)
      refine ⟨i, j + 1, out ++ [b[j].path], ⟨by omega, by omega, stepB hB' (.inl hA'), by simp; omega⟩, by omega, ?_⟩
      refine dr ?_
      repeat (refine oB (by simp <;> rfl) ?_; first | refine dr ?_ | exact dz)
      trivial
    · have hj' : j = b.length := by omega
      rw [hA', hj', List.drop_length, List.drop_length, mergeT, List.append_nil] at ho
      refine dr ?_
      repeat (refine oB (by simp) ?_; first | refine dr ?_ | exact dz)
      rw [← ho] <;> rfl


def c_impl_LayerDiff : XC := (.s (.r [.ex 4 (.asn (.k .nil) 3 49)]) (.s (.r [.ex 5 (.asn (.k .nil) 3 49)]) (.s (.s (.r [.mv 14 0, .mv 15 1, .ex 16 (.call 156 [(.t 14), (.t 15)]), .ex 17 (.len false (.t 16)), .ex 18 (.mv (.i 0))]) (.blk 0 (.loop (.s (.r [.ex 19 (.bin .lss (.t 18) (.t 17))]) (.s (.cnd (.t 19) .skip (.exit 0)) (.s (.blk 1 (.s (.r [.ex 20 (.ia 1 (.t 16) (.t 18)), .ex 21 (.ld false 1 (.t 20)), .mv 7 21]) (.s (.r [.mv 23 1, .mv 24 7, .ex 25 (.call 99 [(.t 23), (.t 24)]), .mv 22 25, .ex 26 (.ext (.t 22) 0), .ex 27 (.ext (.t 22) 1), .ex 8 (.alloc [(.c (.sc (.string ⟨#[]⟩))), (.c (.sc (.bool false))), (.c (.sc (.string ⟨#[]⟩)))]), .nu (.st 3 (.t 8) (.t 26)), .mv 9 27]) (.blk 2 (.s (.r [.mv 29 9, .mv 30 29, .gt 31 (.fa 1 (.t 8)) 30, .gt 32 (.ld false 1 (.t 31)) 30, .ex 33 (.pick (.t 30) (.t 32) .n), .mv 28 33]) (.cnd (.t 28) (.r [.mv 34 5, .mv 35 7, .ex 36 (.build [(.c (.sc (.string ⟨#[]⟩))), (.c (.sc (.int .i64 0))), (.c (.sc (.string ⟨#[]⟩)))] [(0, (1, (.t 35))), (1, (1, (.i 2)))]), .ex 37 (.bsl 3 49 [(.t 36)]), .ex 38 (.app false 3 40 49 (.t 34) (.t 37)), .ex 5 (.asn (.t 38) 3 49)]) (.s (.r [.mv 40 9, .mv 39 40]) (.cnd (.t 39) (.r [.mv 41 5, .mv 42 7, .ex 43 (.fa 2 (.t 8)), .ex 44 (.ld false 1 (.t 43)), .ex 45 (.build [(.c (.sc (.string ⟨#[]⟩))), (.c (.sc (.int .i64 0))), (.c (.sc (.string ⟨#[]⟩)))] [(0, (1, (.t 42))), (1, (1, (.i 1))), (2, (1, (.t 44)))]), .ex 46 (.bsl 3 49 [(.t 45)]), .ex 47 (.app false 3 40 49 (.t 41) (.t 46)), .ex 5 (.asn (.t 47) 3 49)]) (.s (.r [.mv 49 1, .mv 50 7, .ex 51 (.call 157 [(.t 49), (.t 50)]), .ex 52 (.bin .eql (.t 51) (.i 0)), .mv 48 52]) (.cnd (.t 48) (.r [.mv 53 5, .mv 54 7, .ex 55 (.build [(.c (.sc (.string ⟨#[]⟩))), (.c (.sc (.int .i64 0))), (.c (.sc (.string ⟨#[]⟩)))] [(0, (1, (.t 54))), (1, (1, (.i 3)))]), .ex 56 (.bsl 3 49 [(.t 55)]), .ex 57 (.app false 3 40 49 (.t 53) (.t 56)), .ex 5 (.asn (.t 57) 3 49)]) .skip)))))))))) (.r [.ex 58 (.bin .add (.t 18) (.i 1)), .mv 18 58]))))))) (.s (.s (.r [.mv 59 5, .ex 60 (.len false (.t 59)), .ex 61 (.mv (.i 0))]) (.blk 3 (.loop (.s (.r [.ex 62 (.bin .lss (.t 61) (.t 60))]) (.s (.cnd (.t 62) .skip (.exit 3)) (.s (.blk 4 (.s (.r [.mv 63 61, .mv 10 63]) (.s (.r [.mv 64 5, .mv 65 10, .ex 66 (.ia 3 (.t 64) (.t 65)), .ex 67 (.fa 0 (.t 66)), .ex 68 (.ld false 1 (.t 67)), .ex 69 (.call 158 [(.t 68)]), .mv 11 69]) (.blk 5 (.loop (.s (.s (.r [.mv 70 11, .ex 71 (.bin .neq (.t 70) (.s [47]))]) (.cnd (.t 71) .skip (.exit 5))) (.s (.blk 6 (.s (.r [.mv 75 5, .mv 76 11, .ex 77 (.call 159 [(.t 75), (.t 76)]), .mv 74 77, .ex 78 (.ext (.t 74) 0), .ex 79 (.ext (.t 74) 1), .ex 12 (.alloc [(.c (.sc (.string ⟨#[]⟩))), (.c (.sc (.int .i64 0))), (.c (.sc (.string ⟨#[]⟩)))]), .nu (.st 3 (.t 12) (.t 78)), .mv 13 79]) (.s (.r [.mv 80 13, .ex 81 (.un .not (.t 80))]) (.cnd (.t 81) (.r [.mv 82 5, .mv 83 11, .ex 84 (.build [(.c (.sc (.string ⟨#[]⟩))), (.c (.sc (.int .i64 0))), (.c (.sc (.string ⟨#[]⟩)))] [(0, (1, (.t 83))), (1, (1, (.i 2)))]), .ex 85 (.bsl 3 49 [(.t 84)]), .ex 86 (.app false 3 40 49 (.t 82) (.t 85)), .ex 5 (.asn (.t 86) 3 49)]) .skip)))) (.r [.mv 72 11, .ex 73 (.call 158 [(.t 72)]), .mv 11 73])))))))) (.r [.ex 87 (.bin .add (.t 61) (.i 1)), .mv 61 87]))))))) (.s (.r [.mv 88 5, .ex 89 (.opn 148 [(.t 88)])]) (.s (.r [.mv 90 5, .ex 4 (.asn (.t 90) 3 49)]) .ret))))))
theorem c_impl_LayerDiff_eq : compF Go.Proofs.Tryz.prog [148] 69 = some (c_impl_LayerDiff.ac, [(.t 4)], 91) := by kernel_rfl

def diffO (a b : List Ent) : List Mark := if (tOk a && tOk b) = true then diff a b else []
theorem pre_addUp {l l0 : List Mark} {u : Str} (h : ∃ s, l = l0 ++ s) : ∃ s, addUp l u = l0 ++ s := by
  obtain ⟨s, rfl⟩ := h
  unfold addUp
  split
  · exact ⟨s, rfl⟩
  · exact ⟨s ++ [⟨u, 2, []⟩], by simp⟩
theorem addUp_len {l : List Mark} {u : Str} : (addUp l u).length ≤ l.length + 1 := by
  unfold addUp; split <;> simp
theorem upsN_nil {m : Nat} {q : Str} (h : pUp q = [47]) : upsN m q = [] := by
  cases m with
  | zero => rfl
  | succ m => unfold upsN; rw [if_pos h]
theorem fold_addUp_len : ∀ {us : List Str} {l : List Mark}, (us.foldl addUp l).length ≤ l.length + us.length
  | [], l => by simp
  | u :: us, l => by
    have h := fold_addUp_len (us := us) (l := addUp l u)
    have h2 := addUp_len (l := l) (u := u)
    simp only [List.foldl_cons, List.length_cons]; omega
theorem addUps_len {l : List Mark} {m : Mark} : (addUps l m).length ≤ l.length + 3 := by
  have h := fold_addUp_len (us := upsN 3 m.path) (l := l)
  have h2 := upsN_len 3 m.path
  unfold addUps; omega
theorem f_impl_LayerDiff (W0 : World) (hM : HM W0) (a b : List Ent) : Fn Go.Proofs.Tryz.prog W0 69 [eEnts a, eEnts b] (.c (eMarks (diffO a b))) [] := by
  refine fnX (c := c_impl_LayerDiff) mixed c_impl_LayerDiff_eq (by simp) rfl fun hg => ?_
  have hT : (∀ p ∈ turnedO a b, pOk p = true) ∧ (turnedO a b).length ≤ 32 ∧ (turnedO a b ≠ [] → TG b) := by
    unfold turnedO
    split
    · rename_i h
      simp only [Bool.and_eq_true] at h
      have h1 := (tOk_at h.1).1
      have h2 := (tOk_at h.2).1
      have h3 := turned_len (a := a) (b := b)
      exact ⟨fun p hp => turned_ok h.1 h.2 hp, by omega, fun _ => TG.of h.2⟩
    · exact ⟨fun p hp => (by cases hp), by simp, fun h => absurd rfl h⟩
  obtain ⟨hT1, hT2, hT3⟩ := hT
  have hfin : ∀ S, Sorts Mark.path (((turnedO a b).filterMap (difM b)).foldl addUps ((turnedO a b).filterMap (difM b))) S → S = diffO a b := by
    intro S hS
    unfold turnedO at hS
    unfold diffO
    split at hS
    · rename_i h
      rw [if_pos h]
      simp only [Bool.and_eq_true] at h
      exact difX_sorts (TG.of h.1) (TG.of h.2) hS
    · rename_i h
      rw [if_neg h]
      exact List.Perm.eq_nil hS.1
  refine dEr ?_
  repeat (refine c0 (f_TreeTurned W0 hM a b) rfl ?_; first | refine dEr ?_ | exact dz)
  generalize turnedO a b = T at *
  refine lp2 (fun (k : Nat) (out : List Mark) => [(1, .c (eEnts b)), (5, .own 80 out.length), (16, .c (eStrs T)), (17, I T.length), (18, I k)]) (fun _ out => [(80, .row (out.map eMark) 3 49)]) (fun k out => k ≤ T.length ∧ out = (T.take k).filterMap (difM b) ∧ out.length ≤ k) (fun k _ => T.length - k) 0 [] ⟨by simp, rfl, by simp⟩ ?_ ?_
  · refine dr ?_
    trivial
  rintro k out ⟨hk, ho, hle⟩
  refine dr ?_
  refine cP (fun h1 => ?_) (fun h1 => ?_)
  · have hk' : k < T.length := by omega
    have gb := hT3 (fun e => by rw [e] at hk'; simp at hk')
    have hp := hT1 _ (List.getElem_mem hk')
    have hn : (T.take (k + 1)).filterMap (difM b) = out ++ (difM b T[k]).toList := by rw [fm_next hk', ← ho]
    have hc := f_entAt W0 b T[k]
    cases hx : find b T[k] with
    | some e =>
      rw [hx] at hc
      refine dEr ?_
      repeat (refine c0 hc rfl ?_; first | refine dEr ?_ | exact dz)
      refine cP (fun h2 => ?_) (fun h2 => ?_)
      · have e1 : difM b T[k] = some ⟨T[k], 2, []⟩ := by
          have := gb.data (find_path hx).2 h2
          unfold difM; rw [get_find hp, hx]; simp [h2, this]
        rw [e1] at hn
        refine dr ?_
        repeat ((first | refine oB (by simp; omega) ?_ | refine oB (by simp) ?_); first | refine dr ?_ | exact dz)
        refine ⟨k + 1, out ++ [⟨T[k], 2, []⟩], ⟨by omega, by rw [hn]; rfl, by simp; omega⟩, by omega, ?_⟩
        refine dr ?_
        repeat (refine oB (by simp <;> rfl) ?_; first | refine dr ?_ | exact dz)
        trivial
      · have e1 : difM b T[k] = some ⟨T[k], 1, e.data⟩ := by
          unfold difM; rw [get_find hp, hx]; simp [h2]
        rw [e1] at hn
        refine dr ?_
        repeat ((first | refine oB (by simp; omega) ?_ | refine oB (by simp) ?_); first | refine dr ?_ | exact dz)
        refine ⟨k + 1, out ++ [⟨T[k], 1, e.data⟩], ⟨by omega, by rw [hn]; rfl, by simp; omega⟩, by omega, ?_⟩
        refine dr ?_
        repeat (refine oB (by simp <;> rfl) ?_; first | refine dr ?_ | exact dz)
        trivial
    | none =>
      rw [hx] at hc
      refine dEr ?_
      repeat ((first | refine c0 hc rfl ?_ | refine c0 (f_upCode W0 hM b _) rfl ?_); first | refine dEr ?_ | exact dz)
      refine cP (fun h2 => ?_) (fun h2 => ?_)
      · have e1 : difM b T[k] = some ⟨T[k], 3, []⟩ := by
          unfold difM; rw [get_find hp, hx]; simp only [upC2_0.1 h2, if_true]
        rw [e1] at hn
        refine dr ?_
        repeat ((first | refine oB (by simp; omega) ?_ | refine oB (by simp) ?_); first | refine dr ?_ | exact dz)
        refine ⟨k + 1, out ++ [⟨T[k], 3, []⟩], ⟨by omega, by rw [hn]; rfl, by simp; omega⟩, by omega, ?_⟩
        refine dr ?_
        repeat (refine oB (by simp <;> rfl) ?_; first | refine dr ?_ | exact dz)
        trivial
      · have e1 : difM b T[k] = none := by
          have : isDir b (pUp T[k]) = false := by
            rw [Bool.eq_false_iff]; exact fun e => h2 (upC2_0.2 e)
          unfold difM; rw [get_find hp, hx]; simp [this]
        rw [e1] at hn
        refine dr ?_
        refine ⟨k + 1, out, ⟨by omega, by rw [hn]; simp, by omega⟩, by omega, ?_⟩
        refine dr ?_
        trivial
  have hkl : k = T.length := by omega
  rw [hkl, List.take_length] at ho
  have hpo : ∀ m ∈ out, pOk m.path = true := fun m hm => by
    rw [ho] at hm
    obtain ⟨p, hp, e⟩ := List.mem_filterMap.1 hm
    rw [difM_path e]; exact hT1 p hp
  rw [← ho] at hfin
  have hol : out.length ≤ 32 := by omega
  clear ho hle hk h1 hkl hT1 hT2 hT3
  generalize hoo : out = D at *
  refine dr ?_
  refine lp2 (fun (k : Nat) (out : List Mark) => [(5, .own 80 out.length), (60, I D.length), (61, I k)]) (fun _ out => [(80, .row (out.map eMark) 3 49)]) (fun k out => k ≤ D.length ∧ out = (D.take k).foldl addUps D ∧ out.length ≤ D.length + 3 * k ∧ ∃ s, out = D ++ s) (fun k _ => D.length - k) 0 D ⟨by simp, by simp, by simp, [], by simp⟩ ?_ ?_
  · refine dr ?_
    trivial
  clear hoo
  rintro k out ⟨hk, ho, hle, hs⟩
  refine dr ?_
  refine cP (fun h1 => ?_) (fun h1 => ?_)
  · have hk' : k < D.length := by omega
    have hko : k < out.length := by obtain ⟨s, rfl⟩ := hs; simp; omega
    have hget : out[k] = D[k] := by
      obtain ⟨s, rfl⟩ := hs
      rw [List.getElem_append_left hk']
    have hp := hpo _ (List.getElem_mem hk')
    have hn : (D.take (k + 1)).foldl addUps D = addUps out D[k] := by rw [fold_next hk', ← ho]
    have hnl := addUps_len (l := out) (m := D[k])
    refine dEr ?_
    repeat (refine c0 (f_impl_PathUp W0 hM _) rfl ?_; first | refine dEr ?_ | exact dz)
    rw [hget]
    refine lp3 (fun (m : Nat) (q : Str) (o : List Mark) => [(5, .own 80 o.length), (60, I D.length), (61, I k), (11, .c (CS (pUp q)))]) (fun _ _ o => [(80, .row (o.map eMark) 3 49)])
      (fun m q o => pOk q = true ∧ (names q).length ≤ m ∧ (upsN m q).foldl addUp o = addUps out D[k] ∧ o.length + m ≤ out.length + 3 ∧ ∃ s, o = D ++ s) (fun m _ _ => m) 3 D[k].path out ⟨hp, (pOk_names hp).1.2, rfl, by omega, hs⟩ ?_ ?_
    · refine dr ?_
      trivial
    rintro m q o ⟨hq, hqn, hqo, hql, hqs⟩
    refine dr ?_
    refine cP (fun h2 => ?_) (fun h2 => ?_)
    · obtain ⟨u1, _, u3⟩ := pOk_up hq h2
      cases m with
      | zero => have := (pOk_names hq).1.1; omega
      | succ m =>
        have hqo2 : (upsN m (pUp q)).foldl addUp (addUp o (pUp q)) = addUps out D[k] := by
          rw [← hqo]; conv => rhs; rw [upsN, if_neg h2]
          rfl
        have hal := addUp_len (l := o) (u := pUp q)
        have hc := f_markAt W0 o (pUp q)
        rw [eMarkO_eq] at hc
        refine dEr ?_
        repeat (refine c0 hc rfl ?_; first | refine dEr ?_ | exact dz)
        refine cP (fun h3 => ?_) (fun h3 => ?_)
        · have e1 : addUp o (pUp q) = o ++ [⟨pUp q, 2, []⟩] := by unfold addUp; rw [if_neg (by simp [h3])]
          refine dEr ?_
          repeat ((first | refine oB (by simp; omega) ?_ | refine oB (by simp) ?_ | refine c0 (f_impl_PathUp W0 hM _) rfl ?_); first | refine dEr ?_ | exact dz)
          refine ⟨m, pUp q, addUp o (pUp q), ⟨u1, by omega, hqo2, by omega, pre_addUp hqs⟩, by omega, ?_⟩
          refine dr ?_
          repeat (refine oB (by simp [e1] <;> rfl) ?_; first | refine dr ?_ | exact dz)
          trivial
        · have e1 : addUp o (pUp q) = o := by unfold addUp; rw [if_pos h3]
          refine dEr ?_
          repeat (refine c0 (f_impl_PathUp W0 hM _) rfl ?_; first | refine dEr ?_ | exact dz)
          refine ⟨m, pUp q, addUp o (pUp q), ⟨u1, by omega, hqo2, by omega, pre_addUp hqs⟩, by omega, ?_⟩
          refine dr ?_
          repeat (refine oB (by simp [e1] <;> rfl) ?_; first | refine dr ?_ | exact dz)
          trivial
    · rw [upsN_nil h2] at hqo
      have hqo : o = addUps out D[k] := hqo
      refine dr ?_
      refine ⟨k + 1, o, ⟨by omega, by rw [hn, hqo], by rw [hqo]; omega, hqs⟩, by omega, ?_⟩
      refine dr ?_
      trivial
  have hkl : k = D.length := by omega
  rw [hkl, List.take_length] at ho
  rw [← ho] at hfin
  refine dr ?_
  refine oW ((f_sortMarks_1 W0 out (by omega)).swp 1 80) rfl ⟨rfl, trivial⟩ rfl rfl sorts_ex fun S hS => ⟨rfl, ?_⟩
  refine dEr ?_
  repeat (refine oB (by simp [hS.len]) ?_; first | refine dEr ?_ | exact dz)
  rw [hfin S hS] <;> rfl


end Go.Proofs.YthblflnfhdnpdaaGreatDoor

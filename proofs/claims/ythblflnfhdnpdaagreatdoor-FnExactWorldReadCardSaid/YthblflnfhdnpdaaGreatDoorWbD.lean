/- The texts Pb1, Pb2, Pb3, Pb8, Pb9, Pb4, Bm2, Pb5, Pb6, Pb7, Db1, Pc1, Pd1, Qb2, Db2, Db3, Dc1, Pd2, Pd3, Qb3, Qb4, Pd4, Pd5, Pd6, Pd7, Sh1, Ib1, Sh2, Sh3, joined; no condition. -/
import Derived.Test.YthblflnfhdnpdaaGreatDoorWbC
import Derived.Test.YthblflnfhdnpdaaGreatDoorShelf
import Derived.Shelf.SlSortCmp.WholeK
import Derived.Laws.Cover1
import Derived.Test.YthblflnfhdnpdaaGreatDoorProg

namespace Go.Proofs.YthblflnfhdnpdaaGreatDoor
set_option linter.unusedSimpArgs false
set_option linter.unusedVariables false
open Go Go.RowKit
def c_spec_l10Cut : XC := (.s (.r [.ex 4 (.asn (.k .nil) 1 9)]) (.s (.r [.ex 8 .bsl0, .ex 5 (.asn (.t 8) 1 9)]) (.s (.r [.ex 6 (.mv (.i 0))]) (.s (.s (.r [.ex 7 (.mv (.i 0))]) (.blk 0 (.loop (.s (.s (.r [.mv 9 7, .mv 10 0, .ex 11 (.len true (.t 10)), .ex 12 (.bin .leq (.t 9) (.t 11))]) (.cnd (.t 12) .skip (.exit 0))) (.s (.blk 1 (.s (.r [.mv 15 7, .mv 16 0, .ex 17 (.len true (.t 16)), .ex 18 (.bin .eql (.t 15) (.t 17)), .mv 19 18, .gf 20 (.mv (.t 0)) 19, .gf 21 (.mv (.t 7)) 19, .gf 22 (.idx (.t 20) (.t 21)) 19, .gf 23 (.mv (.t 1)) 19, .gf 24 (.bin .eql (.t 22) (.t 23)) 19, .ex 25 (.pick (.t 19) .y (.t 24))]) (.cnd (.t 25) (.s (.r [.mv 26 5, .mv 27 0, .mv 28 6, .mv 29 7, .ex 30 (.sls (.t 27) (.some (.t 28)) (.some (.t 29))), .ex 31 (.bsl 1 9 [(.t 30)]), .ex 32 (.app false 1 16 9 (.t 26) (.t 31)), .ex 5 (.asn (.t 32) 1 9)]) (.r [.mv 33 7, .ex 34 (.bin .add (.t 33) (.i 1)), .mv 6 34])) .skip))) (.r [.mv 13 7, .ex 14 (.bin .add (.t 13) (.i 1)), .mv 7 14])))))) (.s (.r [.mv 35 5, .ex 4 (.asn (.t 35) 1 9)]) .ret)))))
theorem c_spec_l10Cut_eq : compF Tryz.prog [] 279 = some (c_spec_l10Cut.ac, [(.t 4)], 36) := by kernel_rfl
theorem f_l10Cut (W0 : World) (s : Str) (c : UInt8) (hs : s.length ≤ 1000000) : Fn Tryz.prog W0 279 [CS s, CU c.toNat] (.c (eStrs (cut c s))) [] := by
  refine fnX (c := c_spec_l10Cut) mixed c_spec_l10Cut_eq (by simp) rfl fun hg => ?_
  refine dr ?_
  refine lp3 (fun (out : List Str) (fr k : Nat) => [(0, .c (CS s)), (1, .c (CU c.toNat)), (5, .own 80 out.length), (6, I fr), (7, I k)]) (fun out _ _ => [(80, .row (out.map CS) 1 9)])
    (fun out fr k => fr ≤ k ∧ k ≤ s.length + 1 ∧ (k ≤ s.length → c ∉ (s.take k).drop fr ∧ out ++ cut c (s.drop fr) = cut c s) ∧ (k = s.length + 1 → out = cut c s) ∧ out.length ≤ k) (fun _ _ k => s.length + 1 - k) [] 0 0 ⟨by simp, by simp, by simp, by simp, by simp⟩ ?_ ?_
  · refine dr ?_
    trivial
  rintro out fr k ⟨h1, h2, h3, h4, h5⟩
  refine dr ?_
  refine cP (fun h6 => ?_) (fun h6 => ?_)
  · obtain ⟨h7, h8⟩ := h3 (by omega)
    refine dr ?_
    refine cP (fun h9 => ?_) (fun h9 => ?_)
    · have hk : k = s.length := by omega
      refine dr ?_
      repeat (refine sBo fr k rfl rfl (by omega) (by omega) ?_; first | refine dr ?_ | exact dz)
      refine ⟨out ++ [(s.take k).drop fr], k + 1, k + 1, ⟨by omega, by omega, by omega, fun _ => ?_, by simp; omega⟩, by omega, ?_⟩
      · rw [← h8, cut_none (s := s.drop fr)]
        · rw [hk, List.take_length]
        · rw [hk, List.take_length] at h7; exact h7
      · refine dr ?_
        repeat (refine oB (by simp) ?_; first | refine dr ?_ | exact dz)
        trivial
    · have hk : k < s.length := by omega
      refine dr ?_
      refine cP (fun h10 => ?_) (fun h10 => ?_)
      · have e : s[k] = c := by
          have : s[k].toNat = c.toNat := by omega
          exact UInt8.toNat_inj.1 this
        refine dr ?_
        repeat (refine sBo fr k rfl rfl (by omega) (by omega) ?_; first | refine dr ?_ | exact dz)
        refine ⟨out ++ [(s.take k).drop fr], k + 1, k + 1, ⟨by omega, by omega, fun h => ⟨?_, ?_⟩, fun h => by omega, by simp; omega⟩, by omega, ?_⟩
        · rw [List.drop_of_length_le (by simp; omega)]; simp
        · have e2 : s.drop fr = (s.take k).drop fr ++ c :: s.drop (k + 1) := by
            rw [← e, ← List.drop_eq_getElem_cons hk]
            have : s.drop fr = (s.take k ++ s.drop k).drop fr := by rw [List.take_append_drop]
            rw [this, List.drop_append_of_le_length (by simp; omega)]
          rw [e2, cut_app _ h7] at h8
          rw [← h8]; simp
        · refine dr ?_
          repeat (refine oB (by simp) ?_; first | refine dr ?_ | exact dz)
          trivial
      · have e : s[k] ≠ c := by
          intro e; rw [e] at h10; exact h10 rfl
        refine dr ?_
        refine ⟨out, fr, k + 1, ⟨by omega, by omega, fun h => ⟨?_, h8⟩, fun h => ?_, by omega⟩, by omega, ?_⟩
        · rw [List.take_succ_eq_append_getElem hk, List.drop_append_of_le_length (by simp; omega)]
          simp only [List.mem_append, not_or, List.mem_singleton]
          exact ⟨h7, fun h => e h.symm⟩
        · omega
        · refine dr ?_
          trivial
  · have hk : k = s.length + 1 := by omega
    refine dr ?_
    repeat (refine oB (by simp) ?_; first | refine dr ?_ | exact dz)
    rw [h4 hk]; rfl
def c_spec_l1Names : XC := (.s (.r [.ex 2 (.asn (.k .nil) 1 9)]) (.s (.s (.r [.mv 3 0, .ex 4 (.len true (.t 3)), .ex 5 (.bin .lss (.t 4) (.i 2)), .mv 6 5, .gf 7 (.mv (.t 0)) 6, .gf 8 (.idx (.t 7) (.i 0)) 6, .gf 9 (.bin .neq (.t 8) (.u 47)) 6, .ex 10 (.pick (.t 6) .y (.t 9))]) (.cnd (.t 10) (.s (.r [.ex 11 .bsl0, .ex 2 (.asn (.t 11) 1 9)]) .ret) .skip)) (.s (.r [.mv 12 0, .ex 13 (.sls (.t 12) (.some (.i 1)) .none), .ex 14 (.call 279 [(.t 13), (.u 47)]), .ex 2 (.asn (.t 14) 1 9)]) .ret)))
theorem c_spec_l1Names_eq : compF Tryz.prog [] 246 = some (c_spec_l1Names.ac, [(.t 2)], 15) := by kernel_rfl
theorem f_l1Names (W0 : World) (s : Str) (hs : s.length ≤ 1000000) : Fn Tryz.prog W0 246 [CS s] (.c (eStrs (names s))) [] := by
  refine fnX (c := c_spec_l1Names) mixed c_spec_l1Names_eq (by simp) rfl fun hg => ?_
  refine dr ?_
  refine cP (fun h1 => ?_) (fun h1 => ?_)
  · refine dr ?_
    repeat (refine oB (by simp) ?_; first | refine dr ?_ | exact dz)
    rw [names, if_pos (.inl (by omega))]; rfl
  · have hl : 2 ≤ s.length := by omega
    refine dr ?_
    refine cP (fun h2 => ?_) (fun h2 => ?_)
    · refine dr ?_
      repeat (refine oB (by simp) ?_; first | refine dr ?_ | exact dz)
      have hc : s.head? ≠ some 47 := by
        cases s with
        | nil => simp at hl
        | cons b t =>
          show some b ≠ some 47
          intro e; cases e; exact h2 rfl
      have e : names s = [] := by rw [names, if_pos (.inr hc)]
      exact congrArg eStrs e.symm
    · have e : s.head? = some 47 := by
        cases s with
        | nil => simp at hl
        | cons b t =>
          have : b.toNat = 47 := by simp at h2; omega
          simp; exact UInt8.toNat_inj.1 (by simpa using this)
      refine dr ?_
      repeat ((first | refine sLo 1 rfl (by omega) ?_ | refine c0 (f_l10Cut W0 _ 47 (by simp; omega)) rfl ?_); first | refine dr ?_ | exact dz)
      intro hg1
      refine dr ?_
      repeat (refine oB (by simp) ?_; first | refine dr ?_ | exact dz)
      rw [names, if_neg (by simp [e]; omega), ← List.drop_one]
def c_spec_l1Name : XC := (.s (.r [.ex 2 (.mv .n)]) (.s (.s (.r [.ex 3 (.mv (.i 0))]) (.blk 0 (.loop (.s (.s (.r [.mv 4 3, .mv 5 0, .ex 6 (.len true (.t 5)), .ex 7 (.bin .lss (.t 4) (.t 6))]) (.cnd (.t 7) .skip (.exit 0))) (.s (.blk 1 (.s (.r [.mv 10 0, .mv 11 3, .ex 12 (.idx (.t 10) (.t 11)), .ex 13 (.bin .lss (.t 12) (.u 97)), .mv 14 13, .gf 15 (.mv (.t 0)) 14, .gf 16 (.mv (.t 3)) 14, .gf 17 (.idx (.t 15) (.t 16)) 14, .gf 18 (.bin .gtr (.t 17) (.u 122)) 14, .ex 19 (.pick (.t 14) .y (.t 18))]) (.cnd (.t 19) (.s (.r [.ex 2 (.mv .n)]) .ret) .skip))) (.r [.mv 8 3, .ex 9 (.bin .add (.t 8) (.i 1)), .mv 3 9])))))) (.s (.r [.mv 20 0, .ex 21 (.len true (.t 20)), .ex 22 (.bin .geq (.t 21) (.i 1)), .mv 23 22, .gt 24 (.mv (.t 0)) 23, .gt 25 (.len true (.t 24)) 23, .gt 26 (.bin .leq (.t 25) (.i 3)) 23, .ex 27 (.pick (.t 23) (.t 26) .n), .mv 2 27]) .ret)))
theorem c_spec_l1Name_eq : compF Tryz.prog [] 247 = some (c_spec_l1Name.ac, [(.t 2)], 28) := by kernel_rfl
theorem f_l1Name (W0 : World) (s : Str) : Fn Tryz.prog W0 247 [CS s] (.c (CB (nameOk s))) [] := by
  refine fnX (c := c_spec_l1Name) mixed c_spec_l1Name_eq (by simp) rfl fun hg => ?_
  have g1 := goodS (hg _ (by simp : CS s ∈ _))
  refine dr ?_
  refine lp (σ := Nat) (fun k => [(0, .c (CS s)), (3, I k)]) (fun _ => []) (fun k => k ≤ s.length ∧ (s.take k).all lower = true) (fun k => s.length - k) 0 ⟨by simp, by simp⟩ ?_ ?_
  · refine dr ?_
    trivial
  rintro k ⟨hk, ha⟩
  refine dr ?_
  refine cP (fun h1 => ?_) (fun h1 => ?_)
  · have hk' : k < s.length := by omega
    have no : lower s[k] = false → CB false = CB (nameOk s) := fun h => bF (by rw [nameOk, all_no hk' h]; rfl)
    refine dr ?_
    refine cP (fun h2 => ?_) (fun h2 => ?_)
    · refine dr ?_
      exact no (by simp [lower]; omega)
    · refine dr ?_
      refine cP (fun h3 => ?_) (fun h3 => ?_)
      · refine dr ?_
        exact no (by simp [lower]; omega)
      · refine dr ?_
        refine ⟨k + 1, ⟨by omega, take_all hk' ha (by simp [lower]; omega)⟩, by omega, ?_⟩
        refine dr ?_
        trivial
  · have : k = s.length := by omega
    subst this
    rw [List.take_length] at ha
    refine dr ?_
    refine cP (fun h2 => ?_) (fun h2 => ?_)
    · refine dr ?_
      refine congrArg CB ?_
      rw [nameOk, ha, leI_d, Bool.eq_iff_iff]; simp; omega
    · refine dr ?_
      exact bF (by rw [nameOk, ha]; simp; omega)
def c_spec_PathOk : XC := (.s (.r [.ex 2 (.mv .n)]) (.s (.s (.r [.mv 5 0, .ex 6 (.len true (.t 5)), .ex 7 (.bin .gtr (.t 6) (.i 12))]) (.cnd (.t 7) (.s (.r [.ex 2 (.mv .n)]) .ret) .skip)) (.s (.r [.mv 8 0, .ex 9 (.call 246 [(.t 8)]), .ex 3 (.asn (.t 9) 1 9)]) (.s (.s (.r [.ex 4 (.mv (.i 0))]) (.blk 0 (.loop (.s (.s (.r [.mv 10 4, .mv 11 3, .ex 12 (.len false (.t 11)), .ex 13 (.bin .lss (.t 10) (.t 12))]) (.cnd (.t 13) .skip (.exit 0))) (.s (.blk 1 (.s (.r [.mv 16 3, .mv 17 4, .ex 18 (.ia 1 (.t 16) (.t 17)), .ex 19 (.ld false 1 (.t 18)), .ex 20 (.call 247 [(.t 19)]), .ex 21 (.un .not (.t 20))]) (.cnd (.t 21) (.s (.r [.ex 2 (.mv .n)]) .ret) .skip))) (.r [.mv 14 4, .ex 15 (.bin .add (.t 14) (.i 1)), .mv 4 15])))))) (.s (.r [.mv 22 3, .ex 23 (.len false (.t 22)), .ex 24 (.bin .geq (.t 23) (.i 1)), .mv 25 24, .gt 26 (.mv (.t 3)) 25, .gt 27 (.len false (.t 26)) 25, .gt 28 (.bin .leq (.t 27) (.i 3)) 25, .ex 29 (.pick (.t 25) (.t 28) .n), .mv 2 29]) .ret)))))
theorem c_spec_PathOk_eq : compF Tryz.prog [] 175 = some (c_spec_PathOk.ac, [(.t 2)], 30) := by kernel_rfl
theorem f_spec_PathOk (W0 : World) (s : Str) : Fn Tryz.prog W0 175 [CS s] (.c (CB (pOk s))) [] := by
  refine fnX (c := c_spec_PathOk) mixed c_spec_PathOk_eq (by simp) rfl fun hg => ?_
  refine dr ?_
  refine cP (fun h1 => ?_) (fun h1 => ?_)
  · refine dr ?_
    exact bF (by simp [pOk]; omega)
  refine dr ?_
  repeat (refine c0 (f_l1Names W0 s (by omega)) rfl ?_; first | refine dr ?_ | exact dz)
  intro hg1
  have g1 := goodRow hg1
  refine dr ?_
  refine lp (σ := Nat) (fun k => [(3, .c (eStrs (names s))), (4, I k)]) (fun _ => []) (fun k => k ≤ (names s).length ∧ ((names s).take k).all nameOk = true) (fun k => (names s).length - k) 0 ⟨by simp, by simp⟩ ?_ ?_
  · refine dr ?_
    trivial
  rintro k ⟨hk, ha⟩
  refine dr ?_
  refine cP (fun h2 => ?_) (fun h2 => ?_)
  · refine dr ?_
    repeat (refine c0 (f_l1Name W0 _) rfl ?_; first | refine dr ?_ | exact dz)
    refine cP (fun h3 => ?_) (fun h3 => ?_)
    · refine dr ?_
      exact bF (by rw [pOk, all_no (by omega) h3]; simp)
    · refine dr ?_
      refine ⟨k + 1, ⟨by omega, take_all (by omega) ha h3⟩, by omega, ?_⟩
      refine dr ?_
      trivial
  · have : k = (names s).length := by omega
    subst this
    rw [List.take_length] at ha
    refine dr ?_
    refine cP (fun h3 => ?_) (fun h3 => ?_)
    · refine dr ?_
      refine congrArg CB ?_
      rw [pOk, ha, leI_d, Bool.eq_iff_iff]; simp; omega
    · refine dr ?_
      exact bF (by rw [pOk, ha]; simp; omega)
def c_spec_l1Slash : XC := (.s (.r [.ex 2 (.mv (.i 0))]) (.s (.r [.mv 4 0, .ex 5 (.len true (.t 4)), .ex 6 (.bin .sub (.t 5) (.i 1)), .mv 3 6]) (.s (.blk 0 (.loop (.s (.s (.r [.mv 7 3, .ex 8 (.bin .gtr (.t 7) (.i 0)), .mv 9 8, .gt 10 (.mv (.t 0)) 9, .gt 11 (.mv (.t 3)) 9, .gt 12 (.idx (.t 10) (.t 11)) 9, .gt 13 (.bin .neq (.t 12) (.u 47)) 9, .ex 14 (.pick (.t 9) (.t 13) .n)]) (.cnd (.t 14) .skip (.exit 0))) (.blk 1 (.r [.mv 15 3, .ex 16 (.bin .sub (.t 15) (.i 1)), .mv 3 16]))))) (.s (.r [.mv 17 3, .mv 2 17]) .ret))))
theorem c_spec_l1Slash_eq : compF Tryz.prog [] 243 = some (c_spec_l1Slash.ac, [(.t 2)], 18) := by kernel_rfl
theorem f_l1Slash (W0 : World) (a l : Str) (hl : (47 : UInt8) ∉ l) (h12 : (a ++ 47 :: l).length ≤ 12) : Fn Tryz.prog W0 243 [CS (a ++ 47 :: l)] (.c (CI a.length)) [] := by
  have hlen : (a ++ 47 :: l).length = a.length + l.length + 1 := by simp; omega
  have h47 : ∀ (h : a.length < (a ++ 47 :: l).length), (a ++ 47 :: l)[a.length] = 47 := fun h => by simp
  have hno : ∀ k (h : k < (a ++ 47 :: l).length), a.length < k → (a ++ 47 :: l)[k] ≠ 47 := fun k h hk e => by
    have hm : (a ++ 47 :: l)[k]? = some 47 := by rw [List.getElem?_eq_getElem h, e]
    rw [List.getElem?_append_right (by omega), show k - a.length = (k - a.length - 1) + 1 by omega, List.getElem?_cons_succ] at hm
    exact hl (List.mem_of_getElem? hm)
  generalize a ++ 47 :: l = s at *
  refine fnX (c := c_spec_l1Slash) mixed c_spec_l1Slash_eq (by simp) rfl fun hg => ?_
  refine dr ?_
  refine lp (σ := Nat) (fun k => [(0, .c (CS s)), (3, I k)]) (fun _ => []) (fun k => a.length ≤ k ∧ k < s.length) (fun k => k) (s.length - 1) ⟨by omega, by omega⟩ ?_ ?_
  · refine dr ?_
    trivial
  rintro k ⟨h1, h2⟩
  refine dr ?_
  refine cP (fun h3 => ?_) (fun h3 => ?_)
  · refine dr ?_
    refine cP (fun h4 => ?_) (fun h4 => ?_)
    · have hk : a.length < k := by
        rcases Nat.lt_or_ge a.length k with h | h
        · exact h
        · have e : k = a.length := by omega
          subst e
          rw [h47 h2] at h4
          simp at h4
      refine dr ?_
      refine ⟨k - 1, ⟨by omega, by omega⟩, by omega, ?_⟩
      refine dr ?_
      trivial
    · have hk : k = a.length := by
        have h4' : s[k] = 47 := by
          have : s[k].toNat = 47 := by omega
          exact UInt8.toNat_inj.1 (by simpa using this)
        rcases Nat.lt_or_ge a.length k with h | h
        · exact absurd h4' (hno k h2 h)
        · omega
      refine dr ?_
      rw [hk]
  · refine dr ?_
    have : k = a.length := by omega
    rw [this]
def c_spec_PathUp : XC := (.s (.r [.ex 2 (.mv (.s []))]) (.s (.s (.r [.mv 4 0, .ex 5 (.call 175 [(.t 4)]), .ex 6 (.un .not (.t 5))]) (.cnd (.t 6) (.s (.r [.ex 2 (.mv (.s []))]) .ret) .skip)) (.s (.r [.mv 7 0, .ex 8 (.call 243 [(.t 7)]), .mv 3 8]) (.s (.s (.r [.mv 9 3, .ex 10 (.bin .eql (.t 9) (.i 0))]) (.cnd (.t 10) (.s (.r [.ex 2 (.mv (.s [47]))]) .ret) .skip)) (.s (.r [.mv 11 0, .mv 12 3, .ex 13 (.sls (.t 11) .none (.some (.t 12))), .mv 2 13]) .ret)))))
theorem c_spec_PathUp_eq : compF Tryz.prog [] 167 = some (c_spec_PathUp.ac, [(.t 2)], 14) := by kernel_rfl
theorem f_spec_PathUp (W0 : World) (s : Str) : Fn Tryz.prog W0 167 [CS s] (.c (CS (pUp s))) [] := by
  refine fnX (c := c_spec_PathUp) mixed c_spec_PathUp_eq (by simp) rfl fun hg => ?_
  refine dr ?_
  repeat (refine c0 (f_spec_PathOk W0 s) rfl ?_; first | refine dr ?_ | exact dz)
  refine cP (fun h1 => ?_) (fun h1 => ?_)
  · refine dr ?_
    rw [show pUp s = [] by rw [pUp, h1]; rfl]
  obtain ⟨a, l, e, hl, _, _, _, _, _, hu⟩ := pOk_two h1
  have h12 := (pOk_len h1).2.1
  rw [hu]
  clear hu
  subst e
  refine dr ?_
  repeat (refine c0 (f_l1Slash W0 a l hl h12) rfl ?_; first | refine dr ?_ | exact dz)
  intro hg1
  refine dr ?_
  refine cP (fun h2 => ?_) (fun h2 => ?_)
  · refine dr ?_
    have : a = [] := List.length_eq_zero_iff.1 (by omega)
    rw [if_pos this]
  · refine dr ?_
    repeat (refine sHi a.length rfl (by simp) ?_; first | refine dr ?_ | exact dz)
    rw [if_neg (fun e => h2 (by simp [e])), List.take_left]
def c_spec_PathName : XC := (.s (.r [.ex 2 (.mv (.s []))]) (.s (.s (.r [.mv 3 0, .ex 4 (.call 175 [(.t 3)]), .ex 5 (.un .not (.t 4))]) (.cnd (.t 5) (.s (.r [.ex 2 (.mv (.s []))]) .ret) .skip)) (.s (.r [.mv 6 0, .mv 7 0, .ex 8 (.call 243 [(.t 7)]), .ex 9 (.bin .add (.t 8) (.i 1)), .ex 10 (.sls (.t 6) (.some (.t 9)) .none), .mv 2 10]) .ret)))
theorem c_spec_PathName_eq : compF Tryz.prog [] 309 = some (c_spec_PathName.ac, [(.t 2)], 11) := by kernel_rfl
theorem f_spec_PathName (W0 : World) (s : Str) : Fn Tryz.prog W0 309 [CS s] (.c (CS (pName s))) [] := by
  refine fnX (c := c_spec_PathName) mixed c_spec_PathName_eq (by simp) rfl fun hg => ?_
  refine dr ?_
  repeat (refine c0 (f_spec_PathOk W0 s) rfl ?_; first | refine dr ?_ | exact dz)
  refine cP (fun h1 => ?_) (fun h1 => ?_)
  · refine dr ?_
    rw [show pName s = [] by rw [pName, h1]; rfl]
  obtain ⟨a, l, e, hl, _, _, _, _, hn, _⟩ := pOk_two h1
  have h12 := (pOk_len h1).2.1
  rw [hn]
  clear hn
  subst e
  have hlen : (a ++ 47 :: l).length = a.length + l.length + 1 := by rw [List.length_append, List.length_cons]; omega
  refine dr ?_
  repeat ((first | refine c0 (f_l1Slash W0 a l hl h12) rfl ?_ | refine sLo (a.length + 1) rfl (by omega) ?_); first | refine dr ?_ | exact dz)
  intro hg1
  refine dr ?_
  have e2 : a ++ 47 :: l = (a ++ [47]) ++ l := by simp
  rw [e2, List.drop_left' (by simp)]
def c_spec_l1Under : XC := (.s (.r [.ex 4 (.mv .n)]) (.s (.s (.r [.mv 5 1, .ex 6 (.bin .eql (.t 5) (.s [47]))]) (.cnd (.t 6) (.s (.r [.ex 4 (.mv .y)]) .ret) .skip)) (.s (.r [.mv 7 0, .ex 8 (.len true (.t 7)), .mv 9 1, .ex 10 (.len true (.t 9)), .ex 11 (.bin .gtr (.t 8) (.t 10)), .mv 12 11, .gt 13 (.mv (.t 0)) 12, .gt 14 (.mv (.t 1)) 12, .gt 15 (.len true (.t 14)) 12, .gt 16 (.sls (.t 13) .none (.some (.t 15))) 12, .gt 17 (.mv (.t 1)) 12, .gt 18 (.bin .eql (.t 16) (.t 17)) 12, .ex 19 (.pick (.t 12) (.t 18) .n), .mv 20 19, .gt 21 (.mv (.t 0)) 20, .gt 22 (.mv (.t 1)) 20, .gt 23 (.len true (.t 22)) 20, .gt 24 (.idx (.t 21) (.t 23)) 20, .gt 25 (.bin .eql (.t 24) (.u 47)) 20, .ex 26 (.pick (.t 20) (.t 25) .n), .mv 4 26]) .ret)))
theorem c_spec_l1Under_eq : compF Tryz.prog [] 270 = some (c_spec_l1Under.ac, [(.t 4)], 27) := by kernel_rfl
theorem f_l1Under (W0 : World) (s d : Str) : Fn Tryz.prog W0 270 [CS s, CS d] (.c (CB (und s d))) [] := by
  refine fnX (c := c_spec_l1Under) mixed c_spec_l1Under_eq (by simp) rfl fun hg => ?_
  refine dr ?_
  refine cP (fun h1 => ?_) (fun h1 => ?_)
  · refine dr ?_
    exact bT (by simp [und, h1])
  have hnd : und s d = (d ++ [47]).isPrefixOf s := by simp [und, h1]
  rw [hnd]
  refine dr ?_
  refine cP (fun h2 => ?_) (fun h2 => ?_)
  rotate_left
  · refine dr ?_
    refine bF ?_
    rw [Bool.eq_false_iff]
    intro h
    have := (List.isPrefixOf_iff_prefix.1 h).length_le
    simp at this; omega
  refine dr ?_
  repeat (refine sHi d.length rfl (by omega) ?_; first | refine dr ?_ | exact dz)
  refine cP (fun h3 => ?_) (fun h3 => ?_)
  rotate_left
  · refine dr ?_
    refine bF ?_
    rw [Bool.eq_false_iff]
    intro h
    obtain ⟨r, hr⟩ := List.isPrefixOf_iff_prefix.1 h
    apply h3
    rw [← hr, List.append_assoc, List.take_left]
  refine dr ?_
  have hs : s = d ++ s[d.length] :: s.drop (d.length + 1) := by
    rw [← List.drop_eq_getElem_cons (by omega)]
    conv => lhs; rw [← List.take_append_drop d.length s, h3]
  refine congrArg CB ?_
  rw [eqI_d, Bool.eq_iff_iff, List.isPrefixOf_iff_prefix]
  simp only [beq_iff_eq]
  constructor
  · intro h
    have e : s[d.length] = 47 := by
      have : s[d.length].toNat = 47 := by omega
      exact UInt8.toNat_inj.1 (by simpa using this)
    rw [e] at hs
    exact ⟨s.drop (d.length + 1), by rw [hs]; simp⟩
  · rintro ⟨r, hr⟩
    have : s[d.length]? = some 47 := by rw [← hr]; simp
    have e : s[d.length] = 47 := by
      rw [List.getElem?_eq_getElem (by omega)] at this; exact Option.some.inj this
    rw [e]; rfl
def c_spec_PathMove : XC := (.s (.r [.ex 6 (.mv (.s [])), .ex 7 (.mv .n)]) (.s (.s (.r [.mv 9 0, .ex 10 (.call 175 [(.t 9)]), .ex 11 (.un .not (.t 10)), .mv 12 11, .gf 13 (.mv (.t 1)) 12, .gf 14 (.call 175 [(.t 13)]) 12, .gf 15 (.un .not (.t 14)) 12, .ex 16 (.pick (.t 12) .y (.t 15)), .mv 17 16, .gf 18 (.mv (.t 2)) 17, .gf 19 (.call 175 [(.t 18)]) 17, .gf 20 (.un .not (.t 19)) 17, .ex 21 (.pick (.t 17) .y (.t 20))]) (.cnd (.t 21) (.s (.r [.ex 6 (.mv (.s [])), .ex 7 (.mv .n)]) .ret) .skip)) (.s (.s (.r [.mv 22 0, .mv 23 1, .ex 24 (.bin .neq (.t 22) (.t 23)), .mv 25 24, .gt 26 (.mv (.t 0)) 25, .gt 27 (.mv (.t 1)) 25, .gt 28 (.call 270 [(.t 26), (.t 27)]) 25, .gt 29 (.un .not (.t 28)) 25, .ex 30 (.pick (.t 25) (.t 29) .n)]) (.cnd (.t 30) (.s (.r [.mv 31 0, .mv 6 31, .ex 7 (.mv .y)]) .ret) .skip)) (.s (.r [.mv 32 2, .mv 33 0, .mv 34 1, .ex 35 (.len true (.t 34)), .ex 36 (.sls (.t 33) (.some (.t 35)) .none), .ex 37 (.bin .add (.t 32) (.t 36)), .mv 8 37]) (.s (.s (.r [.mv 38 8, .ex 39 (.call 175 [(.t 38)]), .ex 40 (.un .not (.t 39))]) (.cnd (.t 40) (.s (.r [.ex 6 (.mv (.s [])), .ex 7 (.mv .n)]) .ret) .skip)) (.s (.r [.mv 41 8, .mv 6 41, .ex 7 (.mv .y)]) .ret))))))
theorem c_spec_PathMove_eq : compF Tryz.prog [] 277 = some (c_spec_PathMove.ac, [(.t 6), (.t 7)], 42) := by kernel_rfl
theorem f_spec_PathMove (W0 : World) (s f t : Str) : Fn Tryz.prog W0 277 [CS s, CS f, CS t] (.c (eOpt (pMove s f t))) [] := by
  refine fnX (c := c_spec_PathMove) mixed c_spec_PathMove_eq (by simp) rfl fun hg => ?_
  refine dr ?_
  repeat (refine c0 (f_spec_PathOk W0 s) rfl ?_; first | refine dr ?_ | exact dz)
  refine cP (fun h1 => ?_) (fun h1 => ?_)
  · refine dr ?_
    simp [pMove, h1, eOpt]
  refine dr ?_
  repeat (refine c0 (f_spec_PathOk W0 f) rfl ?_; first | refine dr ?_ | exact dz)
  refine cP (fun h2 => ?_) (fun h2 => ?_)
  · refine dr ?_
    simp [pMove, h2, eOpt]
  refine dr ?_
  repeat (refine c0 (f_spec_PathOk W0 t) rfl ?_; first | refine dr ?_ | exact dz)
  refine cP (fun h3 => ?_) (fun h3 => ?_)
  · refine dr ?_
    simp [pMove, h3, eOpt]
  have l1 := (pOk_len h1).2.1
  have l3 := (pOk_len h3).2.1
  have hm : pMove s f t = if (s != f && !und s f) = true then some s else if pOk (t ++ s.drop f.length) = true then some (t ++ s.drop f.length) else none := by rw [pMove, if_pos (by simp [h1, h2, h3])]
  have fin : f.length ≤ s.length → ((s != f && !und s f) = false) → True := fun _ _ => trivial
  refine dr ?_
  refine cP (fun h4 => ?_) (fun h4 => ?_)
  · refine dr ?_
    repeat (refine c0 (f_l1Under W0 s f) rfl ?_; first | refine dr ?_ | exact dz)
    refine cP (fun h5 => ?_) (fun h5 => ?_)
    · refine dr ?_
      rw [hm, if_pos (by simp [h4, h5])]; rfl
    · have hle : f.length ≤ s.length := by
        simp only [und, Bool.or_eq_true, beq_iff_eq] at h5
        rcases h5 with h5 | h5
        · have := pOk_len h2; rw [h5] at this; simp at this
        · have := (List.isPrefixOf_iff_prefix.1 h5).length_le
          simp at this; omega
      rw [hm, if_neg (by simp [h5])]
      refine dr ?_
      repeat ((first | refine sLo f.length rfl hle ?_ | refine oB (by simp; omega) ?_ | refine c0 (f_spec_PathOk W0 _) rfl ?_); first | refine dr ?_ | exact dz)
      refine cP (fun h6 => ?_) (fun h6 => ?_)
      · refine dr ?_
        rw [if_neg (by rw [h6]; simp)]; rfl
      · refine dr ?_
        rw [if_pos h6]; rfl
  · subst h4
    rw [hm, if_neg (by simp)]
    refine dr ?_
    repeat ((first | refine sLo s.length rfl (Nat.le_refl _) ?_ | refine oB (by simp; omega) ?_ | refine c0 (f_spec_PathOk W0 _) rfl ?_); first | refine dr ?_ | exact dz)
    refine cP (fun h6 => ?_) (fun h6 => ?_)
    · refine dr ?_
      rw [if_neg (by rw [h6]; simp)]; rfl
    · refine dr ?_
      rw [if_pos h6]; rfl
end Go.Proofs.YthblflnfhdnpdaaGreatDoor

namespace Go.Proofs.YthblflnfhdnpdaaGreatDoor
set_option linter.unusedSimpArgs false
set_option linter.unusedVariables false
open Go Go.RowKit
def c_spec_l2Data : XC := (.s (.r [.ex 2 (.mv .n)]) (.s (.s (.r [.ex 3 (.mv (.i 0))]) (.blk 0 (.loop (.s (.s (.r [.mv 4 3, .mv 5 0, .ex 6 (.len true (.t 5)), .ex 7 (.bin .lss (.t 4) (.t 6))]) (.cnd (.t 7) .skip (.exit 0))) (.s (.blk 1 (.s (.r [.mv 10 0, .mv 11 3, .ex 12 (.idx (.t 10) (.t 11)), .ex 13 (.bin .lss (.t 12) (.u 97)), .mv 14 13, .gf 15 (.mv (.t 0)) 14, .gf 16 (.mv (.t 3)) 14, .gf 17 (.idx (.t 15) (.t 16)) 14, .gf 18 (.bin .gtr (.t 17) (.u 122)) 14, .ex 19 (.pick (.t 14) .y (.t 18)), .mv 20 19, .gt 21 (.mv (.t 0)) 20, .gt 22 (.mv (.t 3)) 20, .gt 23 (.idx (.t 21) (.t 22)) 20, .gt 24 (.bin .lss (.t 23) (.u 48)) 20, .gt 25 (.mv (.t 24)) 20, .gf 26 (.mv (.t 0)) 25, .gf 27 (.mv (.t 3)) 25, .gf 28 (.idx (.t 26) (.t 27)) 25, .gf 29 (.bin .gtr (.t 28) (.u 57)) 25, .gt 30 (.pick (.t 25) .y (.t 29)) 20, .ex 31 (.pick (.t 20) (.t 30) .n)]) (.cnd (.t 31) (.s (.r [.ex 2 (.mv .n)]) .ret) .skip))) (.r [.mv 8 3, .ex 9 (.bin .add (.t 8) (.i 1)), .mv 3 9])))))) (.s (.r [.mv 32 0, .ex 33 (.len true (.t 32)), .ex 34 (.bin .leq (.t 33) (.i 6)), .mv 2 34]) .ret)))
theorem c_spec_l2Data_eq : compF Tryz.prog [] 220 = some (c_spec_l2Data.ac, [(.t 2)], 35) := by kernel_rfl
theorem f_l2Data (W0 : World) (s : Str) : Fn Tryz.prog W0 220 [CS s] (.c (CB (dataOk s))) [] := by
  refine fnX (c := c_spec_l2Data) mixed c_spec_l2Data_eq (by simp) rfl fun hg => ?_
  have g1 := goodS (hg _ (by simp : CS s ∈ _))
  refine dr ?_
  refine lp (σ := Nat) (fun k => [(0, .c (CS s)), (3, I k)]) (fun _ => []) (fun k => k ≤ s.length ∧ (s.take k).all alnum = true) (fun k => s.length - k) 0 ⟨by simp, by simp⟩ ?_ ?_
  · refine dr ?_
    trivial
  rintro k ⟨hk, ha⟩
  refine dr ?_
  refine cP (fun h1 => ?_) (fun h1 => ?_)
  · have hk' : k < s.length := by omega
    have no : alnum s[k] = false → CB false = CB (dataOk s) := fun h => bF (by rw [dataOk, all_no hk' h]; rfl)
    have yes : alnum s[k] = true → ∃ x', (x' ≤ s.length ∧ (s.take x').all alnum = true) ∧ x' = k + 1 := fun h => ⟨k + 1, ⟨by omega, take_all hk' ha h⟩, rfl⟩
    refine dr ?_
    refine cP (fun h2 => ?_) (fun h2 => ?_)
    · refine dr ?_
      refine cP (fun h3 => ?_) (fun h3 => ?_)
      · refine dr ?_
        exact no (by simp [alnum, lower]; omega)
      · refine dr ?_
        refine cP (fun h4 => ?_) (fun h4 => ?_)
        · refine dr ?_
          exact no (by simp [alnum, lower]; omega)
        · refine dr ?_
          refine ⟨k + 1, ⟨by omega, take_all hk' ha (by simp [alnum, lower]; omega)⟩, by omega, ?_⟩
          refine dr ?_
          trivial
    · refine dr ?_
      refine cP (fun h3 => ?_) (fun h3 => ?_)
      · refine dr ?_
        refine cP (fun h4 => ?_) (fun h4 => ?_)
        · refine dr ?_
          exact no (by simp [alnum, lower]; omega)
        · refine dr ?_
          refine cP (fun h5 => ?_) (fun h5 => ?_)
          · refine dr ?_
            exact no (by simp [alnum, lower]; omega)
          · refine dr ?_
            refine ⟨k + 1, ⟨by omega, take_all hk' ha (by simp [alnum, lower]; omega)⟩, by omega, ?_⟩
            refine dr ?_
            trivial
      · refine dr ?_
        refine ⟨k + 1, ⟨by omega, take_all hk' ha (by simp [alnum, lower]; omega)⟩, by omega, ?_⟩
        refine dr ?_
        trivial
  · have : k = s.length := by omega
    subst this
    rw [List.take_length] at ha
    refine dr ?_
    refine congrArg CB ?_
    rw [dataOk, ha, leI_d, Bool.eq_iff_iff]; simp; omega
def c_spec_l2Find : XC := (.s (.r [.ex 4 (.mv (.i 0))]) (.s (.s (.r [.ex 5 (.mv (.i 0))]) (.blk 0 (.loop (.s (.s (.r [.mv 6 5, .mv 7 0, .ex 8 (.len false (.t 7)), .ex 9 (.bin .lss (.t 6) (.t 8))]) (.cnd (.t 9) .skip (.exit 0))) (.s (.blk 1 (.s (.r [.mv 12 0, .mv 13 5, .ex 14 (.ia 3 (.t 12) (.t 13)), .ex 15 (.fa 0 (.t 14)), .ex 16 (.ld false 1 (.t 15)), .mv 17 1, .ex 18 (.bin .eql (.t 16) (.t 17))]) (.cnd (.t 18) (.s (.r [.mv 19 5, .mv 4 19]) .ret) .skip))) (.r [.mv 10 5, .ex 11 (.bin .add (.t 10) (.i 1)), .mv 5 11])))))) (.s (.r [.ex 4 (.mv (.k (.c (.sc (.int .i64 (.negSucc 0))))))]) .ret)))
theorem c_spec_l2Find_eq : compF Tryz.prog [] 242 = some (c_spec_l2Find.ac, [(.t 4)], 20) := by kernel_rfl
theorem f_l2Find (W0 : World) (t : List Ent) (p : Str) : Fn Tryz.prog W0 242 [eEnts t, CS p] (.c (CI (idx t p))) [] := by
  refine fnX (c := c_spec_l2Find) mixed c_spec_l2Find_eq (by simp) rfl fun hg => ?_
  have g1 := goodRow (hg _ (by simp : eEnts t ∈ _))
  refine dr ?_
  refine lp (σ := Nat) (fun k => [(0, .c (eEnts t)), (1, .c (CS p)), (5, I k)]) (fun _ => []) (fun k => k ≤ t.length ∧ ∀ i (h' : i < t.length), i < k → t[i].path ≠ p) (fun k => t.length - k) 0 ⟨by simp, by simp⟩ ?_ ?_
  · refine dr ?_
    trivial
  rintro k ⟨hk, ha⟩
  refine dr ?_
  refine cP (fun h1 => ?_) (fun h1 => ?_)
  · refine dr ?_
    refine cP (fun h2 => ?_) (fun h2 => ?_)
    · refine dr ?_
      rw [idx_of_first (by omega) h2 ha]
    · refine dr ?_
      refine ⟨k + 1, ⟨by omega, fun i h' hi => ?_⟩, by omega, ?_⟩
      · by_cases e : i = k
        · subst e; exact h2
        · exact ha i h' (by omega)
      · refine dr ?_
        trivial
  · refine dr ?_
    rw [idx_of_none fun i h' => ha i h' (by omega)]; rfl
def c_spec_l2Dir : XC := (.s (.r [.ex 4 (.mv .n)]) (.s (.s (.r [.mv 6 1, .ex 7 (.bin .eql (.t 6) (.s [47]))]) (.cnd (.t 7) (.s (.r [.ex 4 (.mv .y)]) .ret) .skip)) (.s (.r [.mv 8 0, .mv 9 1, .ex 10 (.call 242 [(.t 8), (.t 9)]), .mv 5 10]) (.s (.r [.mv 11 5, .ex 12 (.bin .geq (.t 11) (.i 0)), .mv 13 12, .gt 14 (.mv (.t 0)) 13, .gt 15 (.mv (.t 5)) 13, .gt 16 (.ia 3 (.t 14) (.t 15)) 13, .gt 17 (.fa 1 (.t 16)) 13, .gt 18 (.ld false 1 (.t 17)) 13, .ex 19 (.pick (.t 13) (.t 18) .n), .mv 4 19]) .ret))))
theorem c_spec_l2Dir_eq : compF Tryz.prog [] 166 = some (c_spec_l2Dir.ac, [(.t 4)], 20) := by kernel_rfl
theorem f_l2Dir (W0 : World) (t : List Ent) (p : Str) : Fn Tryz.prog W0 166 [eEnts t, CS p] (.c (CB (isDir t p))) [] := by
  refine fnX (c := c_spec_l2Dir) mixed c_spec_l2Dir_eq (by simp) rfl fun hg => ?_
  refine dr ?_
  refine cP (fun h1 => ?_) (fun h1 => ?_)
  · refine dr ?_
    exact bT (by simp [isDir, get, h1, rootE])
  refine dr ?_
  repeat (refine c0 (f_l2Find W0 t p) rfl ?_; first | refine dr ?_ | exact dz)
  intro hg1
  have hd : isDir t p = match find t p with | some e => e.dir | none => false := by unfold isDir get; rw [if_neg h1]; cases find t p <;> rfl
  rw [hd]
  rcases idx_cases t p with ⟨e1, e2, _⟩ | ⟨j, hj, e1, e2, _⟩
  · rw [e1, e2]
    refine dr ?_
    refine cP (fun h2 => ?_) (fun h2 => ?_)
    · omega
    · exact dz
  · rw [e1, e2]
    refine dr ?_
    refine cP (fun h2 => ?_) (fun h2 => ?_)
    · exact dz
    · omega
def c_spec_l2Get : XC := (.s (.r [.ex 4 (.alloc [(.c (.sc (.string ⟨#[]⟩))), (.c (.sc (.bool false))), (.c (.sc (.string ⟨#[]⟩)))]), .ex 5 (.mv .n)]) (.s (.s (.r [.mv 7 1, .ex 8 (.bin .eql (.t 7) (.s [47]))]) (.cnd (.t 8) (.s (.r [.ex 9 (.build [(.c (.sc (.string ⟨#[]⟩))), (.c (.sc (.bool false))), (.c (.sc (.string ⟨#[]⟩)))] [(0, (1, (.s [47]))), (1, (1, .y))]), .nu (.st 3 (.t 4) (.t 9)), .ex 5 (.mv .y)]) .ret) .skip)) (.s (.r [.mv 10 0, .mv 11 1, .ex 12 (.call 242 [(.t 10), (.t 11)]), .mv 6 12]) (.s (.s (.r [.mv 13 6, .ex 14 (.bin .lss (.t 13) (.i 0))]) (.cnd (.t 14) (.s (.r [.ex 15 (.build [(.c (.sc (.string ⟨#[]⟩))), (.c (.sc (.bool false))), (.c (.sc (.string ⟨#[]⟩)))] []), .nu (.st 3 (.t 4) (.t 15)), .ex 5 (.mv .n)]) .ret) .skip)) (.s (.r [.mv 16 0, .mv 17 6, .ex 18 (.ia 3 (.t 16) (.t 17)), .ex 19 (.ld true 3 (.t 18)), .nu (.st 3 (.t 4) (.t 19)), .ex 5 (.mv .y)]) .ret)))))
theorem c_spec_l2Get_eq : compF Tryz.prog [] 165 = some (c_spec_l2Get.ac, [(.cell 4 true 3), (.t 5)], 20) := by kernel_rfl
theorem f_l2Get (W0 : World) (t : List Ent) (p : Str) : Fn Tryz.prog W0 165 [eEnts t, CS p] (.c (eEntO (get t p))) [] := by
  refine fnX (c := c_spec_l2Get) mixed c_spec_l2Get_eq (by simp) rfl fun hg => ?_
  refine dr ?_
  refine cP (fun h1 => ?_) (fun h1 => ?_)
  · refine dr ?_
    rw [get, if_pos h1]; rfl
  rw [get, if_neg h1]
  refine dr ?_
  repeat (refine c0 (f_l2Find W0 t p) rfl ?_; first | refine dr ?_ | exact dz)
  intro hg1
  rcases idx_cases t p with ⟨e1, e2, _⟩ | ⟨j, hj, e1, e2, _⟩
  · rw [e1, e2]
    refine dr ?_
    refine cP (fun h2 => ?_) (fun h2 => ?_)
    · refine dr ?_
      rfl
    · omega
  · rw [e1, e2]
    refine dr ?_
    refine cP (fun h2 => ?_) (fun h2 => ?_)
    · omega
    · refine dr ?_
      rfl
def c_spec_TreeOk : XC := (.s (.r [.ex 2 (.mv .n)]) (.s (.s (.r [.mv 5 0, .ex 6 (.len false (.t 5)), .ex 7 (.bin .gtr (.t 6) (.i 16))]) (.cnd (.t 7) (.s (.r [.ex 2 (.mv .n)]) .ret) .skip)) (.s (.s (.r [.ex 3 (.mv (.i 0))]) (.blk 0 (.loop (.s (.s (.r [.mv 8 3, .mv 9 0, .ex 10 (.len false (.t 9)), .ex 11 (.bin .lss (.t 8) (.t 10))]) (.cnd (.t 11) .skip (.exit 0))) (.s (.blk 1 (.s (.r [.mv 14 0, .mv 15 3, .ex 16 (.ia 3 (.t 14) (.t 15)), .ex 17 (.ld true 3 (.t 16)), .ex 4 (.alloc [(.c (.sc (.string ⟨#[]⟩))), (.c (.sc (.bool false))), (.c (.sc (.string ⟨#[]⟩)))]), .nu (.st 3 (.t 4) (.t 17))]) (.s (.d [.ex 18 (.fa 0 (.t 4)), .ex 19 (.ld false 1 (.t 18)), .ex 20 (.call 175 [(.t 19)]), .ex 21 (.un .not (.t 20)), .mv 22 21, .gf 23 (.fa 2 (.t 4)) 22, .gf 24 (.ld false 1 (.t 23)) 22, .gf 25 (.call 220 [(.t 24)]) 22, .gf 26 (.un .not (.t 25)) 22, .ex 27 (.pick (.t 22) .y (.t 26)), .mv 28 27, .gf 29 (.fa 1 (.t 4)) 28, .gf 30 (.ld false 1 (.t 29)) 28, .gf 31 (.mv (.t 30)) 28, .gt 32 (.fa 2 (.t 4)) 31, .gt 33 (.ld false 1 (.t 32)) 31, .gt 34 (.bin .neq (.t 33) (.s [])) 31, .gf 35 (.pick (.t 31) (.t 34) .n) 28, .ex 36 (.pick (.t 28) .y (.t 35)), .mv 37 36, .gf 38 (.mv (.t 3)) 37, .gf 39 (.bin .gtr (.t 38) (.i 0)) 37, .gf 40 (.mv (.t 39)) 37, .gt 41 (.mv (.t 0)) 40, .gt 42 (.mv (.t 3)) 40, .gt 43 (.bin .sub (.t 42) (.i 1)) 40, .gt 44 (.ia 3 (.t 41) (.t 43)) 40, .gt 45 (.fa 0 (.t 44)) 40, .gt 46 (.ld false 1 (.t 45)) 40, .gt 47 (.fa 0 (.t 4)) 40, .gt 48 (.ld false 1 (.t 47)) 40, .gt 49 (.bin .geq (.t 46) (.t 48)) 40, .gf 50 (.pick (.t 40) (.t 49) .n) 37, .ex 51 (.pick (.t 37) .y (.t 50)), .mv 52 51, .gf 53 (.mv (.t 0)) 52, .gf 54 (.mv (.t 3)) 52, .gf 55 (.slr 3 (.t 53) .none (.some (.t 54))) 52, .gf 56 (.fa 0 (.t 4)) 52, .gf 57 (.ld false 1 (.t 56)) 52, .gf 58 (.call 167 [(.t 57)]) 52, .gf 59 (.call 166 [(.t 55), (.t 58)]) 52, .gf 60 (.un .not (.t 59)) 52, .ex 61 (.pick (.t 52) .y (.t 60))]) (.cnd (.t 61) (.s (.r [.ex 2 (.mv .n)]) .ret) .skip)))) (.r [.mv 12 3, .ex 13 (.bin .add (.t 12) (.i 1)), .mv 3 13])))))) (.s (.r [.ex 2 (.mv .y)]) .ret))))
theorem c_spec_TreeOk_eq : compF Tryz.prog [] 160 = some (c_spec_TreeOk.ac, [(.t 2)], 62) := by kernel_rfl
theorem f_spec_TreeOk (W0 : World) (t : List Ent) : Fn Tryz.prog W0 160 [eEnts t] (.c (CB (tOk t))) [] := by
  refine fnX (c := c_spec_TreeOk) mixed c_spec_TreeOk_eq (by simp) rfl fun hg => ?_
  have g1 := goodRow (hg _ (by simp : eEnts t ∈ _))
  refine dr ?_
  refine cP (fun h1 => ?_) (fun h1 => ?_)
  · refine dr ?_
    exact bF (by rw [tOk, Bool.and_eq_false_iff]; left; simp; omega)
  have hT : tOk t = okA [] t := by rw [tOk]; simp; omega
  rw [hT]
  refine dr ?_
  refine lp (σ := Nat) (fun k => [(0, .c (eEnts t)), (3, I k)]) (fun _ => []) (fun k => k ≤ t.length ∧ ∀ j (h : j < t.length), j < k → ok1 (t.take j) t[j] = true) (fun k => t.length - k) 0 ⟨by simp, by simp⟩ ?_ ?_
  · refine dr ?_
    trivial
  rintro k ⟨hk, ha⟩
  refine dr ?_
  refine cP (fun h2 => ?_) (fun h2 => ?_)
  rotate_left
  · refine dr ?_
    exact bT (okA0.2 fun j h => ha j h (by omega))
  have hk' : k < t.length := by omega
  have no : ok1 (t.take k) t[k] = false → CB false = CB (okA [] t) := fun h => bF (by
    rw [Bool.eq_false_iff]; intro e
    have := okA0.1 e k hk'
    rw [h] at this; cases this)
  refine dr ?_
  repeat (refine c0 (f_spec_PathOk W0 _) rfl ?_; first | refine dr ?_ | exact dz)
  refine cP (fun h3 => ?_) (fun h3 => ?_)
  · refine dr ?_
    exact no (by simp [ok1, h3])
  refine dr ?_
  repeat (refine c0 (f_l2Data W0 _) rfl ?_; first | refine dr ?_ | exact dz)
  refine cP (fun h4 => ?_) (fun h4 => ?_)
  · refine dr ?_
    exact no (by simp [ok1, h4])
  refine dr ?_
  refine cP (fun h5 => ?_) (fun h5 => ?_)
  · refine dr ?_
    refine cP (fun h6 => ?_) (fun h6 => ?_)
    · refine dr ?_
      exact no (by simp [ok1, h5, h6])
    · have h56 : (!(t[k].dir && t[k].data != [])) = true := by simp [h6]
      clear h5 h6
      refine dr ?_
      refine cP (fun h7 => ?_) (fun h7 => ?_)
      · have hl : (t.take k).getLast? = some t[k - 1] := by
          rw [List.getLast?_take, if_neg (by omega), List.getElem?_eq_getElem (by omega)]
          rfl
        refine dr ?_
        repeat (refine aM (j := k - 1) (by omega) (by omega) ?_; first | refine dr ?_ | exact dz)
        cases h8 : ltS t[k - 1].path t[k].path
        · refine dr ?_
          exact no (by simp [ok1, hl, h8])
        · refine dEr ?_
          repeat ((first | refine sHiM k rfl (by omega) ?_ | refine c0 (f_spec_PathUp W0 _) rfl ?_ | refine c0 (f_l2Dir W0 (t.take k) _) rfl ?_); first | refine dEr ?_ | exact dz)
          refine cP (fun h9 => ?_) (fun h9 => ?_)
          · refine dr ?_
            exact no (by simp [ok1, h9])
          · refine dr ?_
            refine ⟨k + 1, ⟨by omega, fun j h hj => ?_⟩, by omega, ?_⟩
            · by_cases e : j = k
              · subst e; rw [ok1, h3, h4, h56, h9, hl]; simp [h8]
              · exact ha j h (by omega)
            · refine dr ?_
              trivial
      · have hk0 : k = 0 := by omega
        subst hk0
        refine dEr ?_
        repeat ((first | refine sHiM 0 rfl (by omega) ?_ | refine c0 (f_spec_PathUp W0 _) rfl ?_ | refine c0 (f_l2Dir W0 (t.take 0) _) rfl ?_); first | refine dEr ?_ | exact dz)
        refine cP (fun h9 => ?_) (fun h9 => ?_)
        · refine dr ?_
          exact no (by simp only [ok1, h9, Bool.and_false])
        · refine dr ?_
          refine ⟨1, ⟨by omega, fun j h hj => ?_⟩, by omega, ?_⟩
          · have e : j = 0 := by omega
            subst e
            rw [ok1, h3, h4, h56, h9]; rfl
          · refine dr ?_
            trivial
  · have h56 : (!(t[k].dir && t[k].data != [])) = true := by simp [h5]
    clear h5
    refine dr ?_
    refine cP (fun h7 => ?_) (fun h7 => ?_)
    · have hl : (t.take k).getLast? = some t[k - 1] := by
        rw [List.getLast?_take, if_neg (by omega), List.getElem?_eq_getElem (by omega)]
        rfl
      refine dr ?_
      repeat (refine aM (j := k - 1) (by omega) (by omega) ?_; first | refine dr ?_ | exact dz)
      cases h8 : ltS t[k - 1].path t[k].path
      · refine dr ?_
        exact no (by simp [ok1, hl, h8])
      · refine dEr ?_
        repeat ((first | refine sHiM k rfl (by omega) ?_ | refine c0 (f_spec_PathUp W0 _) rfl ?_ | refine c0 (f_l2Dir W0 (t.take k) _) rfl ?_); first | refine dEr ?_ | exact dz)
        refine cP (fun h9 => ?_) (fun h9 => ?_)
        · refine dr ?_
          exact no (by simp [ok1, h9])
        · refine dr ?_
          refine ⟨k + 1, ⟨by omega, fun j h hj => ?_⟩, by omega, ?_⟩
          · by_cases e : j = k
            · subst e; rw [ok1, h3, h4, h56, h9, hl]; simp [h8]
            · exact ha j h (by omega)
          · refine dr ?_
            trivial
    · have hk0 : k = 0 := by omega
      subst hk0
      refine dEr ?_
      repeat ((first | refine sHiM 0 rfl (by omega) ?_ | refine c0 (f_spec_PathUp W0 _) rfl ?_ | refine c0 (f_l2Dir W0 (t.take 0) _) rfl ?_); first | refine dEr ?_ | exact dz)
      refine cP (fun h9 => ?_) (fun h9 => ?_)
      · refine dr ?_
        exact no (by simp only [ok1, h9, Bool.and_false])
      · refine dr ?_
        refine ⟨1, ⟨by omega, fun j h hj => ?_⟩, by omega, ?_⟩
        · have e : j = 0 := by omega
          subst e
          rw [ok1, h3, h4, h56, h9]; rfl
        · refine dr ?_
          trivial
end Go.Proofs.YthblflnfhdnpdaaGreatDoor

namespace Go.Proofs.YthblflnfhdnpdaaGreatDoor
set_option linter.unusedSimpArgs false
set_option linter.unusedVariables false
open Go Go.RowKit
def c_spec_l2Put : XC := (.s (.r [.ex 3 (.box (.t 1)), .ex 4 (.asn (.k .nil) 3 59)]) (.s (.r [.ex 7 .bsl0, .ex 5 (.asn (.t 7) 3 59)]) (.s (.r [.ex 6 (.mv (.i 0))]) (.s (.blk 0 (.loop (.s (.s (.d [.mv 8 6, .mv 9 0, .ex 10 (.len false (.t 9)), .ex 11 (.bin .lss (.t 8) (.t 10)), .mv 12 11, .gt 13 (.mv (.t 0)) 12, .gt 14 (.mv (.t 6)) 12, .gt 15 (.ia 3 (.t 13) (.t 14)) 12, .gt 16 (.fa 0 (.t 15)) 12, .gt 17 (.ld false 1 (.t 16)) 12, .gt 18 (.fa 0 (.t 3)) 12, .gt 19 (.ld false 1 (.t 18)) 12, .gt 20 (.bin .lss (.t 17) (.t 19)) 12, .ex 21 (.pick (.t 12) (.t 20) .n)]) (.cnd (.t 21) .skip (.exit 0))) (.blk 1 (.s (.r [.mv 22 5, .mv 23 0, .mv 24 6, .ex 25 (.ia 3 (.t 23) (.t 24)), .ex 26 (.ld true 3 (.t 25)), .ex 27 (.bsl 3 59 [(.t 26)]), .ex 28 (.app false 3 40 59 (.t 22) (.t 27)), .ex 5 (.asn (.t 28) 3 59)]) (.r [.mv 29 6, .ex 30 (.bin .add (.t 29) (.i 1)), .mv 6 30])))))) (.s (.r [.mv 31 5, .ex 32 (.ld true 3 (.t 3)), .ex 33 (.bsl 3 59 [(.t 32)]), .ex 34 (.app false 3 40 59 (.t 31) (.t 33)), .ex 5 (.asn (.t 34) 3 59)]) (.s (.s (.d [.mv 35 6, .mv 36 0, .ex 37 (.len false (.t 36)), .ex 38 (.bin .lss (.t 35) (.t 37)), .mv 39 38, .gt 40 (.mv (.t 0)) 39, .gt 41 (.mv (.t 6)) 39, .gt 42 (.ia 3 (.t 40) (.t 41)) 39, .gt 43 (.fa 0 (.t 42)) 39, .gt 44 (.ld false 1 (.t 43)) 39, .gt 45 (.fa 0 (.t 3)) 39, .gt 46 (.ld false 1 (.t 45)) 39, .gt 47 (.bin .eql (.t 44) (.t 46)) 39, .ex 48 (.pick (.t 39) (.t 47) .n)]) (.cnd (.t 48) (.r [.mv 49 6, .ex 50 (.bin .add (.t 49) (.i 1)), .mv 6 50]) .skip)) (.s (.r [.mv 51 5, .mv 52 0, .mv 53 6, .ex 54 (.slr 3 (.t 52) (.some (.t 53)) .none), .ex 55 (.app false 3 40 59 (.t 51) (.t 54)), .ex 4 (.asn (.t 55) 3 59)]) .ret)))))))
theorem c_spec_l2Put_eq : compF Tryz.prog [] 239 = some (c_spec_l2Put.ac, [(.t 4)], 56) := by kernel_rfl
theorem f_l2Put (W0 : World) (t : List Ent) (e : Ent) (ht : t.length ≤ 1000000) : Fn Tryz.prog W0 239 [eEnts t, eEnt e] (.c (eEnts (put t e))) [] := by
  refine fnX (c := c_spec_l2Put) mixed c_spec_l2Put_eq (by simp) rfl fun hg => ?_
  refine dr ?_
  refine lp (σ := Nat) (fun k => [(0, .c (eEnts t)), (3, .ptr 48 0), (5, .own 80 k), (6, I k)]) (fun k => [(48, .box [.c (CS e.path), (.c (CB e.dir)), .c (CS e.data)]), (80, .row ((t.take k).map eEnt) 3 59)]) (fun k => k ≤ t.length ∧ (t.take k).all (fun x => ltS x.path e.path) = true) (fun k => t.length - k) 0 ⟨by simp, by simp⟩ ?_ ?_
  · refine dr ?_
    trivial
  rintro k ⟨hk, ha⟩
  refine dr ?_
  refine cP (fun h1 => ?_) (fun h1 => ?_)
  · have hk' : k < t.length := by omega
    refine dr ?_
    refine cP (fun h2 => ?_) (fun h2 => ?_)
    · refine dr ?_
      repeat ((first | refine oB (by simp; omega) ?_ | refine oB (by simp) ?_); first | refine dr ?_ | exact dz)
      refine ⟨k + 1, ⟨by omega, take_all hk' ha h2⟩, by omega, ?_⟩
      refine dr ?_
      repeat ((first | refine oB (by simp; omega) ?_ | refine oB (tmn hk') ?_); first | refine dr ?_ | exact dz)
      trivial
    · refine dr ?_
      repeat ((first | refine oB (by simp; omega) ?_ | refine oB (by simp) ?_); first | refine dr ?_ | exact dz)
      refine cP (fun h3 => ?_) (fun h3 => ?_)
      rotate_left
      · omega
      refine dr ?_
      refine cP (fun h4 => ?_) (fun h4 => ?_)
      · refine dr ?_
        repeat ((first | refine sLoM (k + 1) (by omega) (by omega) ?_ | refine oB (by simp; omega) ?_ | refine oB (by simp) ?_); first | refine dr ?_ | exact dz)
        show _ = eEnts (putG _ t e)
        rw [put_at hk' ha h2 h4]; simp [eEnts]; rfl
      · refine dr ?_
        repeat ((first | refine sLoM k (by omega) (by omega) ?_ | refine oB (by simp; omega) ?_ | refine oB (by simp) ?_); first | refine dr ?_ | exact dz)
        show _ = eEnts (putG _ t e)
        rw [put_in hk' ha h2 h4]; simp [eEnts]; rfl
  · refine dr ?_
    repeat ((first | refine oB (by simp; omega) ?_ | refine oB (by simp) ?_); first | refine dr ?_ | exact dz)
    refine cP (fun h3 => ?_) (fun h3 => ?_)
    · omega
    refine dr ?_
    repeat ((first | refine sLoM k (by omega) (by omega) ?_ | refine oB (by simp; omega) ?_ | refine oB (by simp) ?_); first | refine dr ?_ | exact dz)
    show _ = eEnts (putG _ t e)
    rw [put_end (by omega) ha]
    have : k = t.length := by omega
    simp [eEnts, this]; rfl
def c_spec_l3Put : XC := (.s (.r [.ex 3 (.box (.t 1)), .ex 4 (.asn (.k .nil) 3 49)]) (.s (.r [.ex 7 .bsl0, .ex 5 (.asn (.t 7) 3 49)]) (.s (.r [.ex 6 (.mv (.i 0))]) (.s (.blk 0 (.loop (.s (.s (.d [.mv 8 6, .mv 9 0, .ex 10 (.len false (.t 9)), .ex 11 (.bin .lss (.t 8) (.t 10)), .mv 12 11, .gt 13 (.mv (.t 0)) 12, .gt 14 (.mv (.t 6)) 12, .gt 15 (.ia 3 (.t 13) (.t 14)) 12, .gt 16 (.fa 0 (.t 15)) 12, .gt 17 (.ld false 1 (.t 16)) 12, .gt 18 (.fa 0 (.t 3)) 12, .gt 19 (.ld false 1 (.t 18)) 12, .gt 20 (.bin .lss (.t 17) (.t 19)) 12, .ex 21 (.pick (.t 12) (.t 20) .n)]) (.cnd (.t 21) .skip (.exit 0))) (.blk 1 (.s (.r [.mv 22 5, .mv 23 0, .mv 24 6, .ex 25 (.ia 3 (.t 23) (.t 24)), .ex 26 (.ld true 3 (.t 25)), .ex 27 (.bsl 3 49 [(.t 26)]), .ex 28 (.app false 3 40 49 (.t 22) (.t 27)), .ex 5 (.asn (.t 28) 3 49)]) (.r [.mv 29 6, .ex 30 (.bin .add (.t 29) (.i 1)), .mv 6 30])))))) (.s (.r [.mv 31 5, .ex 32 (.ld true 3 (.t 3)), .ex 33 (.bsl 3 49 [(.t 32)]), .ex 34 (.app false 3 40 49 (.t 31) (.t 33)), .ex 5 (.asn (.t 34) 3 49)]) (.s (.s (.d [.mv 35 6, .mv 36 0, .ex 37 (.len false (.t 36)), .ex 38 (.bin .lss (.t 35) (.t 37)), .mv 39 38, .gt 40 (.mv (.t 0)) 39, .gt 41 (.mv (.t 6)) 39, .gt 42 (.ia 3 (.t 40) (.t 41)) 39, .gt 43 (.fa 0 (.t 42)) 39, .gt 44 (.ld false 1 (.t 43)) 39, .gt 45 (.fa 0 (.t 3)) 39, .gt 46 (.ld false 1 (.t 45)) 39, .gt 47 (.bin .eql (.t 44) (.t 46)) 39, .ex 48 (.pick (.t 39) (.t 47) .n)]) (.cnd (.t 48) (.r [.mv 49 6, .ex 50 (.bin .add (.t 49) (.i 1)), .mv 6 50]) .skip)) (.s (.r [.mv 51 5, .mv 52 0, .mv 53 6, .ex 54 (.slr 3 (.t 52) (.some (.t 53)) .none), .ex 55 (.app false 3 40 49 (.t 51) (.t 54)), .ex 4 (.asn (.t 55) 3 49)]) .ret)))))))
theorem c_spec_l3Put_eq : compF Tryz.prog [] 169 = some (c_spec_l3Put.ac, [(.t 4)], 56) := by kernel_rfl
theorem f_l3Put (W0 : World) (t : List Mark) (e : Mark) (ht : t.length ≤ 1000000) : Fn Tryz.prog W0 169 [eMarks t, eMark e] (.c (eMarks (lput t e))) [] := by
  refine fnX (c := c_spec_l3Put) mixed c_spec_l3Put_eq (by simp) rfl fun hg => ?_
  refine dr ?_
  refine lp (σ := Nat) (fun k => [(0, .c (eMarks t)), (3, .ptr 48 0), (5, .own 80 k), (6, I k)]) (fun k => [(48, .box [.c (CS e.path), (I e.kind), .c (CS e.data)]), (80, .row ((t.take k).map eMark) 3 49)]) (fun k => k ≤ t.length ∧ (t.take k).all (fun x => ltS x.path e.path) = true) (fun k => t.length - k) 0 ⟨by simp, by simp⟩ ?_ ?_
  · refine dr ?_
    trivial
  rintro k ⟨hk, ha⟩
  refine dr ?_
  refine cP (fun h1 => ?_) (fun h1 => ?_)
  · have hk' : k < t.length := by omega
    refine dr ?_
    refine cP (fun h2 => ?_) (fun h2 => ?_)
    · refine dr ?_
      repeat ((first | refine oB (by simp; omega) ?_ | refine oB (by simp) ?_); first | refine dr ?_ | exact dz)
      refine ⟨k + 1, ⟨by omega, take_all hk' ha h2⟩, by omega, ?_⟩
      refine dr ?_
      repeat ((first | refine oB (by simp; omega) ?_ | refine oB (tmn hk') ?_); first | refine dr ?_ | exact dz)
      trivial
    · refine dr ?_
      repeat ((first | refine oB (by simp; omega) ?_ | refine oB (by simp) ?_); first | refine dr ?_ | exact dz)
      refine cP (fun h3 => ?_) (fun h3 => ?_)
      rotate_left
      · omega
      refine dr ?_
      refine cP (fun h4 => ?_) (fun h4 => ?_)
      · refine dr ?_
        repeat ((first | refine sLoM (k + 1) (by omega) (by omega) ?_ | refine oB (by simp; omega) ?_ | refine oB (by simp) ?_); first | refine dr ?_ | exact dz)
        show _ = eMarks (putG _ t e)
        rw [put_at hk' ha h2 h4]; simp [eMarks]; rfl
      · refine dr ?_
        repeat ((first | refine sLoM k (by omega) (by omega) ?_ | refine oB (by simp; omega) ?_ | refine oB (by simp) ?_); first | refine dr ?_ | exact dz)
        show _ = eMarks (putG _ t e)
        rw [put_in hk' ha h2 h4]; simp [eMarks]; rfl
  · refine dr ?_
    repeat ((first | refine oB (by simp; omega) ?_ | refine oB (by simp) ?_); first | refine dr ?_ | exact dz)
    refine cP (fun h3 => ?_) (fun h3 => ?_)
    · omega
    refine dr ?_
    repeat ((first | refine sLoM k (by omega) (by omega) ?_ | refine oB (by simp; omega) ?_ | refine oB (by simp) ?_); first | refine dr ?_ | exact dz)
    show _ = eMarks (putG _ t e)
    rw [put_end (by omega) ha]
    have : k = t.length := by omega
    simp [eMarks, this]; rfl
def c_spec_l2Turned : XC := (.s (.r [.ex 4 (.asn (.k .nil) 1 9)]) (.s (.r [.mv 13 0, .ex 5 (.asn (.t 13) 3 59)]) (.s (.s (.r [.ex 6 (.mv (.i 0))]) (.blk 0 (.loop (.s (.s (.r [.mv 14 6, .mv 15 1, .ex 16 (.len false (.t 15)), .ex 17 (.bin .lss (.t 14) (.t 16))]) (.cnd (.t 17) .skip (.exit 0))) (.s (.blk 1 (.r [.mv 20 5, .mv 21 1, .mv 22 6, .ex 23 (.ia 3 (.t 21) (.t 22)), .ex 24 (.ld true 3 (.t 23)), .ex 25 (.call 239 [(.t 20), (.t 24)]), .ex 5 (.asn (.t 25) 3 59)])) (.r [.mv 18 6, .ex 19 (.bin .add (.t 18) (.i 1)), .mv 6 19])))))) (.s (.r [.ex 26 .bsl0, .ex 7 (.asn (.t 26) 1 9)]) (.s (.s (.r [.ex 8 (.mv (.i 0))]) (.blk 2 (.loop (.s (.s (.r [.mv 27 8, .mv 28 5, .ex 29 (.len false (.t 28)), .ex 30 (.bin .lss (.t 27) (.t 29))]) (.cnd (.t 30) .skip (.exit 2))) (.s (.blk 3 (.s (.r [.mv 34 0, .mv 35 5, .mv 36 8, .ex 37 (.ia 3 (.t 35) (.t 36)), .ex 38 (.fa 0 (.t 37)), .ex 39 (.ld false 1 (.t 38)), .ex 40 (.call 165 [(.t 34), (.t 39)]), .mv 33 40, .ex 41 (.ext (.t 33) 0), .ex 42 (.ext (.t 33) 1), .ex 9 (.alloc [(.c (.sc (.string ⟨#[]⟩))), (.c (.sc (.bool false))), (.c (.sc (.string ⟨#[]⟩)))]), .nu (.st 3 (.t 9) (.t 41)), .mv 10 42]) (.s (.r [.mv 44 1, .mv 45 5, .mv 46 8, .ex 47 (.ia 3 (.t 45) (.t 46)), .ex 48 (.fa 0 (.t 47)), .ex 49 (.ld false 1 (.t 48)), .ex 50 (.call 165 [(.t 44), (.t 49)]), .mv 43 50, .ex 51 (.ext (.t 43) 0), .ex 52 (.ext (.t 43) 1), .ex 11 (.alloc [(.c (.sc (.string ⟨#[]⟩))), (.c (.sc (.bool false))), (.c (.sc (.string ⟨#[]⟩)))]), .nu (.st 3 (.t 11) (.t 51)), .mv 12 52]) (.s (.r [.mv 53 10, .mv 54 12, .ex 55 (.bb true (.t 53) (.t 54)), .mv 56 55, .gf 57 (.ld true 3 (.t 9)) 56, .gf 58 (.ld true 3 (.t 11)) 56, .gf 59 (.beq true [.s, .b, .s] (.t 57) (.t 58)) 56, .ex 60 (.pick (.t 56) .y (.t 59))]) (.cnd (.t 60) (.r [.mv 61 7, .mv 62 5, .mv 63 8, .ex 64 (.ia 3 (.t 62) (.t 63)), .ex 65 (.fa 0 (.t 64)), .ex 66 (.ld false 1 (.t 65)), .ex 67 (.bsl 1 9 [(.t 66)]), .ex 68 (.app false 1 16 9 (.t 61) (.t 67)), .ex 7 (.asn (.t 68) 1 9)]) .skip))))) (.r [.mv 31 8, .ex 32 (.bin .add (.t 31) (.i 1)), .mv 8 32])))))) (.s (.r [.mv 69 7, .ex 4 (.asn (.t 69) 1 9)]) .ret))))))
theorem c_spec_l2Turned_eq : compF Tryz.prog [] 164 = some (c_spec_l2Turned.ac, [(.t 4)], 70) := by kernel_rfl
theorem f_l2Turned (W0 : World) (a b : List Ent) (ht : a.length + b.length ≤ 1000000) : Fn Tryz.prog W0 164 [eEnts a, eEnts b] (.c (eStrs (turned a b))) [] := by
  refine fnX (c := c_spec_l2Turned) mixed c_spec_l2Turned_eq (by simp) rfl fun hg => ?_
  refine dr ?_
  refine lp (σ := Nat) (fun k => [(0, .c (eEnts a)), (1, .c (eEnts b)), (5, .c (eEnts ((b.take k).foldl put a))), (6, I k)]) (fun _ => []) (fun k => k ≤ b.length) (fun k => b.length - k) 0 (by simp) ?_ ?_
  · refine dr ?_
    trivial
  intro k hk
  have hlk : ((b.take k).foldl put a).length ≤ a.length + b.length := fold_put_take b a k
  refine dr ?_
  refine cP (fun h1 => ?_) (fun h1 => ?_)
  · have hk' : k < b.length := by omega
    refine dr ?_
    repeat (refine c0 (f_l2Put W0 _ _ (by omega)) rfl ?_; first | refine dr ?_ | exact dz)
    intro hg1
    refine dr ?_
    refine ⟨k + 1, by omega, by omega, ?_⟩
    refine dr ?_
    repeat (refine oB (by rw [fold_next hk']) ?_; first | refine dr ?_ | exact dz)
    trivial
  have hkl : k = b.length := by omega
  subst hkl
  rw [List.take_length] at hlk ⊢
  have hB : b.foldl put a = both a b := rfl
  rw [hB] at hlk ⊢
  generalize hBB : both a b = B at *
  refine dr ?_
  refine lp (σ := Nat) (fun k => [(0, .c (eEnts a)), (1, .c (eEnts b)), (5, .c (eEnts B)), (8, I k), (7, .own 112 ((B.take k).filter (tudP a b)).length)]) (fun k => [(112, .row (((B.take k).filter (tudP a b)).map fun e => CS e.path) 1 9)]) (fun k => k ≤ B.length) (fun k => B.length - k) 0 (by simp) ?_ ?_
  · refine dr ?_
    trivial
  intro k hk
  have hfl := filt_le (q := tudP a b) (l := B) (k := k)
  refine dr ?_
  refine cP (fun h2 => ?_) (fun h2 => ?_)
  · have hk' : k < B.length := by omega
    refine dr ?_
    repeat ((first | refine c0 (f_l2Get W0 _ _) rfl ?_ | rw [eEntO_eq]); first | refine dr ?_ | exact dz)
    intro hg1
    refine dr ?_
    repeat ((first | refine c0 (f_l2Get W0 _ _) rfl ?_ | rw [eEntO_eq]); first | refine dr ?_ | exact dz)
    intro hg1
    refine dr ?_
    have hq : tudP a b B[k] = !(decide ((get a B[k].path).isSome = (get b B[k].path).isSome) && decide ((get a B[k].path).getD noE = (get b B[k].path).getD noE)) := by
      rw [tudP, Bool.eq_iff_iff]; simp [some_ne (d := noE)]
    refine cP (fun h3 => ?_) (fun h3 => ?_)
    · refine dr ?_
      repeat ((first | refine oB (by simp; omega) ?_ | refine oB (by simp) ?_); first | refine dr ?_ | exact dz)
      have hT : tudP a b B[k] = true := by rw [hq]; simp [h3]
      refine ⟨k + 1, by omega, by omega, ?_⟩
      refine dr ?_
      repeat (refine oB (by rw [filt_t hk' hT]; simp) ?_; first | refine dr ?_ | exact dz)
      trivial
    · refine dr ?_
      refine cP (fun h4 => ?_) (fun h4 => ?_)
      · refine dr ?_
        repeat ((first | refine oB (by simp; omega) ?_ | refine oB (by simp) ?_); first | refine dr ?_ | exact dz)
        have hT : tudP a b B[k] = true := by rw [hq, ← bqEnt, h4]; simp
        refine ⟨k + 1, by omega, by omega, ?_⟩
        refine dr ?_
        repeat (refine oB (by rw [filt_t hk' hT]; simp) ?_; first | refine dr ?_ | exact dz)
        trivial
      · refine dr ?_
        have hT : tudP a b B[k] = false := by rw [hq, ← bqEnt, h4]; simp [h3]
        refine ⟨k + 1, by omega, by omega, ?_⟩
        refine dr ?_
        repeat (refine oB (by rw [filt_f hk' hT]) ?_; first | refine dr ?_ | exact dz)
        trivial
  have hkl : k = B.length := by omega
  refine dr ?_
  repeat (refine oB (by simp) ?_; first | refine dr ?_ | exact dz)
  rw [turned, hBB, hkl, List.take_length]
  simp [eStrs]
end Go.Proofs.YthblflnfhdnpdaaGreatDoor

namespace Go.Proofs.YthblflnfhdnpdaaGreatDoor
set_option linter.unusedSimpArgs false
set_option linter.unusedVariables false
open Go Go.RowKit
def c_spec_OpOk : XC := (.s (.r [.ex 1 (.box (.t 0)), .ex 2 (.mv .n)]) (.s (.s (.r [.ex 3 (.fa 0 (.t 1)), .ex 4 (.ld false 1 (.t 3)), .ex 5 (.bin .lss (.t 4) (.i 1)), .mv 6 5, .gf 7 (.fa 0 (.t 1)) 6, .gf 8 (.ld false 1 (.t 7)) 6, .gf 9 (.bin .gtr (.t 8) (.i 5)) 6, .ex 10 (.pick (.t 6) .y (.t 9)), .mv 11 10, .gf 12 (.fa 1 (.t 1)) 11, .gf 13 (.ld false 1 (.t 12)) 11, .gf 14 (.call 175 [(.t 13)]) 11, .gf 15 (.un .not (.t 14)) 11, .ex 16 (.pick (.t 11) .y (.t 15))]) (.cnd (.t 16) (.s (.r [.ex 2 (.mv .n)]) .ret) .skip)) (.s (.s (.r [.ex 17 (.fa 0 (.t 1)), .ex 18 (.ld false 1 (.t 17)), .ex 19 (.bin .eql (.t 18) (.i 5))]) (.cnd (.t 19) (.s (.r [.ex 20 (.fa 2 (.t 1)), .ex 21 (.ld false 1 (.t 20)), .ex 22 (.call 175 [(.t 21)]), .mv 23 22, .gt 24 (.fa 3 (.t 1)) 23, .gt 25 (.ld false 1 (.t 24)) 23, .gt 26 (.bin .eql (.t 25) (.s [])) 23, .ex 27 (.pick (.t 23) (.t 26) .n), .mv 2 27]) .ret) .skip)) (.s (.r [.ex 28 (.fa 2 (.t 1)), .ex 29 (.ld false 1 (.t 28)), .ex 30 (.bin .eql (.t 29) (.s [])), .mv 31 30, .gt 32 (.fa 3 (.t 1)) 31, .gt 33 (.ld false 1 (.t 32)) 31, .gt 34 (.call 220 [(.t 33)]) 31, .ex 35 (.pick (.t 31) (.t 34) .n), .mv 36 35, .gt 37 (.fa 0 (.t 1)) 36, .gt 38 (.ld false 1 (.t 37)) 36, .gt 39 (.bin .eql (.t 38) (.i 2)) 36, .gt 40 (.mv (.t 39)) 36, .gf 41 (.fa 3 (.t 1)) 40, .gf 42 (.ld false 1 (.t 41)) 40, .gf 43 (.bin .eql (.t 42) (.s [])) 40, .gt 44 (.pick (.t 40) .y (.t 43)) 36, .ex 45 (.pick (.t 36) (.t 44) .n), .mv 2 45]) .ret))))
theorem c_spec_OpOk_eq : compF Tryz.prog [] 161 = some (c_spec_OpOk.ac, [(.t 2)], 46) := by kernel_rfl
theorem f_spec_OpOk (W0 : World) (op : Op) : Fn Tryz.prog W0 161 [eOp op] (.c (CB (opOkB op))) [] := by
  refine fnX (c := c_spec_OpOk) mixed c_spec_OpOk_eq (by simp) rfl fun hg => ?_
  refine dr ?_
  refine cP (fun h1 => ?_) (fun h1 => ?_)
  · refine dr ?_
    exact bF (by simp [opOkB]; omega)
  refine dr ?_
  refine cP (fun h2 => ?_) (fun h2 => ?_)
  · refine dr ?_
    exact bF (by simp [opOkB]; omega)
  refine dr ?_
  repeat (refine c0 (f_spec_PathOk W0 _) rfl ?_; first | refine dr ?_ | exact dz)
  refine cP (fun h3 => ?_) (fun h3 => ?_)
  · refine dr ?_
    exact bF (by simp [opOkB, h3])
  have hk : (decide (1 ≤ op.kind) && decide (op.kind ≤ 5)) = true := by simp; omega
  refine dr ?_
  refine cP (fun h4 => ?_) (fun h4 => ?_)
  · refine dEr ?_
    repeat (refine c0 (f_spec_PathOk W0 _) rfl ?_; first | refine dEr ?_ | exact dz)
    have e : opOkB op = (pOk op.dest && op.data == []) := by rw [opOkB, hk, h3, if_pos h4] <;> rfl
    rw [e]
    refine cP (fun h5 => ?_) (fun h5 => ?_)
    · refine dr ?_
      refine congrArg CB ?_
      rw [Bool.eq_iff_iff]; simp [h5, eqS_d]
    · refine dr ?_
      exact bF (by simp [h5])
  have e : opOkB op = (op.dest == [] && (dataOk op.data && (op.kind == 2 || op.data == []))) := by rw [opOkB, hk, h3, if_neg h4] <;> rfl
  rw [e]
  refine dr ?_
  refine cP (fun h5 => ?_) (fun h5 => ?_)
  · refine dEr ?_
    repeat (refine c0 (f_l2Data W0 _) rfl ?_; first | refine dEr ?_ | exact dz)
    refine cP (fun h6 => ?_) (fun h6 => ?_)
    · refine dr ?_
      refine cP (fun h7 => ?_) (fun h7 => ?_)
      · refine dr ?_
        exact bT (by simp [h5, h6, h7])
      · refine dr ?_
        refine congrArg CB ?_
        rw [Bool.eq_iff_iff]; simp [h5, h6, h7, eqS_d]
    · refine dr ?_
      exact bF (by simp [h6])
  · refine dr ?_
    exact bF (by simp [h5])
def c_spec_l2Kids : XC := (.s (.r [.ex 4 (.asn (.k .nil) 1 9)]) (.s (.r [.ex 7 .bsl0, .ex 5 (.asn (.t 7) 1 9)]) (.s (.s (.r [.ex 6 (.mv (.i 0))]) (.blk 0 (.loop (.s (.s (.r [.mv 8 6, .mv 9 0, .ex 10 (.len false (.t 9)), .ex 11 (.bin .lss (.t 8) (.t 10))]) (.cnd (.t 11) .skip (.exit 0))) (.s (.blk 1 (.s (.r [.mv 14 0, .mv 15 6, .ex 16 (.ia 3 (.t 14) (.t 15)), .ex 17 (.fa 0 (.t 16)), .ex 18 (.ld false 1 (.t 17)), .ex 19 (.call 167 [(.t 18)]), .mv 20 1, .ex 21 (.bin .eql (.t 19) (.t 20))]) (.cnd (.t 21) (.r [.mv 22 5, .mv 23 0, .mv 24 6, .ex 25 (.ia 3 (.t 23) (.t 24)), .ex 26 (.fa 0 (.t 25)), .ex 27 (.ld false 1 (.t 26)), .ex 28 (.call 309 [(.t 27)]), .ex 29 (.bsl 1 9 [(.t 28)]), .ex 30 (.app false 1 16 9 (.t 22) (.t 29)), .ex 5 (.asn (.t 30) 1 9)]) .skip))) (.r [.mv 12 6, .ex 13 (.bin .add (.t 12) (.i 1)), .mv 6 13])))))) (.s (.r [.mv 31 5, .ex 4 (.asn (.t 31) 1 9)]) .ret))))
theorem c_spec_l2Kids_eq : compF Tryz.prog [] 278 = some (c_spec_l2Kids.ac, [(.t 4)], 32) := by kernel_rfl
theorem f_l2Kids (W0 : World) (t : List Ent) (p : Str) (ht : t.length ≤ 1000000) : Fn Tryz.prog W0 278 [eEnts t, CS p] (.c (eStrs (kids t p))) [] := by
  refine fnX (c := c_spec_l2Kids) mixed c_spec_l2Kids_eq (by simp) rfl fun hg => ?_
  refine dr ?_
  refine lp2 (fun (k : Nat) (out : List Ent) => [(0, .c (eEnts t)), (1, .c (CS p)), (5, .own 80 out.length), (6, I k)]) (fun _ out => [(80, .row (out.map fun e => CS (pName e.path)) 1 9)]) (fun k out => k ≤ t.length ∧ out = (t.take k).filter (fun e => pUp e.path == p) ∧ out.length ≤ k) (fun k _ => t.length - k) 0 [] ⟨by simp, rfl, by simp⟩ ?_ ?_
  · refine dr ?_
    trivial
  rintro k out ⟨hk, ho, hle⟩
  refine dr ?_
  refine cP (fun h1 => ?_) (fun h1 => ?_)
  · have hk' : k < t.length := by omega
    refine dEr ?_
    repeat (refine c0 (f_spec_PathUp W0 _) rfl ?_; first | refine dEr ?_ | exact dz)
    refine cP (fun h2 => ?_) (fun h2 => ?_)
    · refine dEr ?_
      repeat ((first | refine c0 (f_spec_PathName W0 _) rfl ?_ | refine oB (by simp; omega) ?_ | refine oB (by simp) ?_); first | refine dEr ?_ | exact dz)
      refine ⟨k + 1, out ++ [t[k]], ⟨by omega, by rw [filt_t hk' (by simp [h2]), ho], by simp; omega⟩, by omega, ?_⟩
      refine dr ?_
      repeat (refine oB (by simp <;> rfl) ?_; first | refine dr ?_ | exact dz)
      trivial
    · refine dr ?_
      refine ⟨k + 1, out, ⟨by omega, by rw [filt_f hk' (by simp [h2]), ho], by omega⟩, by omega, ?_⟩
      refine dr ?_
      trivial
  have hkl : k = t.length := by omega
  rw [hkl, List.take_length] at ho
  refine dr ?_
  repeat (refine oB (by simp) ?_; first | refine dr ?_ | exact dz)
  rw [kids, ← ho]; simp [eStrs]
def c_spec_l2Up : XC := (.s (.r [.ex 4 (.mv (.i 0))]) (.s (.r [.mv 8 0, .mv 9 1, .ex 10 (.call 167 [(.t 9)]), .ex 11 (.call 165 [(.t 8), (.t 10)]), .mv 7 11, .ex 12 (.ext (.t 7) 0), .ex 13 (.ext (.t 7) 1), .ex 5 (.alloc [(.c (.sc (.string ⟨#[]⟩))), (.c (.sc (.bool false))), (.c (.sc (.string ⟨#[]⟩)))]), .nu (.st 3 (.t 5) (.t 12)), .mv 6 13]) (.s (.blk 0 (.s (.r [.mv 15 6, .ex 16 (.un .not (.t 15)), .mv 14 16]) (.cnd (.t 14) (.s (.r [.ex 4 (.mv (.i 2))]) .ret) (.s (.r [.ex 18 (.fa 1 (.t 5)), .ex 19 (.ld false 1 (.t 18)), .ex 20 (.un .not (.t 19)), .mv 17 20]) (.cnd (.t 17) (.s (.r [.ex 4 (.mv (.i 3))]) .ret) .skip))))) (.s (.r [.ex 4 (.mv (.i 0))]) .ret))))
theorem c_spec_l2Up_eq : compF Tryz.prog [] 276 = some (c_spec_l2Up.ac, [(.t 4)], 21) := by kernel_rfl
theorem f_l2Up (W0 : World) (t : List Ent) (p : Str) : Fn Tryz.prog W0 276 [eEnts t, CS p] (.c (CI (upC t p))) [] := by
  refine fnX (c := c_spec_l2Up) mixed c_spec_l2Up_eq (by simp) rfl fun hg => ?_
  have hc := f_l2Get W0 t (pUp p)
  cases hx : get t (pUp p) with
  | none =>
    rw [hx] at hc
    refine dEr ?_
    repeat ((first | refine c0 (f_spec_PathUp W0 _) rfl ?_ | refine c0 hc rfl ?_); first | refine dEr ?_ | exact dz)
    rw [upC, hx] <;> rfl
  | some e =>
    rw [hx] at hc
    refine dEr ?_
    repeat ((first | refine c0 (f_spec_PathUp W0 _) rfl ?_ | refine c0 hc rfl ?_); first | refine dEr ?_ | exact dz)
    refine cP (fun h1 => ?_) (fun h1 => ?_)
    · refine dr ?_
      rw [upC, hx]; exact congrArg CI (by simp [h1])
    · refine dr ?_
      rw [upC, hx]; exact congrArg CI (by simp [h1])
def c_spec_l2New : XC := (.s (.r [.ex 4 (.mv (.i 0))]) (.s (.r [.mv 8 0, .mv 9 1, .ex 10 (.call 276 [(.t 8), (.t 9)]), .mv 5 10]) (.s (.r [.mv 12 0, .mv 13 1, .ex 14 (.call 165 [(.t 12), (.t 13)]), .mv 11 14, .ex 15 (.ext (.t 11) 0), .ex 16 (.ext (.t 11) 1), .ex 6 (.alloc [(.c (.sc (.string ⟨#[]⟩))), (.c (.sc (.bool false))), (.c (.sc (.string ⟨#[]⟩)))]), .nu (.st 3 (.t 6) (.t 15)), .mv 7 16]) (.s (.blk 0 (.s (.r [.mv 18 5, .ex 19 (.bin .neq (.t 18) (.i 0)), .mv 17 19]) (.cnd (.t 17) (.s (.r [.mv 20 5, .mv 4 20]) .ret) (.s (.r [.mv 22 7, .mv 21 22]) (.cnd (.t 21) (.s (.r [.ex 4 (.mv (.i 4))]) .ret) (.s (.r [.mv 24 0, .ex 25 (.len false (.t 24)), .ex 26 (.bin .geq (.t 25) (.i 16)), .mv 23 26]) (.cnd (.t 23) (.s (.r [.ex 4 (.mv (.i 8))]) .ret) .skip))))))) (.s (.r [.ex 4 (.mv (.i 0))]) .ret)))))
theorem c_spec_l2New_eq : compF Tryz.prog [] 235 = some (c_spec_l2New.ac, [(.t 4)], 27) := by kernel_rfl
theorem f_l2New (W0 : World) (t : List Ent) (p : Str) : Fn Tryz.prog W0 235 [eEnts t, CS p] (.c (CI (newC t p))) [] := by
  refine fnX (c := c_spec_l2New) mixed c_spec_l2New_eq (by simp) rfl fun hg => ?_
  have hc := f_l2Get W0 t p
  rw [eEntO_eq] at hc
  refine dEr ?_
  repeat ((first | refine c0 (f_l2Up W0 _ _) rfl ?_ | refine c0 hc rfl ?_); first | refine dEr ?_ | exact dz)
  refine cP (fun h1 => ?_) (fun h1 => ?_)
  · refine dr ?_
    rw [newC, if_pos h1]
  have h1' : ¬ upC t p ≠ 0 := fun h => h h1
  refine dr ?_
  refine cP (fun h2 => ?_) (fun h2 => ?_)
  · refine dr ?_
    rw [newC, if_neg h1', if_pos h2] <;> rfl
  have h2' : ¬ (get t p).isSome = true := by simp [h2]
  refine dr ?_
  refine cP (fun h3 => ?_) (fun h3 => ?_)
  · refine dr ?_
    rw [newC, if_neg h1', if_neg h2', if_pos (by omega)] <;> rfl
  · refine dr ?_
    rw [newC, if_neg h1', if_neg h2', if_neg (by omega)] <;> rfl
def c_spec_l2PutCode : XC := (.s (.r [.ex 4 (.mv (.i 0))]) (.s (.r [.mv 8 0, .mv 9 1, .ex 10 (.call 235 [(.t 8), (.t 9)]), .mv 5 10]) (.s (.r [.mv 12 0, .mv 13 1, .ex 14 (.call 165 [(.t 12), (.t 13)]), .mv 11 14, .ex 15 (.ext (.t 11) 0), .ex 16 (.ext (.t 11) 1), .ex 6 (.alloc [(.c (.sc (.string ⟨#[]⟩))), (.c (.sc (.bool false))), (.c (.sc (.string ⟨#[]⟩)))]), .nu (.st 3 (.t 6) (.t 15)), .mv 7 16]) (.s (.s (.r [.mv 17 5, .ex 18 (.bin .eql (.t 17) (.i 4)), .mv 19 18, .gt 20 (.fa 1 (.t 6)) 19, .gt 21 (.ld false 1 (.t 20)) 19, .ex 22 (.pick (.t 19) (.t 21) .n)]) (.cnd (.t 22) (.s (.r [.ex 4 (.mv (.i 5))]) .ret) .skip)) (.s (.s (.r [.mv 23 5, .ex 24 (.bin .eql (.t 23) (.i 4))]) (.cnd (.t 24) (.s (.r [.ex 4 (.mv (.i 0))]) .ret) .skip)) (.s (.r [.mv 25 5, .mv 4 25]) .ret))))))
theorem c_spec_l2PutCode_eq : compF Tryz.prog [] 236 = some (c_spec_l2PutCode.ac, [(.t 4)], 26) := by kernel_rfl
theorem f_l2PutCode (W0 : World) (t : List Ent) (p : Str) : Fn Tryz.prog W0 236 [eEnts t, CS p] (.c (CI (putC t p))) [] := by
  refine fnX (c := c_spec_l2PutCode) mixed c_spec_l2PutCode_eq (by simp) rfl fun hg => ?_
  have hc := f_l2Get W0 t p
  rw [eEntO_eq] at hc
  refine dEr ?_
  repeat ((first | refine c0 (f_l2New W0 _ _) rfl ?_ | refine c0 hc rfl ?_); first | refine dEr ?_ | exact dz)
  refine cP (fun h1 => ?_) (fun h1 => ?_)
  · refine dr ?_
    refine cP (fun h2 => ?_) (fun h2 => ?_)
    · refine dr ?_
      rw [putC, if_pos h1, if_pos h2] <;> rfl
    · refine dr ?_
      refine cP (fun h3 => ?_) (fun h3 => ?_)
      · refine dr ?_
        rw [putC, if_pos h1, if_neg (by simp [h2])] <;> rfl
      · exact absurd h1 h3
  · refine dr ?_
    refine cP (fun h3 => ?_) (fun h3 => ?_)
    · exact absurd h3 h1
    · refine dr ?_
      rw [putC, if_neg h1]
def c_spec_l2OffCode : XC := (.s (.r [.ex 3 (.box (.t 1)), .ex 4 (.mv (.i 0))]) (.s (.r [.mv 8 0, .ex 9 (.fa 1 (.t 3)), .ex 10 (.ld false 1 (.t 9)), .ex 11 (.call 165 [(.t 8), (.t 10)]), .mv 7 11, .ex 12 (.ext (.t 7) 0), .ex 13 (.ext (.t 7) 1), .ex 5 (.alloc [(.c (.sc (.string ⟨#[]⟩))), (.c (.sc (.bool false))), (.c (.sc (.string ⟨#[]⟩)))]), .nu (.st 3 (.t 5) (.t 12)), .mv 6 13]) (.s (.blk 0 (.s (.r [.mv 15 6, .ex 16 (.un .not (.t 15)), .mv 14 16]) (.cnd (.t 14) (.s (.r [.ex 4 (.mv (.i 2))]) .ret) (.s (.r [.ex 18 (.fa 0 (.t 3)), .ex 19 (.ld false 1 (.t 18)), .ex 20 (.bin .eql (.t 19) (.i 3)), .mv 21 20, .gt 22 (.fa 1 (.t 5)) 21, .gt 23 (.ld false 1 (.t 22)) 21, .ex 24 (.pick (.t 21) (.t 23) .n), .mv 17 24]) (.cnd (.t 17) (.s (.r [.ex 4 (.mv (.i 5))]) .ret) (.s (.r [.ex 26 (.fa 0 (.t 3)), .ex 27 (.ld false 1 (.t 26)), .ex 28 (.bin .eql (.t 27) (.i 4)), .mv 29 28, .gt 30 (.fa 1 (.t 5)) 29, .gt 31 (.ld false 1 (.t 30)) 29, .gt 32 (.un .not (.t 31)) 29, .ex 33 (.pick (.t 29) (.t 32) .n), .mv 25 33]) (.cnd (.t 25) (.s (.r [.ex 4 (.mv (.i 3))]) .ret) (.s (.r [.mv 35 0, .ex 36 (.fa 1 (.t 3)), .ex 37 (.ld false 1 (.t 36)), .ex 38 (.call 278 [(.t 35), (.t 37)]), .ex 39 (.len false (.t 38)), .ex 40 (.bin .gtr (.t 39) (.i 0)), .mv 34 40]) (.cnd (.t 34) (.s (.r [.ex 4 (.mv (.i 6))]) .ret) .skip))))))))) (.s (.r [.ex 4 (.mv (.i 0))]) .ret))))
theorem c_spec_l2OffCode_eq : compF Tryz.prog [] 238 = some (c_spec_l2OffCode.ac, [(.t 4)], 41) := by kernel_rfl
theorem f_l2OffCode (W0 : World) (t : List Ent) (op : Op) (ht : t.length ≤ 1000000) : Fn Tryz.prog W0 238 [eEnts t, eOp op] (.c (CI (offC t op))) [] := by
  refine fnX (c := c_spec_l2OffCode) mixed c_spec_l2OffCode_eq (by simp) rfl fun hg => ?_
  have hc := f_l2Get W0 t op.path
  cases hx : get t op.path with
  | none =>
    rw [hx] at hc
    refine dEr ?_
    repeat (refine c0 hc rfl ?_; first | refine dEr ?_ | exact dz)
    rw [offC, hx] <;> rfl
  | some e =>
    rw [hx] at hc
    have e0 : offC t op = if op.kind = 3 ∧ e.dir = true then 5 else if op.kind = 4 ∧ e.dir = false then 3 else if 0 < (kids t op.path).length then 6 else 0 := by rw [offC, hx]
    rw [e0]
    have rest : ∀ {A : Prop}, A → A := fun a => a
    refine dEr ?_
    repeat (refine c0 hc rfl ?_; first | refine dEr ?_ | exact dz)
    refine cP (fun h1 => ?_) (fun h1 => ?_)
    · refine dr ?_
      refine cP (fun h2 => ?_) (fun h2 => ?_)
      · refine dr ?_
        rw [if_pos ⟨h1, h2⟩] <;> rfl
      · have n1 : ¬ (op.kind = 3 ∧ e.dir = true) := by simp [h2]
        have n2 : ¬ (op.kind = 4 ∧ e.dir = false) := by omega
        rw [if_neg n1, if_neg n2]
        refine dr ?_
        refine cP (fun h3 => ?_) (fun h3 => ?_)
        · omega
        · refine dEr ?_
          repeat (refine c0 (f_l2Kids W0 _ _ ht) rfl ?_; first | refine dEr ?_ | exact dz)
          refine cP (fun h4 => ?_) (fun h4 => ?_)
          · refine dr ?_
            rw [if_pos (by omega)] <;> rfl
          · refine dr ?_
            rw [if_neg (by omega)] <;> rfl
    · have n1 : ¬ (op.kind = 3 ∧ e.dir = true) := fun h => h1 h.1
      rw [if_neg n1]
      refine dr ?_
      refine cP (fun h3 => ?_) (fun h3 => ?_)
      · refine dr ?_
        refine cP (fun h2 => ?_) (fun h2 => ?_)
        · refine dr ?_
          rw [if_pos ⟨h3, by simpa using h2⟩] <;> rfl
        · rw [if_neg (fun h => by rw [h.2] at h2; simp at h2)]
          refine dEr ?_
          repeat (refine c0 (f_l2Kids W0 _ _ ht) rfl ?_; first | refine dEr ?_ | exact dz)
          refine cP (fun h4 => ?_) (fun h4 => ?_)
          · refine dr ?_
            rw [if_pos (by omega)] <;> rfl
          · refine dr ?_
            rw [if_neg (by omega)] <;> rfl
      · rw [if_neg (fun h => h3 h.1)]
        refine dEr ?_
        repeat (refine c0 (f_l2Kids W0 _ _ ht) rfl ?_; first | refine dEr ?_ | exact dz)
        refine cP (fun h4 => ?_) (fun h4 => ?_)
        · refine dr ?_
          rw [if_pos (by omega)] <;> rfl
        · refine dr ?_
          rw [if_neg (by omega)] <;> rfl
def c_spec_l2MoveCode : XC := (.s (.r [.ex 3 (.box (.t 1)), .ex 4 (.mv (.i 0))]) (.s (.r [.mv 14 0, .ex 15 (.fa 1 (.t 3)), .ex 16 (.ld false 1 (.t 15)), .ex 17 (.call 165 [(.t 14), (.t 16)]), .mv 13 17, .ex 18 (.ext (.t 13) 0), .ex 19 (.ext (.t 13) 1), .ex 5 (.alloc [(.c (.sc (.string ⟨#[]⟩))), (.c (.sc (.bool false))), (.c (.sc (.string ⟨#[]⟩)))]), .nu (.st 3 (.t 5) (.t 18)), .mv 6 19]) (.s (.r [.mv 20 0, .ex 21 (.fa 2 (.t 3)), .ex 22 (.ld false 1 (.t 21)), .ex 23 (.call 276 [(.t 20), (.t 22)]), .mv 7 23]) (.s (.r [.mv 25 0, .ex 26 (.fa 2 (.t 3)), .ex 27 (.ld false 1 (.t 26)), .ex 28 (.call 165 [(.t 25), (.t 27)]), .mv 24 28, .ex 29 (.ext (.t 24) 0), .ex 30 (.ext (.t 24) 1), .ex 8 (.alloc [(.c (.sc (.string ⟨#[]⟩))), (.c (.sc (.bool false))), (.c (.sc (.string ⟨#[]⟩)))]), .nu (.st 3 (.t 8) (.t 29)), .mv 9 30]) (.s (.blk 0 (.s (.r [.mv 32 6, .ex 33 (.un .not (.t 32)), .mv 31 33]) (.cnd (.t 31) (.s (.r [.ex 4 (.mv (.i 2))]) .ret) (.s (.r [.mv 35 7, .ex 36 (.bin .neq (.t 35) (.i 0)), .mv 34 36]) (.cnd (.t 34) (.s (.r [.mv 37 7, .mv 4 37]) .ret) (.s (.r [.mv 39 9, .mv 38 39]) (.cnd (.t 38) (.s (.r [.ex 4 (.mv (.i 4))]) .ret) (.s (.r [.ex 41 (.fa 2 (.t 3)), .ex 42 (.ld false 1 (.t 41)), .ex 43 (.fa 1 (.t 3)), .ex 44 (.ld false 1 (.t 43)), .ex 45 (.call 270 [(.t 42), (.t 44)]), .mv 40 45]) (.cnd (.t 40) (.s (.r [.ex 4 (.mv (.i 7))]) .ret) .skip))))))))) (.s (.s (.r [.ex 10 (.mv (.i 0))]) (.blk 1 (.loop (.s (.s (.r [.mv 46 10, .mv 47 0, .ex 48 (.len false (.t 47)), .ex 49 (.bin .lss (.t 46) (.t 48))]) (.cnd (.t 49) .skip (.exit 1))) (.s (.blk 2 (.s (.d [.mv 53 0, .mv 54 10, .ex 55 (.ia 3 (.t 53) (.t 54)), .ex 56 (.fa 0 (.t 55)), .ex 57 (.ld false 1 (.t 56)), .ex 58 (.fa 1 (.t 3)), .ex 59 (.ld false 1 (.t 58)), .ex 60 (.fa 2 (.t 3)), .ex 61 (.ld false 1 (.t 60)), .ex 62 (.call 277 [(.t 57), (.t 59), (.t 61)]), .mv 52 62, .ex 63 (.ext (.t 52) 0), .ex 64 (.ext (.t 52) 1), .mv 11 63, .mv 12 64]) (.s (.r [.mv 65 12, .ex 66 (.un .not (.t 65))]) (.cnd (.t 66) (.s (.r [.ex 4 (.mv (.i 8))]) .ret) .skip)))) (.r [.mv 50 10, .ex 51 (.bin .add (.t 50) (.i 1)), .mv 10 51])))))) (.s (.r [.ex 4 (.mv (.i 0))]) .ret)))))))
theorem c_spec_l2MoveCode_eq : compF Tryz.prog [] 237 = some (c_spec_l2MoveCode.ac, [(.t 4)], 67) := by kernel_rfl
theorem f_l2MoveCode (W0 : World) (t : List Ent) (op : Op) (ht : t.length ≤ 1000000) : Fn Tryz.prog W0 237 [eEnts t, eOp op] (.c (CI (movC t op))) [] := by
  refine fnX (c := c_spec_l2MoveCode) mixed c_spec_l2MoveCode_eq (by simp) rfl fun hg => ?_
  have hc := f_l2Get W0 t op.path
  rw [eEntO_eq] at hc
  have hc2 := f_l2Get W0 t op.dest
  rw [eEntO_eq] at hc2
  refine dEr ?_
  repeat ((first | refine c0 hc rfl ?_ | refine c0 hc2 rfl ?_ | refine c0 (f_l2Up W0 _ _) rfl ?_); first | refine dEr ?_ | exact dz)
  refine cP (fun h1 => ?_) (fun h1 => ?_)
  rotate_left
  · have h1' : (get t op.path).isSome = true := by simpa using h1
    refine dr ?_
    refine cP (fun h2 => ?_) (fun h2 => ?_)
    · refine dr ?_
      rw [movC, if_neg (by simp [h1']), if_pos h2]
    have h2' : ¬ upC t op.dest ≠ 0 := fun h => h h2
    refine dr ?_
    refine cP (fun h3 => ?_) (fun h3 => ?_)
    · refine dr ?_
      rw [movC, if_neg (by simp [h1']), if_neg h2', if_pos h3] <;> rfl
    refine dEr ?_
    repeat (refine c0 (f_l1Under W0 _ _) rfl ?_; first | refine dEr ?_ | exact dz)
    refine cP (fun h4 => ?_) (fun h4 => ?_)
    · refine dr ?_
      rw [movC, if_neg (by simp [h1']), if_neg h2', if_neg (by simp [h3]), if_pos h4] <;> rfl
    have e : movC t op = if t.all (fun e => (pMove e.path op.path op.dest).isSome) = true then 0 else 8 := by rw [movC, if_neg (by simp [h1']), if_neg h2', if_neg (by simp [h3]), if_neg (by simp [h4])]
    rw [e]
    refine dr ?_
    refine lp (σ := Nat) (fun k => [(0, .c (eEnts t)), (3, .ptr 48 0), (10, I k)]) (fun _ => [(48, .box [.c (CI op.kind), .c (CS op.path), .c (CS op.dest), .c (CS op.data)])]) (fun k => k ≤ t.length ∧ (t.take k).all (fun e => (pMove e.path op.path op.dest).isSome) = true) (fun k => t.length - k) 0 ⟨by simp, by simp⟩ ?_ ?_
    · refine dr ?_
      trivial
    rintro k ⟨hk, ha⟩
    refine dr ?_
    refine cP (fun h5 => ?_) (fun h5 => ?_)
    · have hk' : k < t.length := by omega
      have hp := f_spec_PathMove W0 t[k].path op.path op.dest
      rw [eOpt_eq] at hp
      refine dEr ?_
      repeat (refine c0 hp rfl ?_; first | refine dEr ?_ | exact dz)
      refine cP (fun h6 => ?_) (fun h6 => ?_)
      · refine dr ?_
        rw [if_neg (by rw [all_no hk' (by simpa using h6)]; simp)] <;> rfl
      · refine dr ?_
        refine ⟨k + 1, ⟨by omega, take_all hk' ha (by simpa using h6)⟩, by omega, ?_⟩
        refine dr ?_
        trivial
    · have hkl : k = t.length := by omega
      rw [hkl, List.take_length] at ha
      refine dr ?_
      rw [if_pos ha] <;> rfl
  · refine dr ?_
    rw [movC, if_pos (by simpa using h1)] <;> rfl
def c_spec_l2Code : XC := (.s (.r [.ex 3 (.box (.t 1)), .ex 4 (.mv (.i 0))]) (.s (.s (.r [.ex 5 (.fa 0 (.t 3)), .ex 6 (.ld false 1 (.t 5))]) (.blk 0 (.s (.r [.ex 8 (.bin .eql (.t 6) (.i 1)), .mv 7 8]) (.cnd (.t 7) (.s (.r [.mv 9 0, .ex 10 (.fa 1 (.t 3)), .ex 11 (.ld false 1 (.t 10)), .ex 12 (.call 235 [(.t 9), (.t 11)]), .mv 4 12]) .ret) (.s (.r [.ex 14 (.bin .eql (.t 6) (.i 2)), .mv 13 14]) (.cnd (.t 13) (.s (.r [.mv 15 0, .ex 16 (.fa 1 (.t 3)), .ex 17 (.ld false 1 (.t 16)), .ex 18 (.call 236 [(.t 15), (.t 17)]), .mv 4 18]) .ret) (.s (.r [.ex 20 (.bin .eql (.t 6) (.i 5)), .mv 19 20]) (.cnd (.t 19) (.s (.r [.mv 21 0, .ex 22 (.ld true 4 (.t 3)), .ex 23 (.call 237 [(.t 21), (.t 22)]), .mv 4 23]) .ret) .skip)))))))) (.s (.r [.mv 24 0, .ex 25 (.ld true 4 (.t 3)), .ex 26 (.call 238 [(.t 24), (.t 25)]), .mv 4 26]) .ret)))
theorem c_spec_l2Code_eq : compF Tryz.prog [] 162 = some (c_spec_l2Code.ac, [(.t 4)], 27) := by kernel_rfl
theorem f_l2Code (W0 : World) (t : List Ent) (op : Op) (ht : t.length ≤ 1000000) : Fn Tryz.prog W0 162 [eEnts t, eOp op] (.c (CI (codeT t op))) [] := by
  refine fnX (c := c_spec_l2Code) mixed c_spec_l2Code_eq (by simp) rfl fun hg => ?_
  refine dr ?_
  refine cP (fun h1 => ?_) (fun h1 => ?_)
  · refine dEr ?_
    repeat (refine c0 (f_l2New W0 _ _) rfl ?_; first | refine dEr ?_ | exact dz)
    rw [codeT, if_pos h1]
  refine dr ?_
  refine cP (fun h2 => ?_) (fun h2 => ?_)
  · refine dEr ?_
    repeat (refine c0 (f_l2PutCode W0 _ _) rfl ?_; first | refine dEr ?_ | exact dz)
    rw [codeT, if_neg h1, if_pos h2]
  refine dr ?_
  refine cP (fun h3 => ?_) (fun h3 => ?_)
  · refine dEr ?_
    repeat (refine c0 (f_l2MoveCode W0 _ op ht) rfl ?_; first | refine dEr ?_ | exact dz)
    rw [codeT, if_neg h1, if_neg h2, if_pos h3]
  refine dEr ?_
  repeat (refine c0 (f_l2OffCode W0 _ op ht) rfl ?_; first | refine dEr ?_ | exact dz)
  rw [codeT, if_neg h1, if_neg h2, if_neg h3]
end Go.Proofs.YthblflnfhdnpdaaGreatDoor

namespace Go.Proofs.YthblflnfhdnpdaaGreatDoor
set_option linter.unusedSimpArgs false
set_option linter.unusedVariables false
open Go Go.RowKit
def c_spec_l2Off : XC := (.s (.r [.ex 4 (.asn (.k .nil) 3 59)]) (.s (.r [.ex 7 .bsl0, .ex 5 (.asn (.t 7) 3 59)]) (.s (.s (.r [.ex 6 (.mv (.i 0))]) (.blk 0 (.loop (.s (.s (.r [.mv 8 6, .mv 9 0, .ex 10 (.len false (.t 9)), .ex 11 (.bin .lss (.t 8) (.t 10))]) (.cnd (.t 11) .skip (.exit 0))) (.s (.blk 1 (.s (.r [.mv 14 0, .mv 15 6, .ex 16 (.ia 3 (.t 14) (.t 15)), .ex 17 (.fa 0 (.t 16)), .ex 18 (.ld false 1 (.t 17)), .mv 19 1, .ex 20 (.bin .neq (.t 18) (.t 19))]) (.cnd (.t 20) (.r [.mv 21 5, .mv 22 0, .mv 23 6, .ex 24 (.ia 3 (.t 22) (.t 23)), .ex 25 (.ld true 3 (.t 24)), .ex 26 (.bsl 3 59 [(.t 25)]), .ex 27 (.app false 3 40 59 (.t 21) (.t 26)), .ex 5 (.asn (.t 27) 3 59)]) .skip))) (.r [.mv 12 6, .ex 13 (.bin .add (.t 12) (.i 1)), .mv 6 13])))))) (.s (.r [.mv 28 5, .ex 4 (.asn (.t 28) 3 59)]) .ret))))
theorem c_spec_l2Off_eq : compF Tryz.prog [] 241 = some (c_spec_l2Off.ac, [(.t 4)], 29) := by kernel_rfl
theorem f_l2Off (W0 : World) (t : List Ent) (p : Str) (ht : t.length ≤ 1000000) : Fn Tryz.prog W0 241 [eEnts t, CS p] (.c (eEnts (offT t p))) [] := by
  refine fnX (c := c_spec_l2Off) mixed c_spec_l2Off_eq (by simp) rfl fun hg => ?_
  refine dr ?_
  refine lp2 (fun (k : Nat) (out : List Ent) => [(0, .c (eEnts t)), (1, .c (CS p)), (5, .own 80 out.length), (6, I k)]) (fun _ out => [(80, .row (out.map eEnt) 3 59)]) (fun k out => k ≤ t.length ∧ out = (t.take k).filter (fun e => e.path != p) ∧ out.length ≤ k) (fun k _ => t.length - k) 0 [] ⟨by simp, rfl, by simp⟩ ?_ ?_
  · refine dr ?_
    trivial
  rintro k out ⟨hk, ho, hle⟩
  refine dr ?_
  refine cP (fun h1 => ?_) (fun h1 => ?_)
  · have hk' : k < t.length := by omega
    refine dr ?_
    refine cP (fun h2 => ?_) (fun h2 => ?_)
    · refine dr ?_
      repeat ((first | refine oB (by simp; omega) ?_ | refine oB (by simp) ?_); first | refine dr ?_ | exact dz)
      refine ⟨k + 1, out ++ [t[k]], ⟨by omega, by rw [filt_t hk' (by simp [h2]), ho], by simp; omega⟩, by omega, ?_⟩
      refine dr ?_
      repeat (refine oB (by simp <;> rfl) ?_; first | refine dr ?_ | exact dz)
      trivial
    · refine dr ?_
      refine ⟨k + 1, out, ⟨by omega, by rw [filt_f hk' (by simp [h2]), ho], by omega⟩, by omega, ?_⟩
      refine dr ?_
      trivial
  have hkl : k = t.length := by omega
  rw [hkl, List.take_length] at ho
  refine dr ?_
  repeat (refine oB (by simp) ?_; first | refine dr ?_ | exact dz)
  rw [offT, ← ho] <;> rfl
def c_spec_l2Move : XC := (.s (.r [.ex 6 (.asn (.k .nil) 3 59)]) (.s (.r [.ex 10 .bsl0, .ex 7 (.asn (.t 10) 3 59)]) (.s (.s (.r [.ex 8 (.mv (.i 0))]) (.blk 0 (.loop (.s (.s (.r [.mv 11 8, .mv 12 0, .ex 13 (.len false (.t 12)), .ex 14 (.bin .lss (.t 11) (.t 13))]) (.cnd (.t 14) .skip (.exit 0))) (.s (.blk 1 (.s (.r [.mv 17 0, .mv 18 8, .ex 19 (.ia 3 (.t 17) (.t 18)), .ex 20 (.ld true 3 (.t 19)), .ex 9 (.alloc [(.c (.sc (.string ⟨#[]⟩))), (.c (.sc (.bool false))), (.c (.sc (.string ⟨#[]⟩)))]), .nu (.st 3 (.t 9) (.t 20))]) (.s (.r [.ex 22 (.fa 0 (.t 9)), .ex 23 (.ld false 1 (.t 22)), .mv 24 1, .mv 25 2, .ex 26 (.call 277 [(.t 23), (.t 24), (.t 25)]), .mv 21 26, .ex 27 (.ext (.t 21) 0), .ex 28 (.ext (.t 21) 1), .ex 29 (.fa 0 (.t 9)), .nu (.st 1 (.t 29) (.t 27))]) (.r [.mv 30 7, .ex 31 (.ld true 3 (.t 9)), .ex 32 (.call 239 [(.t 30), (.t 31)]), .ex 7 (.asn (.t 32) 3 59)])))) (.r [.mv 15 8, .ex 16 (.bin .add (.t 15) (.i 1)), .mv 8 16])))))) (.s (.r [.mv 33 7, .ex 6 (.asn (.t 33) 3 59)]) .ret))))
theorem c_spec_l2Move_eq : compF Tryz.prog [] 240 = some (c_spec_l2Move.ac, [(.t 6)], 34) := by kernel_rfl
theorem f_l2Move (W0 : World) (t : List Ent) (f to : Str) (ht : t.length ≤ 1000000) : Fn Tryz.prog W0 240 [eEnts t, CS f, CS to] (.c (eEnts (movT t f to))) [] := by
  refine fnX (c := c_spec_l2Move) mixed c_spec_l2Move_eq (by simp) rfl fun hg => ?_
  refine dr ?_
  refine lz2 112 (fun (k : Nat) (out : List Ent) => [(0, .c (eEnts t)), (1, .c (CS f)), (2, .c (CS to)), (7, .c (eEnts out)), (8, I k)]) (fun _ _ => []) (fun k out => k ≤ t.length ∧ out = (t.take k).foldl (fun out e => put out (movE f to e)) [] ∧ out.length ≤ k) (fun k _ => t.length - k) 0 [] ⟨by simp, rfl, by simp⟩ ?_ ?_
  · refine dr ?_
    trivial
  rintro k out ⟨hk, ho, hle⟩
  refine dr ?_
  refine cP (fun h1 => ?_) (fun h1 => ?_)
  · have hk' : k < t.length := by omega
    have hn : (t.take (k + 1)).foldl (fun out e => put out (movE f to e)) [] = put out (movE f to t[k]) := by rw [fold_next hk', ← ho]
    have hpl : (put out (movE f to t[k])).length ≤ out.length + 1 := putG_len
    have hp := f_spec_PathMove W0 t[k].path f to
    rw [eOpt_eq] at hp
    refine dEr ?_
    repeat ((first | refine c0 hp rfl ?_ | refine c0 (f_l2Put W0 _ (movE f to t[k]) (by omega)) rfl ?_); first | refine dEr ?_ | exact dz)
    refine ⟨k + 1, _, ⟨by omega, hn.symm, by omega⟩, by omega, ?_⟩
    refine dr ?_
    trivial
  have hkl : k = t.length := by omega
  rw [hkl, List.take_length] at ho
  refine dr ?_
  rw [movT, ← ho]
def c_spec_l2Do : XC := (.s (.r [.ex 3 (.box (.t 1)), .ex 4 (.asn (.k .nil) 3 59)]) (.s (.s (.r [.ex 5 (.fa 0 (.t 3)), .ex 6 (.ld false 1 (.t 5))]) (.blk 0 (.s (.r [.ex 8 (.bin .eql (.t 6) (.i 1)), .mv 7 8]) (.cnd (.t 7) (.s (.r [.mv 9 0, .ex 10 (.fa 1 (.t 3)), .ex 11 (.ld false 1 (.t 10)), .ex 12 (.build [(.c (.sc (.string ⟨#[]⟩))), (.c (.sc (.bool false))), (.c (.sc (.string ⟨#[]⟩)))] [(0, (1, (.t 11))), (1, (1, .y))]), .ex 13 (.call 239 [(.t 9), (.t 12)]), .ex 4 (.asn (.t 13) 3 59)]) .ret) (.s (.r [.ex 15 (.bin .eql (.t 6) (.i 2)), .mv 14 15]) (.cnd (.t 14) (.s (.r [.mv 16 0, .ex 17 (.fa 1 (.t 3)), .ex 18 (.ld false 1 (.t 17)), .ex 19 (.fa 3 (.t 3)), .ex 20 (.ld false 1 (.t 19)), .ex 21 (.build [(.c (.sc (.string ⟨#[]⟩))), (.c (.sc (.bool false))), (.c (.sc (.string ⟨#[]⟩)))] [(0, (1, (.t 18))), (2, (1, (.t 20)))]), .ex 22 (.call 239 [(.t 16), (.t 21)]), .ex 4 (.asn (.t 22) 3 59)]) .ret) (.s (.r [.ex 24 (.bin .eql (.t 6) (.i 5)), .mv 23 24]) (.cnd (.t 23) (.s (.r [.mv 25 0, .ex 26 (.fa 1 (.t 3)), .ex 27 (.ld false 1 (.t 26)), .ex 28 (.fa 2 (.t 3)), .ex 29 (.ld false 1 (.t 28)), .ex 30 (.call 240 [(.t 25), (.t 27), (.t 29)]), .ex 4 (.asn (.t 30) 3 59)]) .ret) .skip)))))))) (.s (.r [.mv 31 0, .ex 32 (.fa 1 (.t 3)), .ex 33 (.ld false 1 (.t 32)), .ex 34 (.call 241 [(.t 31), (.t 33)]), .ex 4 (.asn (.t 34) 3 59)]) .ret)))
theorem c_spec_l2Do_eq : compF Tryz.prog [] 163 = some (c_spec_l2Do.ac, [(.t 4)], 35) := by kernel_rfl
theorem f_l2Do (W0 : World) (t : List Ent) (op : Op) (ht : t.length ≤ 100000) : Fn Tryz.prog W0 163 [eEnts t, eOp op] (.c (eEnts (doT t op))) [] := by
  refine fnX (c := c_spec_l2Do) mixed c_spec_l2Do_eq (by simp) rfl fun hg => ?_
  refine dr ?_
  refine cP (fun h1 => ?_) (fun h1 => ?_)
  · refine dEr ?_
    repeat (refine c0 (f_l2Put W0 _ ⟨op.path, true, []⟩ (by omega)) rfl ?_; first | refine dEr ?_ | exact dz)
    rw [doT, if_pos h1]
  refine dr ?_
  refine cP (fun h2 => ?_) (fun h2 => ?_)
  · refine dEr ?_
    repeat (refine c0 (f_l2Put W0 _ ⟨op.path, false, op.data⟩ (by omega)) rfl ?_; first | refine dEr ?_ | exact dz)
    rw [doT, if_neg h1, if_pos h2]
  refine dr ?_
  refine cP (fun h3 => ?_) (fun h3 => ?_)
  · refine dEr ?_
    repeat (refine c0 (f_l2Move W0 _ _ _ (by omega)) rfl ?_; first | refine dEr ?_ | exact dz)
    rw [doT, if_neg h1, if_neg h2, if_pos h3]
  refine dEr ?_
  repeat (refine c0 (f_l2Off W0 _ _ (by omega)) rfl ?_; first | refine dEr ?_ | exact dz)
  rw [doT, if_neg h1, if_neg h2, if_neg h3]
def c_spec_TreeDo : XC := (.s (.r [.ex 3 (.box (.t 1)), .ex 4 (.asn (.k .nil) 3 59), .ex 5 (.mv (.i 0))]) (.s (.s (.r [.mv 7 0, .ex 8 (.call 160 [(.t 7)]), .ex 9 (.un .not (.t 8))]) (.cnd (.t 9) (.s (.r [.ex 10 .bsl0, .ex 4 (.asn (.t 10) 3 59), .ex 5 (.mv (.i 1))]) .ret) .skip)) (.s (.s (.r [.ex 11 (.ld true 4 (.t 3)), .ex 12 (.call 161 [(.t 11)]), .ex 13 (.un .not (.t 12))]) (.cnd (.t 13) (.s (.r [.ex 14 .bsl0, .mv 15 0, .ex 16 (.app true 3 40 59 (.t 14) (.t 15)), .ex 4 (.asn (.t 16) 3 59), .ex 5 (.mv (.i 1))]) .ret) .skip)) (.s (.r [.mv 17 0, .ex 18 (.ld true 4 (.t 3)), .ex 19 (.call 162 [(.t 17), (.t 18)]), .mv 6 19]) (.s (.s (.r [.mv 20 6, .ex 21 (.bin .neq (.t 20) (.i 0))]) (.cnd (.t 21) (.s (.r [.ex 22 .bsl0, .mv 23 0, .ex 24 (.app true 3 40 59 (.t 22) (.t 23)), .mv 25 6, .ex 4 (.asn (.t 24) 3 59), .mv 5 25]) .ret) .skip)) (.s (.r [.mv 26 0, .ex 27 (.ld true 4 (.t 3)), .ex 28 (.call 163 [(.t 26), (.t 27)]), .mv 29 6, .ex 4 (.asn (.t 28) 3 59), .mv 5 29]) .ret))))))
theorem c_spec_TreeDo_eq : compF Tryz.prog [] 70 = some (c_spec_TreeDo.ac, [(.t 4), (.t 5)], 30) := by kernel_rfl
theorem f_spec_TreeDo (W0 : World) (t : List Ent) (op : Op) : Fn Tryz.prog W0 70 [eEnts t, eOp op] (.c (eTD (treeDo t op))) [] := by
  refine fnX (c := c_spec_TreeDo) mixed c_spec_TreeDo_eq (by simp) rfl fun hg => ?_
  refine dEr ?_
  repeat (refine c0 (f_spec_TreeOk W0 _) rfl ?_; first | refine dEr ?_ | exact dz)
  refine cP (fun h1 => ?_) (fun h1 => ?_)
  · refine dr ?_
    repeat (refine oB (by simp) ?_; first | refine dr ?_ | exact dz)
    rw [treeDo, if_neg (by simp [h1])] <;> rfl
  have hl := (tOk_at h1).1
  rw [treeDo, if_pos h1]
  refine dEr ?_
  repeat (refine c0 (f_spec_OpOk W0 op) rfl ?_; first | refine dEr ?_ | exact dz)
  refine cP (fun h2 => ?_) (fun h2 => ?_)
  · refine dr ?_
    repeat ((first | refine oB (by simp; omega) ?_ | refine oB (by simp) ?_); first | refine dr ?_ | exact dz)
    rw [if_neg (by simp [h2])] <;> rfl
  rw [if_pos h2]
  refine dEr ?_
  repeat (refine c0 (f_l2Code W0 t op (by omega)) rfl ?_; first | refine dEr ?_ | exact dz)
  refine cP (fun h3 => ?_) (fun h3 => ?_)
  · refine dr ?_
    repeat ((first | refine oB (by simp; omega) ?_ | refine oB (by simp) ?_); first | refine dr ?_ | exact dz)
    rw [if_neg h3] <;> rfl
  · refine dEr ?_
    repeat (refine c0 (f_l2Do W0 t op (by omega)) rfl ?_; first | refine dEr ?_ | exact dz)
    rw [if_pos h3, h3] <;> rfl
end Go.Proofs.YthblflnfhdnpdaaGreatDoor

namespace Go.Proofs.YthblflnfhdnpdaaGreatDoor
set_option linter.unusedSimpArgs false
set_option linter.unusedVariables false
open Go Go.RowKit
def c_spec_l3Find : XC := (.s (.r [.ex 4 (.mv (.i 0))]) (.s (.s (.r [.ex 5 (.mv (.i 0))]) (.blk 0 (.loop (.s (.s (.r [.mv 6 5, .mv 7 0, .ex 8 (.len false (.t 7)), .ex 9 (.bin .lss (.t 6) (.t 8))]) (.cnd (.t 9) .skip (.exit 0))) (.s (.blk 1 (.s (.r [.mv 12 0, .mv 13 5, .ex 14 (.ia 3 (.t 12) (.t 13)), .ex 15 (.fa 0 (.t 14)), .ex 16 (.ld false 1 (.t 15)), .mv 17 1, .ex 18 (.bin .eql (.t 16) (.t 17))]) (.cnd (.t 18) (.s (.r [.mv 19 5, .mv 4 19]) .ret) .skip))) (.r [.mv 10 5, .ex 11 (.bin .add (.t 10) (.i 1)), .mv 5 11])))))) (.s (.r [.ex 4 (.mv (.k (.c (.sc (.int .i64 (.negSucc 0))))))]) .ret)))
theorem c_spec_l3Find_eq : compF Tryz.prog [] 271 = some (c_spec_l3Find.ac, [(.t 4)], 20) := by kernel_rfl
theorem f_l3Find (W0 : World) (t : List Mark) (p : Str) : Fn Tryz.prog W0 271 [eMarks t, CS p] (.c (CI (midx t p))) [] := by
  refine fnX (c := c_spec_l3Find) mixed c_spec_l3Find_eq (by simp) rfl fun hg => ?_
  have g1 := goodRow (hg _ (by simp : eMarks t ∈ _))
  refine dr ?_
  refine lp (σ := Nat) (fun k => [(0, .c (eMarks t)), (1, .c (CS p)), (5, I k)]) (fun _ => []) (fun k => k ≤ t.length ∧ ∀ i (h' : i < t.length), i < k → t[i].path ≠ p) (fun k => t.length - k) 0 ⟨by simp, by simp⟩ ?_ ?_
  · refine dr ?_
    trivial
  rintro k ⟨hk, ha⟩
  refine dr ?_
  refine cP (fun h1 => ?_) (fun h1 => ?_)
  · refine dr ?_
    refine cP (fun h2 => ?_) (fun h2 => ?_)
    · refine dr ?_
      rw [midx_of_first (by omega) h2 ha]
    · refine dr ?_
      refine ⟨k + 1, ⟨by omega, fun i h' hi => ?_⟩, by omega, ?_⟩
      · by_cases e : i = k
        · subst e; exact h2
        · exact ha i h' (by omega)
      · refine dr ?_
        trivial
  · refine dr ?_
    rw [midx_of_none fun i h' => ha i h' (by omega)]; rfl
def c_spec_l3Kind : XC := (.s (.r [.ex 4 (.mv (.i 0))]) (.s (.r [.mv 6 0, .mv 7 1, .ex 8 (.call 271 [(.t 6), (.t 7)]), .mv 5 8]) (.s (.s (.r [.mv 9 5, .ex 10 (.bin .lss (.t 9) (.i 0))]) (.cnd (.t 10) (.s (.r [.ex 4 (.mv (.i 0))]) .ret) .skip)) (.s (.r [.mv 11 0, .mv 12 5, .ex 13 (.ia 3 (.t 11) (.t 12)), .ex 14 (.fa 1 (.t 13)), .ex 15 (.ld false 1 (.t 14)), .mv 4 15]) .ret))))
theorem c_spec_l3Kind_eq : compF Tryz.prog [] 224 = some (c_spec_l3Kind.ac, [(.t 4)], 16) := by kernel_rfl
theorem f_l3Kind (W0 : World) (t : List Mark) (p : Str) : Fn Tryz.prog W0 224 [eMarks t, CS p] (.c (CI (kind t p))) [] := by
  refine fnX (c := c_spec_l3Kind) mixed c_spec_l3Kind_eq (by simp) rfl fun hg => ?_
  refine dr ?_
  repeat (refine c0 (f_l3Find W0 t p) rfl ?_; first | refine dr ?_ | exact dz)
  intro hg1
  rcases midx_cases t p with ⟨e1, e2, _⟩ | ⟨j, hj, e1, e2, _⟩
  · rw [kind, e1, e2]
    refine dr ?_
    refine cP (fun h2 => ?_) (fun h2 => ?_)
    · exact dz
    · omega
  · rw [kind, e1, e2]
    refine dr ?_
    refine cP (fun h2 => ?_) (fun h2 => ?_)
    · omega
    · exact dz
def c_spec_l3Bare : XC := (.s (.r [.ex 4 (.mv .n)]) (.s (.s (.r [.ex 5 (.mv (.i 0))]) (.blk 0 (.loop (.s (.s (.r [.mv 6 5, .mv 7 0, .ex 8 (.len false (.t 7)), .ex 9 (.bin .lss (.t 6) (.t 8))]) (.cnd (.t 9) .skip (.exit 0))) (.s (.blk 1 (.s (.r [.mv 12 0, .mv 13 5, .ex 14 (.ia 3 (.t 12) (.t 13)), .ex 15 (.fa 1 (.t 14)), .ex 16 (.ld false 1 (.t 15)), .ex 17 (.bin .eql (.t 16) (.i 4)), .mv 18 17, .gt 19 (.mv (.t 1)) 18, .gt 20 (.mv (.t 0)) 18, .gt 21 (.mv (.t 5)) 18, .gt 22 (.ia 3 (.t 20) (.t 21)) 18, .gt 23 (.fa 0 (.t 22)) 18, .gt 24 (.ld false 1 (.t 23)) 18, .gt 25 (.call 270 [(.t 19), (.t 24)]) 18, .ex 26 (.pick (.t 18) (.t 25) .n)]) (.cnd (.t 26) (.s (.r [.ex 4 (.mv .y)]) .ret) .skip))) (.r [.mv 10 5, .ex 11 (.bin .add (.t 10) (.i 1)), .mv 5 11])))))) (.s (.r [.ex 4 (.mv .n)]) .ret)))
theorem c_spec_l3Bare_eq : compF Tryz.prog [] 222 = some (c_spec_l3Bare.ac, [(.t 4)], 27) := by kernel_rfl
theorem f_l3Bare (W0 : World) (t : List Mark) (p : Str) : Fn Tryz.prog W0 222 [eMarks t, CS p] (.c (CB (bare t p))) [] := by
  refine fnX (c := c_spec_l3Bare) mixed c_spec_l3Bare_eq (by simp) rfl fun hg => ?_
  have g1 := goodRow (hg _ (by simp : eMarks t ∈ _))
  refine dr ?_
  refine lp (σ := Nat) (fun k => [(0, .c (eMarks t)), (1, .c (CS p)), (5, I k)]) (fun _ => []) (fun k => k ≤ t.length ∧ bare (t.take k) p = false) (fun k => t.length - k) 0 ⟨by simp, by simp [bare]⟩ ?_ ?_
  · refine dr ?_
    trivial
  rintro k ⟨hk, ha⟩
  refine dr ?_
  refine cP (fun h1 => ?_) (fun h1 => ?_)
  · have hk' : k < t.length := by omega
    have no : (t[k].kind == 4 && und p t[k].path) = false → bare (t.take (k + 1)) p = false := fun h => by
      rw [bare] at ha ⊢
      rw [List.take_succ_eq_append_getElem hk', List.any_append, ha]; simpa using h
    have yes : (t[k].kind == 4 && und p t[k].path) = true → CB true = CB (bare t p) := fun h => bT (by
      rw [bare, List.any_eq_true]; exact ⟨t[k], List.getElem_mem hk', h⟩)
    refine dr ?_
    refine cP (fun h2 => ?_) (fun h2 => ?_)
    · refine dEr ?_
      repeat (refine c0 (f_l1Under W0 _ _) rfl ?_; first | refine dEr ?_ | exact dz)
      refine cP (fun h3 => ?_) (fun h3 => ?_)
      · refine dr ?_
        exact yes (by simp [h2, h3])
      · refine dr ?_
        refine ⟨k + 1, ⟨by omega, no (by simp [h3])⟩, by omega, ?_⟩
        refine dr ?_
        trivial
    · refine dr ?_
      refine ⟨k + 1, ⟨by omega, no (by simp [h2])⟩, by omega, ?_⟩
      refine dr ?_
      trivial
  · refine dr ?_
    have : k = t.length := by omega
    subst this
    rw [List.take_length] at ha
    rw [ha]
def c_spec_l3In : XC := (.s (.r [.ex 4 (.mv .n)]) (.s (.r [.mv 7 1, .ex 8 (.call 167 [(.t 7)]), .mv 5 8]) (.s (.r [.mv 9 0, .mv 10 5, .ex 11 (.call 224 [(.t 9), (.t 10)]), .mv 6 11]) (.s (.r [.mv 12 5, .ex 13 (.bin .eql (.t 12) (.s [47])), .mv 14 13, .gf 15 (.mv (.t 6)) 14, .gf 16 (.bin .eql (.t 15) (.i 2)) 14, .ex 17 (.pick (.t 14) .y (.t 16)), .mv 18 17, .gf 19 (.mv (.t 6)) 18, .gf 20 (.bin .eql (.t 19) (.i 4)) 18, .ex 21 (.pick (.t 18) .y (.t 20)), .mv 4 21]) .ret))))
theorem c_spec_l3In_eq : compF Tryz.prog [] 221 = some (c_spec_l3In.ac, [(.t 4)], 22) := by kernel_rfl
theorem f_l3In (W0 : World) (t : List Mark) (p : Str) : Fn Tryz.prog W0 221 [eMarks t, CS p] (.c (CB (inD t p))) [] := by
  refine fnX (c := c_spec_l3In) mixed c_spec_l3In_eq (by simp) rfl fun hg => ?_
  refine dr ?_
  repeat (refine c0 (f_spec_PathUp W0 _) rfl ?_; first | refine dr ?_ | exact dz)
  intro hg1
  refine dr ?_
  repeat (refine c0 (f_l3Kind W0 _ _) rfl ?_; first | refine dr ?_ | exact dz)
  intro hg1
  refine dr ?_
  refine cP (fun h1 => ?_) (fun h1 => ?_)
  · refine dr ?_
    exact bT (by simp [inD, h1])
  · refine dr ?_
    refine cP (fun h2 => ?_) (fun h2 => ?_)
    · refine dr ?_
      exact bT (by simp [inD, h2])
    · refine dr ?_
      refine congrArg CB ?_
      rw [Bool.eq_iff_iff]; simp [inD, h1, h2, eqI_d]
def c_spec_l3Hides : XC := (.s (.r [.ex 4 (.mv .n)]) (.s (.s (.r [.ex 5 (.mv (.i 0))]) (.blk 0 (.loop (.s (.s (.r [.mv 6 5, .mv 7 0, .ex 8 (.len false (.t 7)), .ex 9 (.bin .lss (.t 6) (.t 8))]) (.cnd (.t 9) .skip (.exit 0))) (.s (.blk 1 (.s (.r [.mv 12 0, .mv 13 5, .ex 14 (.ia 3 (.t 12) (.t 13)), .ex 15 (.fa 0 (.t 14)), .ex 16 (.ld false 1 (.t 15)), .mv 17 1, .ex 18 (.bin .eql (.t 16) (.t 17)), .mv 19 18, .gt 20 (.mv (.t 0)) 19, .gt 21 (.mv (.t 5)) 19, .gt 22 (.ia 3 (.t 20) (.t 21)) 19, .gt 23 (.fa 1 (.t 22)) 19, .gt 24 (.ld false 1 (.t 23)) 19, .gt 25 (.bin .neq (.t 24) (.i 2)) 19, .ex 26 (.pick (.t 19) (.t 25) .n), .mv 27 26, .gf 28 (.mv (.t 0)) 27, .gf 29 (.mv (.t 5)) 27, .gf 30 (.ia 3 (.t 28) (.t 29)) 27, .gf 31 (.fa 1 (.t 30)) 27, .gf 32 (.ld false 1 (.t 31)) 27, .gf 33 (.bin .neq (.t 32) (.i 2)) 27, .gf 34 (.mv (.t 33)) 27, .gt 35 (.mv (.t 1)) 34, .gt 36 (.mv (.t 0)) 34, .gt 37 (.mv (.t 5)) 34, .gt 38 (.ia 3 (.t 36) (.t 37)) 34, .gt 39 (.fa 0 (.t 38)) 34, .gt 40 (.ld false 1 (.t 39)) 34, .gt 41 (.call 270 [(.t 35), (.t 40)]) 34, .gf 42 (.pick (.t 34) (.t 41) .n) 27, .ex 43 (.pick (.t 27) .y (.t 42))]) (.cnd (.t 43) (.s (.r [.ex 4 (.mv .y)]) .ret) .skip))) (.r [.mv 10 5, .ex 11 (.bin .add (.t 10) (.i 1)), .mv 5 11])))))) (.s (.r [.ex 4 (.mv .n)]) .ret)))
theorem c_spec_l3Hides_eq : compF Tryz.prog [] 223 = some (c_spec_l3Hides.ac, [(.t 4)], 44) := by kernel_rfl
theorem f_l3Hides (W0 : World) (t : List Mark) (p : Str) : Fn Tryz.prog W0 223 [eMarks t, CS p] (.c (CB (hides t p))) [] := by
  refine fnX (c := c_spec_l3Hides) mixed c_spec_l3Hides_eq (by simp) rfl fun hg => ?_
  have g1 := goodRow (hg _ (by simp : eMarks t ∈ _))
  refine dr ?_
  refine lp (σ := Nat) (fun k => [(0, .c (eMarks t)), (1, .c (CS p)), (5, I k)]) (fun _ => []) (fun k => k ≤ t.length ∧ hides (t.take k) p = false) (fun k => t.length - k) 0 ⟨by simp, by simp [hides]⟩ ?_ ?_
  · refine dr ?_
    trivial
  rintro k ⟨hk, ha⟩
  refine dr ?_
  refine cP (fun h1 => ?_) (fun h1 => ?_)
  · have hk' : k < t.length := by omega
    have no : hidP p t[k] = false → hides (t.take (k + 1)) p = false := fun h => by
      rw [hides] at ha ⊢
      rw [List.take_succ_eq_append_getElem hk', List.any_append, ha]; simpa using h
    have yes : hidP p t[k] = true → CB true = CB (hides t p) := fun h => bT (by
      rw [hides, List.any_eq_true]; exact ⟨t[k], List.getElem_mem hk', h⟩)
    refine dr ?_
    have nx : hidP p t[k] = false → ∃ x', (x' ≤ t.length ∧ hides (t.take x') p = false) ∧ x' = k + 1 := fun h => ⟨k + 1, ⟨by omega, no h⟩, rfl⟩
    refine cP (fun h2 => ?_) (fun h2 => ?_)
    · refine dr ?_
      refine cP (fun h3 => ?_) (fun h3 => ?_)
      · refine dr ?_
        exact yes (by simp [hidP, h2, h3])
      · refine dr ?_
        refine cP (fun h4 => ?_) (fun h4 => ?_)
        · omega
        · refine dr ?_
          refine ⟨k + 1, ⟨by omega, no (by simp [hidP, h3])⟩, by omega, ?_⟩
          refine dr ?_
          trivial
    · refine dr ?_
      refine cP (fun h3 => ?_) (fun h3 => ?_)
      · refine dEr ?_
        repeat (refine c0 (f_l1Under W0 _ _) rfl ?_; first | refine dEr ?_ | exact dz)
        refine cP (fun h5 => ?_) (fun h5 => ?_)
        · refine dr ?_
          exact yes (by simp [hidP, h3, h5])
        · refine dr ?_
          refine ⟨k + 1, ⟨by omega, no (by simp [hidP, h2, h5])⟩, by omega, ?_⟩
          refine dr ?_
          trivial
      · refine dr ?_
        refine ⟨k + 1, ⟨by omega, no (by simp [hidP, h3])⟩, by omega, ?_⟩
        refine dr ?_
        trivial
  · refine dr ?_
    have : k = t.length := by omega
    subst this
    rw [List.take_length] at ha
    rw [ha]
def c_spec_LayerOk : XC := (.s (.r [.ex 2 (.mv .n)]) (.s (.s (.r [.ex 3 (.mv (.i 0))]) (.blk 0 (.loop (.s (.s (.r [.mv 5 3, .mv 6 0, .ex 7 (.len false (.t 6)), .ex 8 (.bin .lss (.t 5) (.t 7))]) (.cnd (.t 8) .skip (.exit 0))) (.s (.blk 1 (.s (.r [.mv 11 0, .mv 12 3, .ex 13 (.ia 3 (.t 11) (.t 12)), .ex 14 (.ld true 3 (.t 13)), .ex 4 (.alloc [(.c (.sc (.string ⟨#[]⟩))), (.c (.sc (.int .i64 0))), (.c (.sc (.string ⟨#[]⟩)))]), .nu (.st 3 (.t 4) (.t 14))]) (.s (.s (.r [.ex 15 (.fa 1 (.t 4)), .ex 16 (.ld false 1 (.t 15)), .ex 17 (.bin .lss (.t 16) (.i 1)), .mv 18 17, .gf 19 (.fa 1 (.t 4)) 18, .gf 20 (.ld false 1 (.t 19)) 18, .gf 21 (.bin .gtr (.t 20) (.i 4)) 18, .ex 22 (.pick (.t 18) .y (.t 21)), .mv 23 22, .gf 24 (.fa 0 (.t 4)) 23, .gf 25 (.ld false 1 (.t 24)) 23, .gf 26 (.call 175 [(.t 25)]) 23, .gf 27 (.un .not (.t 26)) 23, .ex 28 (.pick (.t 23) .y (.t 27)), .mv 29 28, .gf 30 (.fa 2 (.t 4)) 29, .gf 31 (.ld false 1 (.t 30)) 29, .gf 32 (.call 220 [(.t 31)]) 29, .gf 33 (.un .not (.t 32)) 29, .ex 34 (.pick (.t 29) .y (.t 33)), .mv 35 34, .gf 36 (.fa 1 (.t 4)) 35, .gf 37 (.ld false 1 (.t 36)) 35, .gf 38 (.bin .neq (.t 37) (.i 1)) 35, .gf 39 (.mv (.t 38)) 35, .gt 40 (.fa 2 (.t 4)) 39, .gt 41 (.ld false 1 (.t 40)) 39, .gt 42 (.bin .neq (.t 41) (.s [])) 39, .gf 43 (.pick (.t 39) (.t 42) .n) 35, .ex 44 (.pick (.t 35) .y (.t 43))]) (.cnd (.t 44) (.s (.r [.ex 2 (.mv .n)]) .ret) .skip)) (.s (.s (.d [.mv 45 3, .ex 46 (.bin .gtr (.t 45) (.i 0)), .mv 47 46, .gt 48 (.mv (.t 0)) 47, .gt 49 (.mv (.t 3)) 47, .gt 50 (.bin .sub (.t 49) (.i 1)) 47, .gt 51 (.ia 3 (.t 48) (.t 50)) 47, .gt 52 (.fa 0 (.t 51)) 47, .gt 53 (.ld false 1 (.t 52)) 47, .gt 54 (.fa 0 (.t 4)) 47, .gt 55 (.ld false 1 (.t 54)) 47, .gt 56 (.bin .geq (.t 53) (.t 55)) 47, .ex 57 (.pick (.t 47) (.t 56) .n), .mv 58 57, .gf 59 (.mv (.t 0)) 58, .gf 60 (.mv (.t 3)) 58, .gf 61 (.slr 3 (.t 59) .none (.some (.t 60))) 58, .gf 62 (.fa 0 (.t 4)) 58, .gf 63 (.ld false 1 (.t 62)) 58, .gf 64 (.call 221 [(.t 61), (.t 63)]) 58, .gf 65 (.un .not (.t 64)) 58, .ex 66 (.pick (.t 58) .y (.t 65))]) (.cnd (.t 66) (.s (.r [.ex 2 (.mv .n)]) .ret) .skip)) (.s (.d [.ex 67 (.fa 1 (.t 4)), .ex 68 (.ld false 1 (.t 67)), .ex 69 (.bin .gtr (.t 68) (.i 2)), .mv 70 69, .gt 71 (.mv (.t 0)) 70, .gt 72 (.mv (.t 3)) 70, .gt 73 (.slr 3 (.t 71) .none (.some (.t 72))) 70, .gt 74 (.fa 0 (.t 4)) 70, .gt 75 (.ld false 1 (.t 74)) 70, .gt 76 (.call 222 [(.t 73), (.t 75)]) 70, .ex 77 (.pick (.t 70) (.t 76) .n)]) (.cnd (.t 77) (.s (.r [.ex 2 (.mv .n)]) .ret) .skip)))))) (.r [.mv 9 3, .ex 10 (.bin .add (.t 9) (.i 1)), .mv 3 10])))))) (.s (.r [.mv 78 0, .ex 79 (.len false (.t 78)), .ex 80 (.bin .leq (.t 79) (.i 32)), .mv 2 80]) .ret)))
theorem c_spec_LayerOk_eq : compF Tryz.prog [] 149 = some (c_spec_LayerOk.ac, [(.t 2)], 81) := by kernel_rfl
theorem f_spec_LayerOk (W0 : World) (t : List Mark) : Fn Tryz.prog W0 149 [eMarks t] (.c (CB (lOk t))) [] := by
  refine fnX (c := c_spec_LayerOk) mixed c_spec_LayerOk_eq (by simp) rfl fun hg => ?_
  have g1 := goodRow (hg _ (by simp : eMarks t ∈ _))
  refine dr ?_
  refine lp (σ := Nat) (fun k => [(0, .c (eMarks t)), (3, I k)]) (fun _ => []) (fun k => k ≤ t.length ∧ ∀ j (h : j < t.length), j < k → mok1 (t.take j) t[j] = true) (fun k => t.length - k) 0 ⟨by simp, by simp⟩ ?_ ?_
  · refine dr ?_
    trivial
  rintro k ⟨hk, ha⟩
  refine dr ?_
  refine cP (fun h2 => ?_) (fun h2 => ?_)
  rotate_left
  · refine dr ?_
    refine congrArg CB ?_
    rw [lOk, mokA0.2 fun j h => ha j h (by omega), Bool.eq_iff_iff]; simp [leI_d]; omega
  have hk' : k < t.length := by omega
  have no : mok1 (t.take k) t[k] = false → CB false = CB (lOk t) := fun h => bF (by
    rw [lOk, Bool.and_eq_false_iff]; right
    rw [Bool.eq_false_iff]; intro e
    have := mokA0.1 e k hk'
    rw [h] at this; cases this)
  refine dr ?_
  refine cP (fun h3 => ?_) (fun h3 => ?_)
  · refine dr ?_
    exact no (by simp [mok1]; omega)
  refine dr ?_
  refine cP (fun h4 => ?_) (fun h4 => ?_)
  · refine dr ?_
    exact no (by simp [mok1]; omega)
  have h34 : (decide (1 ≤ t[k].kind) && decide (t[k].kind ≤ 4)) = true := by simp; omega
  refine dr ?_
  repeat (refine c0 (f_spec_PathOk W0 _) rfl ?_; first | refine dr ?_ | exact dz)
  refine cP (fun h5 => ?_) (fun h5 => ?_)
  · refine dr ?_
    exact no (by simp [mok1, h5])
  refine dr ?_
  repeat (refine c0 (f_l2Data W0 _) rfl ?_; first | refine dr ?_ | exact dz)
  refine cP (fun h6 => ?_) (fun h6 => ?_)
  · refine dr ?_
    exact no (by simp [mok1, h6])
  refine dr ?_
  refine cP (fun h70 => ?_) (fun h70 => ?_)
  · refine dr ?_
    refine cP (fun h71 => ?_) (fun h71 => ?_)
    · refine dr ?_
      exact no (by simp [mok1, h70, h71])
    · have h7 : (!(t[k].kind != 1 && t[k].data != [])) = true := by simp [h71]
      clear h71
      refine dr ?_
      refine cP (fun h8 => ?_) (fun h8 => ?_)
      · have hl : (t.take k).getLast? = some t[k - 1] := by
          rw [List.getLast?_take, if_neg (by omega), List.getElem?_eq_getElem (by omega)]
          rfl
        refine dr ?_
        repeat (refine aM (j := k - 1) (by omega) (by omega) ?_; first | refine dr ?_ | exact dz)
        cases hlt : ltS t[k - 1].path t[k].path
        · refine dr ?_
          exact no (by simp [mok1, mlast, hl, hlt])
        · have hlast : mlast (t.take k) t[k].path = true := by rw [mlast, hl]; exact hlt
          refine dEr ?_
          repeat ((first | refine sHiM k rfl (by omega) ?_ | refine c0 (f_l3In W0 (t.take k) _) rfl ?_); first | refine dEr ?_ | exact dz)
          refine cP (fun h9 => ?_) (fun h9 => ?_)
          · refine dr ?_
            exact no (by simp [mok1, h9])
          · refine dr ?_
            refine cP (fun h10 => ?_) (fun h10 => ?_)
            · refine dEr ?_
              repeat ((first | refine sHiM k rfl (by omega) ?_ | refine c0 (f_l3Bare W0 (t.take k) _) rfl ?_); first | refine dEr ?_ | exact dz)
              refine cP (fun h11 => ?_) (fun h11 => ?_)
              · refine dr ?_
                exact no (by simp [mok1, h10, h11])
              · refine dr ?_
                refine ⟨k + 1, ⟨by omega, fun j h hj => ?_⟩, by omega, ?_⟩
                · by_cases e : j = k
                  · subst e; rw [mok1, h34, h5, h6, h7, hlast, h9, h11]; simp
                  · exact ha j h (by omega)
                · refine dr ?_
                  trivial
            · refine dr ?_
              refine ⟨k + 1, ⟨by omega, fun j h hj => ?_⟩, by omega, ?_⟩
              · by_cases e : j = k
                · subst e; rw [mok1, h34, h5, h6, h7, hlast, h9]; simp; omega
                · exact ha j h (by omega)
              · refine dr ?_
                trivial
      · have hlast : mlast (t.take k) t[k].path = true := by
          have hk0 : k = 0 := by omega
          subst hk0; rfl
        refine dEr ?_
        repeat ((first | refine sHiM k rfl (by omega) ?_ | refine c0 (f_l3In W0 (t.take k) _) rfl ?_); first | refine dEr ?_ | exact dz)
        refine cP (fun h9 => ?_) (fun h9 => ?_)
        · refine dr ?_
          exact no (by simp [mok1, h9])
        · refine dr ?_
          refine cP (fun h10 => ?_) (fun h10 => ?_)
          · refine dEr ?_
            repeat ((first | refine sHiM k rfl (by omega) ?_ | refine c0 (f_l3Bare W0 (t.take k) _) rfl ?_); first | refine dEr ?_ | exact dz)
            refine cP (fun h11 => ?_) (fun h11 => ?_)
            · refine dr ?_
              exact no (by simp [mok1, h10, h11])
            · refine dr ?_
              refine ⟨k + 1, ⟨by omega, fun j h hj => ?_⟩, by omega, ?_⟩
              · by_cases e : j = k
                · subst e; rw [mok1, h34, h5, h6, h7, hlast, h9, h11]; simp
                · exact ha j h (by omega)
              · refine dr ?_
                trivial
          · refine dr ?_
            refine ⟨k + 1, ⟨by omega, fun j h hj => ?_⟩, by omega, ?_⟩
            · by_cases e : j = k
              · subst e; rw [mok1, h34, h5, h6, h7, hlast, h9]; simp; omega
              · exact ha j h (by omega)
            · refine dr ?_
              trivial
  · have h7 : (!(t[k].kind != 1 && t[k].data != [])) = true := by simp [h70]
    refine dr ?_
    refine cP (fun h8 => ?_) (fun h8 => ?_)
    · have hl : (t.take k).getLast? = some t[k - 1] := by
        rw [List.getLast?_take, if_neg (by omega), List.getElem?_eq_getElem (by omega)]
        rfl
      refine dr ?_
      repeat (refine aM (j := k - 1) (by omega) (by omega) ?_; first | refine dr ?_ | exact dz)
      cases hlt : ltS t[k - 1].path t[k].path
      · refine dr ?_
        exact no (by simp [mok1, mlast, hl, hlt])
      · have hlast : mlast (t.take k) t[k].path = true := by rw [mlast, hl]; exact hlt
        refine dEr ?_
        repeat ((first | refine sHiM k rfl (by omega) ?_ | refine c0 (f_l3In W0 (t.take k) _) rfl ?_); first | refine dEr ?_ | exact dz)
        refine cP (fun h9 => ?_) (fun h9 => ?_)
        · refine dr ?_
          exact no (by simp [mok1, h9])
        · refine dr ?_
          refine cP (fun h10 => ?_) (fun h10 => ?_)
          · refine dEr ?_
            repeat ((first | refine sHiM k rfl (by omega) ?_ | refine c0 (f_l3Bare W0 (t.take k) _) rfl ?_); first | refine dEr ?_ | exact dz)
            refine cP (fun h11 => ?_) (fun h11 => ?_)
            · refine dr ?_
              exact no (by simp [mok1, h10, h11])
            · refine dr ?_
              refine ⟨k + 1, ⟨by omega, fun j h hj => ?_⟩, by omega, ?_⟩
              · by_cases e : j = k
                · subst e; rw [mok1, h34, h5, h6, h7, hlast, h9, h11]; simp
                · exact ha j h (by omega)
              · refine dr ?_
                trivial
          · refine dr ?_
            refine ⟨k + 1, ⟨by omega, fun j h hj => ?_⟩, by omega, ?_⟩
            · by_cases e : j = k
              · subst e; rw [mok1, h34, h5, h6, h7, hlast, h9]; simp; omega
              · exact ha j h (by omega)
            · refine dr ?_
              trivial
    · have hlast : mlast (t.take k) t[k].path = true := by
        have hk0 : k = 0 := by omega
        subst hk0; rfl
      refine dEr ?_
      repeat ((first | refine sHiM k rfl (by omega) ?_ | refine c0 (f_l3In W0 (t.take k) _) rfl ?_); first | refine dEr ?_ | exact dz)
      refine cP (fun h9 => ?_) (fun h9 => ?_)
      · refine dr ?_
        exact no (by simp [mok1, h9])
      · refine dr ?_
        refine cP (fun h10 => ?_) (fun h10 => ?_)
        · refine dEr ?_
          repeat ((first | refine sHiM k rfl (by omega) ?_ | refine c0 (f_l3Bare W0 (t.take k) _) rfl ?_); first | refine dEr ?_ | exact dz)
          refine cP (fun h11 => ?_) (fun h11 => ?_)
          · refine dr ?_
            exact no (by simp [mok1, h10, h11])
          · refine dr ?_
            refine ⟨k + 1, ⟨by omega, fun j h hj => ?_⟩, by omega, ?_⟩
            · by_cases e : j = k
              · subst e; rw [mok1, h34, h5, h6, h7, hlast, h9, h11]; simp
              · exact ha j h (by omega)
            · refine dr ?_
              trivial
        · refine dr ?_
          refine ⟨k + 1, ⟨by omega, fun j h hj => ?_⟩, by omega, ?_⟩
          · by_cases e : j = k
            · subst e; rw [mok1, h34, h5, h6, h7, hlast, h9]; simp; omega
            · exact ha j h (by omega)
          · refine dr ?_
            trivial
end Go.Proofs.YthblflnfhdnpdaaGreatDoor

namespace Go.Proofs.YthblflnfhdnpdaaGreatDoor
set_option linter.unusedSimpArgs false
set_option linter.unusedVariables false
open Go Go.RowKit
def c_laws_eqOver : XC := (.s (.r [.ex 2 (.box (.t 0)), .ex 3 (.box (.t 1)), .ex 4 (.mv .n)]) (.s (.s (.r [.ex 5 (.fa 0 (.t 2)), .ex 6 (.ld false 1 (.t 5)), .ex 7 (.fa 0 (.t 3)), .ex 8 (.ld false 1 (.t 7)), .ex 9 (.call 206 [(.t 6), (.t 8)]), .ex 10 (.un .not (.t 9))]) (.cnd (.t 10) (.s (.r [.ex 4 (.mv .n)]) .ret) .skip)) (.s (.s (.r [.ex 11 (.fa 1 (.t 2)), .ex 12 (.ld false 1 (.t 11)), .ex 13 (.fa 1 (.t 3)), .ex 14 (.ld false 1 (.t 13)), .ex 15 (.call 207 [(.t 12), (.t 14)]), .ex 16 (.un .not (.t 15))]) (.cnd (.t 16) (.s (.r [.ex 4 (.mv .n)]) .ret) .skip)) (.s (.s (.r [.ex 17 (.fa 2 (.t 2)), .ex 18 (.ld false 1 (.t 17)), .ex 19 (.fa 2 (.t 3)), .ex 20 (.ld false 1 (.t 19)), .ex 21 (.call 208 [(.t 18), (.t 20)]), .ex 22 (.un .not (.t 21))]) (.cnd (.t 22) (.s (.r [.ex 4 (.mv .n)]) .ret) .skip)) (.s (.r [.ex 4 (.mv .y)]) .ret)))))
theorem c_laws_eqOver_eq : compF Tryz.prog [] 130 = some (c_laws_eqOver.ac, [(.t 4)], 23) := by kernel_rfl
theorem f_eqOver (W0 : World) (a b : Over) : Fn Tryz.prog W0 130 [eOver a, eOver b] (.c (CB (decide (a = b)))) [] := by
  refine fnX (c := c_laws_eqOver) mixed c_laws_eqOver_eq (by simp) rfl fun hg => ?_
  refine dr ?_
  repeat (refine c0 (f_laws_eqEntS W0 a.base b.base) rfl ?_; first | refine dr ?_ | exact dz)
  refine cP (fun h1 => ?_) (fun h1 => ?_)
  · conv => whnf
    exact dF fun e => by simp [e] at h1
  refine dr ?_
  repeat (refine c0 (f_laws_eqMarkSS W0 a.layers b.layers) rfl ?_; first | refine dr ?_ | exact dz)
  refine cP (fun h2 => ?_) (fun h2 => ?_)
  · conv => whnf
    exact dF fun e => by simp [e] at h2
  refine dr ?_
  repeat (refine c0 (f_laws_eqMarkS W0 a.upper b.upper) rfl ?_; first | refine dr ?_ | exact dz)
  refine cP (fun h3 => ?_) (fun h3 => ?_)
  · conv => whnf
    exact dF fun e => by simp [e] at h3
  refine dr ?_
  exact dT (by cases a; cases b; simp_all)
def c_spec_LayerSame : XC := (.s (.r [.ex 4 (.mv .n)]) (.s (.s (.r [.mv 6 0, .ex 7 (.len false (.t 6)), .mv 8 1, .ex 9 (.len false (.t 8)), .ex 10 (.bin .neq (.t 7) (.t 9))]) (.cnd (.t 10) (.s (.r [.ex 4 (.mv .n)]) .ret) .skip)) (.s (.s (.r [.ex 5 (.mv (.i 0))]) (.blk 0 (.loop (.s (.s (.r [.mv 11 5, .mv 12 0, .ex 13 (.len false (.t 12)), .ex 14 (.bin .lss (.t 11) (.t 13))]) (.cnd (.t 14) .skip (.exit 0))) (.s (.blk 1 (.s (.d [.mv 17 0, .mv 18 5, .ex 19 (.ia 3 (.t 17) (.t 18)), .ex 20 (.ld true 3 (.t 19)), .mv 21 1, .mv 22 5, .ex 23 (.ia 3 (.t 21) (.t 22)), .ex 24 (.ld true 3 (.t 23)), .ex 25 (.beq true [.s, (.i .i64), .s] (.t 20) (.t 24))]) (.cnd (.t 25) (.s (.r [.ex 4 (.mv .n)]) .ret) .skip))) (.r [.mv 15 5, .ex 16 (.bin .add (.t 15) (.i 1)), .mv 5 16])))))) (.s (.r [.ex 4 (.mv .y)]) .ret))))
theorem c_spec_LayerSame_eq : compF Tryz.prog [] 73 = some (c_spec_LayerSame.ac, [(.t 4)], 26) := by kernel_rfl
theorem f_spec_LayerSame (W0 : World) (a b : List Mark) : Fn Tryz.prog W0 73 [eMarks a, eMarks b] (.c (CB (decide (a = b)))) [] := by
  refine fnX (c := c_spec_LayerSame) mixed c_spec_LayerSame_eq (by simp) rfl fun hg => ?_
  have g1 := goodRow (hg _ (by simp : eMarks a ∈ _))
  refine dr ?_
  refine cP (fun h1 => ?_) (fun h1 => ?_)
  · conv => whnf
    exact dF (ne_len (by omega))
  conv => whnf
  refine lp (σ := Nat) (fun k => [(0, .c (eMarks a)), (1, .c (eMarks b)), (5, I k)]) (fun _ => []) (fun k => k ≤ a.length ∧ a.take k = b.take k) (fun k => a.length - k) 0 ⟨by simp, by simp⟩ ?_ ?_
  · refine dr ?_
    trivial
  rintro k ⟨hk, he⟩
  refine dr ?_
  refine cP (fun h2 => ?_) (fun h2 => ?_)
  · refine dr ?_
    rw [bqMark]
    refine cP (fun h3 => ?_) (fun h3 => ?_)
    rotate_left
    · refine dr ?_
      refine ⟨k + 1, ⟨by omega, take_next (by omega) (by omega) he (by simpa using h3)⟩, by omega, ?_⟩
      refine dr ?_
      trivial
    · conv => whnf
      exact dF (ne_at (k := k) (by omega) (by omega) (by simpa using h3))
  · refine dr ?_
    have : k = a.length := by omega
    subst this
    exact dT (eq_of_takes (by omega) he)
def c_EqMark : XC := (.s (.r [.ex 4 (.mv .n)]) (.s (.s (.r [.mv 6 0, .ex 7 (.len false (.t 6)), .mv 8 1, .ex 9 (.len false (.t 8)), .ex 10 (.bin .neq (.t 7) (.t 9))]) (.cnd (.t 10) (.s (.r [.ex 4 (.mv .n)]) .ret) .skip)) (.s (.s (.r [.mv 11 0, .ex 12 (.len false (.t 11)), .ex 13 (.mv (.i 0))]) (.blk 0 (.loop (.s (.r [.ex 14 (.bin .lss (.t 13) (.t 12))]) (.s (.cnd (.t 14) .skip (.exit 0)) (.s (.blk 1 (.s (.r [.mv 15 13, .mv 5 15]) (.s (.d [.mv 16 0, .mv 17 5, .ex 18 (.ia 3 (.t 16) (.t 17)), .ex 19 (.ld true 3 (.t 18)), .mv 20 1, .mv 21 5, .ex 22 (.ia 3 (.t 20) (.t 21)), .ex 23 (.ld true 3 (.t 22)), .ex 24 (.beq true [.s, (.i .i64), .s] (.t 19) (.t 23))]) (.cnd (.t 24) (.s (.r [.ex 4 (.mv .n)]) .ret) .skip)))) (.r [.ex 25 (.bin .add (.t 13) (.i 1)), .mv 13 25]))))))) (.s (.r [.ex 4 (.mv .y)]) .ret))))
theorem c_EqMark_eq : compF Tryz.prog [] 76 = some (c_EqMark.ac, [(.t 4)], 26) := by kernel_rfl
theorem f_EqMark (W0 : World) (a b : List Mark) : Fn Tryz.prog W0 76 [eMarks a, eMarks b] (.c (CB (decide (a = b)))) [] := by
  refine fnX (c := c_EqMark) mixed c_EqMark_eq (by simp) rfl fun hg => ?_
  have g1 := goodRow (hg _ (by simp : eMarks a ∈ _))
  refine dr ?_
  refine cP (fun h1 => ?_) (fun h1 => ?_)
  · conv => whnf
    exact dF (ne_len (by omega))
  refine dr ?_
  refine lp (σ := Nat) (fun k => [(0, .c (eMarks a)), (1, .c (eMarks b)), (12, I a.length), (13, I k)]) (fun _ => []) (fun k => k ≤ a.length ∧ a.take k = b.take k) (fun k => a.length - k) 0 ⟨by simp, by simp⟩ ?_ ?_
  · refine dr ?_
    trivial
  rintro k ⟨hk, he⟩
  refine dr ?_
  refine cP (fun h2 => ?_) (fun h2 => ?_)
  · refine dr ?_
    rw [bqMark]
    refine cP (fun h3 => ?_) (fun h3 => ?_)
    rotate_left
    · refine dr ?_
      refine ⟨k + 1, ⟨by omega, take_next (by omega) (by omega) he (by simpa using h3)⟩, by omega, ?_⟩
      refine dr ?_
      trivial
    · conv => whnf
      exact dF (ne_at (k := k) (by omega) (by omega) (by simpa using h3))
  · refine dr ?_
    have : k = a.length := by omega
    subst this
    exact dT (eq_of_takes (by omega) he)
def c_SMark : XC := (.s (.r [.ex 4 (.mv .n)]) (.s (.r [.mv 5 0, .mv 6 1, .ex 7 (.call 76 [(.t 5), (.t 6)]), .mv 4 7]) .ret))
theorem c_SMark_eq : compF Tryz.prog [] 28 = some (c_SMark.ac, [(.t 4)], 8) := by kernel_rfl
theorem f_impl_MarksSame (W0 : World) (a b : List Mark) : Fn Tryz.prog W0 28 [eMarks a, eMarks b] (.c (CB (decide (a = b)))) [] := by
  refine fnX (c := c_SMark) mixed c_SMark_eq (by simp) rfl fun hg => ?_
  refine dr ?_
  repeat (refine c0 (f_EqMark W0 a b) rfl ?_; first | refine dr ?_ | exact dz)
def c_laws_toEnt : XC := (.s (.r [.ex 1 (.box (.t 0)), .ex 2 (.alloc [(.c (.sc (.string ⟨#[]⟩))), (.c (.sc (.bool false))), (.c (.sc (.string ⟨#[]⟩)))])]) (.s (.r [.ex 3 (.alloc [(.c (.sc (.string ⟨#[]⟩))), (.c (.sc (.bool false))), (.c (.sc (.string ⟨#[]⟩)))])]) (.s (.r [.ex 4 (.fa 0 (.t 1)), .ex 5 (.ld false 1 (.t 4)), .ex 6 (.fa 0 (.t 3)), .nu (.st 1 (.t 6) (.t 5))]) (.s (.r [.ex 7 (.fa 1 (.t 1)), .ex 8 (.ld false 1 (.t 7)), .ex 9 (.fa 1 (.t 3)), .nu (.st 1 (.t 9) (.t 8))]) (.s (.r [.ex 10 (.fa 2 (.t 1)), .ex 11 (.ld false 1 (.t 10)), .ex 12 (.fa 2 (.t 3)), .nu (.st 1 (.t 12) (.t 11))]) (.s (.r [.ex 13 (.ld true 3 (.t 3)), .nu (.st 3 (.t 2) (.t 13))]) .ret))))))
theorem c_laws_toEnt_eq : compF Tryz.prog [] 261 = some (c_laws_toEnt.ac, [(.cell 2 true 3)], 14) := by kernel_rfl
theorem f_toEnt (W0 : World) (e : Ent) : Fn Tryz.prog W0 261 [eEnt e] (.c (eEnt e)) [] := by
  refine fnX (c := c_laws_toEnt) mixed c_laws_toEnt_eq (by simp) rfl fun hg => ?_
  refine dr ?_
  rfl
def c_laws_toMark : XC := (.s (.r [.ex 1 (.box (.t 0)), .ex 2 (.alloc [(.c (.sc (.string ⟨#[]⟩))), (.c (.sc (.int .i64 0))), (.c (.sc (.string ⟨#[]⟩)))])]) (.s (.r [.ex 3 (.alloc [(.c (.sc (.string ⟨#[]⟩))), (.c (.sc (.int .i64 0))), (.c (.sc (.string ⟨#[]⟩)))])]) (.s (.r [.ex 4 (.fa 0 (.t 1)), .ex 5 (.ld false 1 (.t 4)), .ex 6 (.fa 0 (.t 3)), .nu (.st 1 (.t 6) (.t 5))]) (.s (.r [.ex 7 (.fa 1 (.t 1)), .ex 8 (.ld false 1 (.t 7)), .ex 9 (.fa 1 (.t 3)), .nu (.st 1 (.t 9) (.t 8))]) (.s (.r [.ex 10 (.fa 2 (.t 1)), .ex 11 (.ld false 1 (.t 10)), .ex 12 (.fa 2 (.t 3)), .nu (.st 1 (.t 12) (.t 11))]) (.s (.r [.ex 13 (.ld true 3 (.t 3)), .nu (.st 3 (.t 2) (.t 13))]) .ret))))))
theorem c_laws_toMark_eq : compF Tryz.prog [] 262 = some (c_laws_toMark.ac, [(.cell 2 true 3)], 14) := by kernel_rfl
theorem f_toMark (W0 : World) (e : Mark) : Fn Tryz.prog W0 262 [eMark e] (.c (eMark e)) [] := by
  refine fnX (c := c_laws_toMark) mixed c_laws_toMark_eq (by simp) rfl fun hg => ?_
  refine dr ?_
  rfl
def c_laws_toEntS : XC := (.s (.r [.ex 2 (.asn (.k .nil) 3 59)]) (.s (.r [.mv 5 0, .ex 6 (.len false (.t 5)), .ex 7 (.mks 3 40 59 (.c (.agg [(.sc (.string ⟨#[]⟩)), (.sc (.bool false)), (.sc (.string ⟨#[]⟩))])) (.t 6)), .ex 3 (.asn (.t 7) 3 59)]) (.s (.s (.r [.ex 4 (.mv (.i 0))]) (.blk 0 (.loop (.s (.s (.r [.mv 8 4, .mv 9 0, .ex 10 (.len false (.t 9)), .ex 11 (.bin .lss (.t 8) (.t 10))]) (.cnd (.t 11) .skip (.exit 0))) (.s (.blk 1 (.r [.mv 14 3, .mv 15 4, .mv 16 0, .mv 17 4, .ex 18 (.ia 3 (.t 16) (.t 17)), .ex 19 (.ld true 3 (.t 18)), .ex 20 (.call 261 [(.t 19)]), .ex 21 (.ia 3 (.t 14) (.t 15)), .nu (.st 3 (.t 21) (.t 20))])) (.r [.mv 12 4, .ex 13 (.bin .add (.t 12) (.i 1)), .mv 4 13])))))) (.s (.r [.mv 22 3, .ex 2 (.asn (.t 22) 3 59)]) .ret))))
theorem c_laws_toEntS_eq : compF Tryz.prog [] 200 = some (c_laws_toEntS.ac, [(.t 2)], 23) := by kernel_rfl
theorem f_toEnts (W0 : World) (t : List Ent) (ht : t.length ≤ 1048576) : Fn Tryz.prog W0 200 [eEnts t] (.c (eEnts t)) [] := by
  refine fnX (c := c_laws_toEntS) mixed c_laws_toEntS_eq (by simp) rfl fun hg => ?_
  refine dr ?_
  refine lp (σ := Nat) (fun k => [(0, .c (eEnts t)), (3, .own 112 t.length), (4, I k)]) (fun k => [(112, .row ((t.take k).map eEnt ++ List.replicate (t.length - k) (eEnt ⟨[], false, []⟩)) 3 59)]) (fun k => k ≤ t.length) (fun k => t.length - k) 0 (by simp) ?_ ?_
  · refine dr ?_
    trivial
  rintro k hk
  refine dr ?_
  refine cP (fun h2 => ?_) (fun h2 => ?_)
  · refine dr ?_
    repeat ((first | refine c0 (f_toEnt W0 _) rfl ?_ | refine oB (len_rep hk) ?_ | refine aE (j := k) rfl (get_rep (by omega)) ?_); first | refine dr ?_ | exact dz)
    intro hg2
    refine dr ?_
    refine ⟨k + 1, by omega, by omega, ?_⟩
    refine dr ?_
    repeat (refine oB (by rw [← set_rep (f := eEnt) (by omega : k < t.length)] <;> rfl) ?_; first | refine dr ?_ | exact dz)
    trivial
  · have : k = t.length := by omega
    subst this
    refine dr ?_
    repeat (refine oB (len_rep (Nat.le_refl _)) ?_; first | refine dr ?_ | exact dz)
    simp [eEnts]
def c_laws_toMarkS : XC := (.s (.r [.ex 2 (.asn (.k .nil) 3 49)]) (.s (.r [.mv 5 0, .ex 6 (.len false (.t 5)), .ex 7 (.mks 3 40 49 (.c (.agg [(.sc (.string ⟨#[]⟩)), (.sc (.int .i64 0)), (.sc (.string ⟨#[]⟩))])) (.t 6)), .ex 3 (.asn (.t 7) 3 49)]) (.s (.s (.r [.ex 4 (.mv (.i 0))]) (.blk 0 (.loop (.s (.s (.r [.mv 8 4, .mv 9 0, .ex 10 (.len false (.t 9)), .ex 11 (.bin .lss (.t 8) (.t 10))]) (.cnd (.t 11) .skip (.exit 0))) (.s (.blk 1 (.r [.mv 14 3, .mv 15 4, .mv 16 0, .mv 17 4, .ex 18 (.ia 3 (.t 16) (.t 17)), .ex 19 (.ld true 3 (.t 18)), .ex 20 (.call 262 [(.t 19)]), .ex 21 (.ia 3 (.t 14) (.t 15)), .nu (.st 3 (.t 21) (.t 20))])) (.r [.mv 12 4, .ex 13 (.bin .add (.t 12) (.i 1)), .mv 4 13])))))) (.s (.r [.mv 22 3, .ex 2 (.asn (.t 22) 3 49)]) .ret))))
theorem c_laws_toMarkS_eq : compF Tryz.prog [] 202 = some (c_laws_toMarkS.ac, [(.t 2)], 23) := by kernel_rfl
theorem f_toMarks (W0 : World) (t : List Mark) (ht : t.length ≤ 1048576) : Fn Tryz.prog W0 202 [eMarks t] (.c (eMarks t)) [] := by
  refine fnX (c := c_laws_toMarkS) mixed c_laws_toMarkS_eq (by simp) rfl fun hg => ?_
  refine dr ?_
  refine lp (σ := Nat) (fun k => [(0, .c (eMarks t)), (3, .own 112 t.length), (4, I k)]) (fun k => [(112, .row ((t.take k).map eMark ++ List.replicate (t.length - k) (eMark ⟨[], 0, []⟩)) 3 49)]) (fun k => k ≤ t.length) (fun k => t.length - k) 0 (by simp) ?_ ?_
  · refine dr ?_
    trivial
  rintro k hk
  refine dr ?_
  refine cP (fun h2 => ?_) (fun h2 => ?_)
  · refine dr ?_
    repeat ((first | refine c0 (f_toMark W0 _) rfl ?_ | refine oB (len_rep hk) ?_ | refine aE (j := k) rfl (get_rep (by omega)) ?_); first | refine dr ?_ | exact dz)
    intro hg2
    refine dr ?_
    refine ⟨k + 1, by omega, by omega, ?_⟩
    refine dr ?_
    repeat (refine oB (by rw [← set_rep (f := eMark) (by omega : k < t.length)] <;> rfl) ?_; first | refine dr ?_ | exact dz)
    trivial
  · have : k = t.length := by omega
    subst this
    refine dr ?_
    repeat (refine oB (len_rep (Nat.le_refl _)) ?_; first | refine dr ?_ | exact dz)
    simp [eMarks]
def c_laws_toMarkSS : XC := (.s (.r [.ex 2 (.asn (.k .nil) 1 25)]) (.s (.r [.mv 5 0, .ex 6 (.len false (.t 5)), .ex 7 (.mks 1 24 25 (.c (.row [])) (.t 6)), .ex 3 (.asn (.t 7) 1 25)]) (.s (.s (.r [.ex 4 (.mv (.i 0))]) (.blk 0 (.loop (.s (.s (.r [.mv 8 4, .mv 9 0, .ex 10 (.len false (.t 9)), .ex 11 (.bin .lss (.t 8) (.t 10))]) (.cnd (.t 11) .skip (.exit 0))) (.s (.blk 1 (.r [.mv 14 3, .mv 15 4, .mv 16 0, .mv 17 4, .ex 18 (.ia 1 (.t 16) (.t 17)), .ex 19 (.ld false 1 (.t 18)), .ex 20 (.call 202 [(.t 19)]), .ex 21 (.ia 1 (.t 14) (.t 15)), .nu (.st 1 (.t 21) (.t 20))])) (.r [.mv 12 4, .ex 13 (.bin .add (.t 12) (.i 1)), .mv 4 13])))))) (.s (.r [.mv 22 3, .ex 2 (.asn (.t 22) 1 25)]) .ret))))
theorem c_laws_toMarkSS_eq : compF Tryz.prog [] 201 = some (c_laws_toMarkSS.ac, [(.t 2)], 23) := by kernel_rfl
theorem f_toMarkss (W0 : World) (t : List (List Mark)) (ht : t.length ≤ 1048576) (ht2 : ∀ l ∈ t, l.length ≤ 1048576) : Fn Tryz.prog W0 201 [eMarkss t] (.c (eMarkss t)) [] := by
  refine fnX (c := c_laws_toMarkSS) mixed c_laws_toMarkSS_eq (by simp) rfl fun hg => ?_
  refine dr ?_
  refine lp (σ := Nat) (fun k => [(0, .c (eMarkss t)), (3, .own 112 t.length), (4, I k)]) (fun k => [(112, .row ((t.take k).map eMarks ++ List.replicate (t.length - k) (eMarks [])) 1 25)]) (fun k => k ≤ t.length) (fun k => t.length - k) 0 (by simp) ?_ ?_
  · refine dr ?_
    trivial
  rintro k hk
  refine dr ?_
  refine cP (fun h2 => ?_) (fun h2 => ?_)
  · refine dr ?_
    repeat ((first | refine c0 (f_toMarks W0 _ (ht2 _ (by simp))) rfl ?_ | refine oB (len_rep hk) ?_ | refine aE (j := k) rfl (get_rep (by omega)) ?_); first | refine dr ?_ | exact dz)
    intro hg2
    refine dr ?_
    refine ⟨k + 1, by omega, by omega, ?_⟩
    refine dr ?_
    repeat (refine oB (by rw [← set_rep (f := eMarks) (by omega : k < t.length)] <;> rfl) ?_; first | refine dr ?_ | exact dz)
    trivial
  · have : k = t.length := by omega
    subst this
    refine dr ?_
    repeat (refine oB (len_rep (Nat.le_refl _)) ?_; first | refine dr ?_ | exact dz)
    simp [eMarkss]
def c_laws_toOver : XC := (.s (.r [.ex 1 (.box (.t 0)), .ex 2 (.alloc [.nil, .nil, .nil])]) (.s (.r [.ex 3 (.alloc [.nil, .nil, .nil])]) (.s (.r [.ex 4 (.fa 0 (.t 1)), .ex 5 (.ld false 1 (.t 4)), .ex 6 (.call 200 [(.t 5)]), .ex 7 (.fa 0 (.t 3)), .nu (.st 1 (.t 7) (.t 6))]) (.s (.r [.ex 8 (.fa 1 (.t 1)), .ex 9 (.ld false 1 (.t 8)), .ex 10 (.call 201 [(.t 9)]), .ex 11 (.fa 1 (.t 3)), .nu (.st 1 (.t 11) (.t 10))]) (.s (.r [.ex 12 (.fa 2 (.t 1)), .ex 13 (.ld false 1 (.t 12)), .ex 14 (.call 202 [(.t 13)]), .ex 15 (.fa 2 (.t 3)), .nu (.st 1 (.t 15) (.t 14))]) (.s (.r [.ex 16 (.ld true 3 (.t 3)), .nu (.st 3 (.t 2) (.t 16))]) .ret))))))
theorem c_laws_toOver_eq : compF Tryz.prog [] 124 = some (c_laws_toOver.ac, [(.cell 2 true 3)], 17) := by kernel_rfl
theorem f_toOver (W0 : World) (o : Over) (h1 : o.base.length ≤ 1048576) (h2 : o.layers.length ≤ 1048576) (h3 : ∀ l ∈ o.layers, l.length ≤ 1048576) (h4 : o.upper.length ≤ 1048576) :
    Fn Tryz.prog W0 124 [eOver o] (.c (eOver o)) [] := by
  refine fnX (c := c_laws_toOver) mixed c_laws_toOver_eq (by simp) rfl fun hg => ?_
  refine dr ?_
  repeat (refine c0 (f_toEnts W0 o.base h1) rfl ?_; first | refine dr ?_ | exact dz)
  intro hg1
  refine dr ?_
  repeat (refine c0 (f_toMarkss W0 o.layers h2 h3) rfl ?_; first | refine dr ?_ | exact dz)
  intro hg2
  refine dr ?_
  repeat (refine c0 (f_toMarks W0 o.upper h4) rfl ?_; first | refine dr ?_ | exact dz)
  intro hg3
  refine dr ?_
  rfl
theorem szL_len {α : Type} {f : α → Int → Int} (hf : ∀ a l, -1 ≤ l → -1 ≤ f a l ∧ f a l ≤ l) {p : α → Int → Prop} (hp : ∀ a l, 0 ≤ l → 0 ≤ f a l → p a l) (hm : ∀ a l l', p a l → l ≤ l' → p a l') : ∀ {t : List α} {l : Int}, 0 ≤ l → 0 ≤ szL f t l → ∀ a ∈ t, p a l
  | [], l, _, _, a, ha => by simp at ha
  | b :: t, l, h0, h, a, ha => by
    unfold szL at h
    split at h
    · omega
    · have h1 := hf b l (by omega)
      rcases List.mem_cons.1 ha with rfl | ha
      · exact hp _ l h0 (by omega)
      · exact hm _ _ _ (szL_len hf hp hm (t := t) (l := f b l) (by omega) h a ha) h1.2
theorem szR_len {α : Type} {f : α → Int → Int} {t : List α} {l : Int} (h0 : 0 ≤ l) (h : 0 ≤ szR f t l) : t.length ≤ l ∧ 0 ≤ szL f t (l - t.length) := by
  unfold szR at h
  split at h <;> omega
structure OvFit (o : Over) : Prop where
  h1 : o.base.length ≤ 1048576
  h2 : o.layers.length ≤ 1048576
  h3 : ∀ l ∈ o.layers, l.length ≤ 1048576
  h4 : o.upper.length ≤ 1048576
theorem szOver_le {o : Over} {l : Int} (h : -1 ≤ l) : -1 ≤ szOver o l ∧ szOver o l ≤ l := by
  have s1 := @szR_le _ _ (fun a l => @szEnt_le a l) o.base l h
  have s2 := @szR_le _ _ (fun a l => @szR_le _ _ (fun a l => @szMark_le a l) a l) o.layers _ s1.1
  have s3 := @szR_le _ _ (fun a l => @szMark_le a l) o.upper _ s2.1
  unfold szOver
  split
  · omega
  split
  · omega
  split <;> omega
theorem szOver_fit {o : Over} {l : Int} (h0 : 0 ≤ l) (hl : l ≤ 1048576) (h : 0 ≤ szOver o l) : OvFit o := by
  have s1 := @szR_le _ _ (fun a l => @szEnt_le a l) o.base l (by omega)
  have s2 := @szR_le _ _ (fun a l => @szR_le _ _ (fun a l => @szMark_le a l) a l) o.layers _ s1.1
  unfold szOver at h
  split at h
  · omega
  rename_i g1
  split at h
  · omega
  rename_i g2
  split at h
  · omega
  have k1 := szR_len h0 (by omega : 0 ≤ szR szEnt o.base l)
  have k2 := szR_len (by omega) (by omega : 0 ≤ szR (szR szMark) o.layers (szR szEnt o.base l))
  have k3 := szR_len (by omega) h
  refine ⟨by omega, by omega, fun x hx => ?_, by omega⟩
  have := szL_len (f := szR szMark) (p := fun a l => (a.length : Int) ≤ l) (fun a l => @szR_le _ _ (fun a l => @szMark_le a l) a l) (fun a l h0 h => (szR_len h0 h).1) (fun a l l' h h' => Int.le_trans h h') (by omega) k2.2 x hx
  omega
end Go.Proofs.YthblflnfhdnpdaaGreatDoor

namespace Go.Proofs.YthblflnfhdnpdaaGreatDoor
set_option linter.unusedSimpArgs false
set_option linter.unusedVariables false
open Go Go.RowKit
def c_spec_l3On : XC := (.s (.r [.ex 4 (.asn (.k .nil) 3 59)]) (.s (.r [.ex 8 .bsl0, .ex 5 (.asn (.t 8) 3 59)]) (.s (.s (.r [.ex 6 (.mv (.i 0))]) (.blk 0 (.loop (.s (.s (.r [.mv 9 6, .mv 10 1, .ex 11 (.len false (.t 10)), .ex 12 (.bin .lss (.t 9) (.t 11))]) (.cnd (.t 12) .skip (.exit 0))) (.s (.blk 1 (.s (.r [.mv 15 0, .mv 16 1, .mv 17 6, .ex 18 (.ia 3 (.t 16) (.t 17)), .ex 19 (.fa 0 (.t 18)), .ex 20 (.ld false 1 (.t 19)), .ex 21 (.call 223 [(.t 15), (.t 20)]), .ex 22 (.un .not (.t 21))]) (.cnd (.t 22) (.r [.mv 23 5, .mv 24 1, .mv 25 6, .ex 26 (.ia 3 (.t 24) (.t 25)), .ex 27 (.ld true 3 (.t 26)), .ex 28 (.bsl 3 59 [(.t 27)]), .ex 29 (.app false 3 40 59 (.t 23) (.t 28)), .ex 5 (.asn (.t 29) 3 59)]) .skip))) (.r [.mv 13 6, .ex 14 (.bin .add (.t 13) (.i 1)), .mv 6 14])))))) (.s (.s (.r [.ex 7 (.mv (.i 0))]) (.blk 2 (.loop (.s (.s (.r [.mv 30 7, .mv 31 0, .ex 32 (.len false (.t 31)), .ex 33 (.bin .lss (.t 30) (.t 32))]) (.cnd (.t 33) .skip (.exit 2))) (.s (.blk 3 (.s (.r [.mv 36 0, .mv 37 7, .ex 38 (.ia 3 (.t 36) (.t 37)), .ex 39 (.fa 1 (.t 38)), .ex 40 (.ld false 1 (.t 39))]) (.blk 4 (.s (.r [.ex 42 (.bin .eql (.t 40) (.i 1)), .mv 41 42]) (.cnd (.t 41) (.d [.mv 43 5, .mv 44 0, .mv 45 7, .ex 46 (.ia 3 (.t 44) (.t 45)), .ex 47 (.fa 0 (.t 46)), .ex 48 (.ld false 1 (.t 47)), .mv 49 0, .mv 50 7, .ex 51 (.ia 3 (.t 49) (.t 50)), .ex 52 (.fa 2 (.t 51)), .ex 53 (.ld false 1 (.t 52)), .ex 54 (.build [(.c (.sc (.string ⟨#[]⟩))), (.c (.sc (.bool false))), (.c (.sc (.string ⟨#[]⟩)))] [(0, (1, (.t 48))), (2, (1, (.t 53)))]), .ex 55 (.call 239 [(.t 43), (.t 54)]), .ex 5 (.asn (.t 55) 3 59)]) (.s (.s (.r [.ex 57 (.bin .eql (.t 40) (.i 2)), .mv 56 57]) (.cnd (.t 56) .skip (.r [.ex 58 (.bin .eql (.t 40) (.i 4)), .mv 56 58]))) (.cnd (.t 56) (.r [.mv 59 5, .mv 60 0, .mv 61 7, .ex 62 (.ia 3 (.t 60) (.t 61)), .ex 63 (.fa 0 (.t 62)), .ex 64 (.ld false 1 (.t 63)), .ex 65 (.build [(.c (.sc (.string ⟨#[]⟩))), (.c (.sc (.bool false))), (.c (.sc (.string ⟨#[]⟩)))] [(0, (1, (.t 64))), (1, (1, .y))]), .ex 66 (.call 239 [(.t 59), (.t 65)]), .ex 5 (.asn (.t 66) 3 59)]) .skip))))))) (.r [.mv 34 7, .ex 35 (.bin .add (.t 34) (.i 1)), .mv 7 35])))))) (.s (.r [.mv 67 5, .ex 4 (.asn (.t 67) 3 59)]) .ret)))))
theorem c_spec_l3On_eq : compF Tryz.prog [] 212 = some (c_spec_l3On.ac, [(.t 4)], 68) := by kernel_rfl
theorem f_l3On (W0 : World) (l : List Mark) (t : List Ent) (ht : t.length + l.length ≤ 1000000) : Fn Tryz.prog W0 212 [eMarks l, eEnts t] (.c (eEnts (onRaw l t))) [] := by
  refine fnX (c := c_spec_l3On) mixed c_spec_l3On_eq (by simp) rfl fun hg => ?_
  refine dr ?_
  refine lp (σ := Nat) (fun k => [(0, .c (eMarks l)), (1, .c (eEnts t)), (5, .own 80 ((t.take k).filter fun e => !hides l e.path).length), (6, I k)]) (fun k => [(80, .row (((t.take k).filter fun e => !hides l e.path).map eEnt) 3 59)]) (fun k => k ≤ t.length) (fun k => t.length - k) 0 (by simp) ?_ ?_
  · refine dr ?_
    trivial
  intro k hk
  have hfl := filt_le (q := fun e : Ent => !hides l e.path) (l := t) (k := k)
  refine dr ?_
  refine cP (fun h1 => ?_) (fun h1 => ?_)
  · have hk' : k < t.length := by omega
    refine dEr ?_
    repeat (refine c0 (f_l3Hides W0 _ _) rfl ?_; first | refine dEr ?_ | exact dz)
    refine cP (fun h2 => ?_) (fun h2 => ?_)
    · refine dr ?_
      repeat ((first | refine oB (by simp; omega) ?_ | refine oB (by simp) ?_); first | refine dr ?_ | exact dz)
      refine ⟨k + 1, by omega, by omega, ?_⟩
      refine dr ?_
      repeat (refine oB (by rw [filt_t hk' (by simp [h2])]; simp) ?_; first | refine dr ?_ | exact dz)
      trivial
    · refine dr ?_
      refine ⟨k + 1, by omega, by omega, ?_⟩
      refine dr ?_
      repeat (refine oB (by rw [filt_f hk' (by simp [h2])]) ?_; first | refine dr ?_ | exact dz)
      trivial
  have hkl : k = t.length := by omega
  subst hkl
  rw [List.take_length] at hfl ⊢
  have hR : onRaw l t = l.foldl onP (t.filter fun e => !hides l e.path) := rfl
  rw [hR]
  generalize (t.filter fun e => !hides l e.path) = t0 at *
  refine dr ?_
  refine lz (σ := Nat) 80 (fun k => [(0, .c (eMarks l)), (1, .c (eEnts t)), (5, .c (eEnts ((l.take k).foldl onP t0))), (7, I k)]) (fun _ => []) (fun k => k ≤ l.length) (fun k => l.length - k) 0 (by simp) ?_ ?_
  · refine dr ?_
    repeat (refine oB (by simp) ?_; first | refine dr ?_ | exact dz)
    trivial
  clear h1
  intro k hk
  have hlk := fold_on_len (l.take k) t0
  have hlk2 := List.length_take_le' k l
  refine dr ?_
  refine cP (fun h1 => ?_) (fun h1 => ?_)
  · have hk' : k < l.length := by omega
    refine dr ?_
    refine cP (fun h2 => ?_) (fun h2 => ?_)
    · refine dr ?_
      repeat (refine c0 (f_l2Put W0 _ ⟨_, _, _⟩ (by omega)) rfl ?_; first | refine dr ?_ | exact dz)
      intro hg1
      refine dr ?_
      refine ⟨k + 1, by omega, by omega, ?_⟩
      refine dr ?_
      repeat (refine oB (by rw [fold_next hk', onP, if_pos h2]) ?_; first | refine dr ?_ | exact dz)
      trivial
    · refine dr ?_
      refine cP (fun h3 => ?_) (fun h3 => ?_)
      · refine dr ?_
        refine cP (fun h30 => ?_) (fun h30 => ?_)
        rotate_left
        · omega
        refine dr ?_
        repeat (refine c0 (f_l2Put W0 _ ⟨_, _, _⟩ (by omega)) rfl ?_; first | refine dr ?_ | exact dz)
        intro hg1
        refine dr ?_
        refine ⟨k + 1, by omega, by omega, ?_⟩
        refine dr ?_
        repeat (refine oB (by rw [fold_next hk', onP, if_neg h2, if_pos (.inl h3)]) ?_; first | refine dr ?_ | exact dz)
        trivial
      · refine dr ?_
        refine cP (fun h4 => ?_) (fun h4 => ?_)
        · refine dr ?_
          repeat (refine c0 (f_l2Put W0 _ ⟨_, _, _⟩ (by omega)) rfl ?_; first | refine dr ?_ | exact dz)
          intro hg1
          refine dr ?_
          refine ⟨k + 1, by omega, by omega, ?_⟩
          refine dr ?_
          repeat (refine oB (by rw [fold_next hk', onP, if_neg h2, if_pos (.inr h4)]) ?_; first | refine dr ?_ | exact dz)
          trivial
        · refine dr ?_
          refine ⟨k + 1, by omega, by omega, ?_⟩
          refine dr ?_
          repeat (refine oB (by rw [fold_next hk', onP, if_neg h2, if_neg (by omega)]) ?_; first | refine dr ?_ | exact dz)
          trivial
  have hkl : k = l.length := by omega
  refine dr ?_
  rw [hkl, List.take_length]
def c_spec_LayerOn : XC := (.s (.r [.ex 4 (.asn (.k .nil) 3 59), .ex 5 (.mv .n)]) (.s (.s (.r [.mv 7 0, .ex 8 (.call 149 [(.t 7)]), .ex 9 (.un .not (.t 8)), .mv 10 9, .gf 11 (.mv (.t 1)) 10, .gf 12 (.call 160 [(.t 11)]) 10, .gf 13 (.un .not (.t 12)) 10, .ex 14 (.pick (.t 10) .y (.t 13))]) (.cnd (.t 14) (.s (.r [.ex 15 .bsl0, .ex 4 (.asn (.t 15) 3 59), .ex 5 (.mv .n)]) .ret) .skip)) (.s (.r [.mv 16 0, .mv 17 1, .ex 18 (.call 212 [(.t 16), (.t 17)]), .ex 6 (.asn (.t 18) 3 59)]) (.s (.s (.r [.mv 19 6, .ex 20 (.len false (.t 19)), .ex 21 (.bin .gtr (.t 20) (.i 16))]) (.cnd (.t 21) (.s (.r [.ex 22 .bsl0, .ex 4 (.asn (.t 22) 3 59), .ex 5 (.mv .n)]) .ret) .skip)) (.s (.r [.mv 23 6, .ex 4 (.asn (.t 23) 3 59), .ex 5 (.mv .y)]) .ret)))))
theorem c_spec_LayerOn_eq : compF Tryz.prog [] 138 = some (c_spec_LayerOn.ac, [(.t 4), (.t 5)], 24) := by kernel_rfl
theorem f_spec_LayerOn (W0 : World) (l : List Mark) (t : List Ent) : Fn Tryz.prog W0 138 [eMarks l, eEnts t] (.c (eEntsO (lOn l t))) [] := by
  refine fnX (c := c_spec_LayerOn) mixed c_spec_LayerOn_eq (by simp) rfl fun hg => ?_
  refine dr ?_
  repeat (refine c0 (f_spec_LayerOk W0 _) rfl ?_; first | refine dr ?_ | exact dz)
  refine cP (fun h1 => ?_) (fun h1 => ?_)
  · refine dEr ?_
    rw [lOn, if_neg (by simp [h1])]; rfl
  refine dEr ?_
  repeat (refine c0 (f_spec_TreeOk W0 _) rfl ?_; first | refine dEr ?_ | exact dz)
  refine cP (fun h2 => ?_) (fun h2 => ?_)
  · refine dr ?_
    rw [lOn, if_neg (by simp [h2])]; rfl
  have hl : l.length ≤ 32 := by simp only [lOk, Bool.and_eq_true, decide_eq_true_eq] at h1; exact h1.1
  have ht := (tOk_at h2).1
  refine dr ?_
  repeat (refine c0 (f_l3On W0 _ _ (by omega)) rfl ?_; first | refine dr ?_ | exact dz)
  intro hg2
  refine dr ?_
  rw [lOn, if_pos (by simp [h1, h2])]
  refine cP (fun h3 => ?_) (fun h3 => ?_)
  · refine dr ?_
    rw [if_neg (by omega)]; rfl
  · refine dr ?_
    rw [if_pos (by omega)]; rfl
def c_spec_l3Ups : XC := (.s (.r [.ex 4 (.asn (.k .nil) 3 49)]) (.s (.r [.mv 6 1, .ex 7 (.call 167 [(.t 6)]), .mv 5 7]) (.s (.s (.r [.mv 8 5, .ex 9 (.bin .eql (.t 8) (.s [47]))]) (.cnd (.t 9) (.s (.r [.mv 10 0, .ex 4 (.asn (.t 10) 3 49)]) .ret) .skip)) (.s (.s (.r [.mv 11 0, .mv 12 5, .ex 13 (.call 224 [(.t 11), (.t 12)]), .ex 14 (.bin .eql (.t 13) (.i 0))]) (.cnd (.t 14) (.r [.mv 15 0, .mv 16 5, .ex 17 (.build [(.c (.sc (.string ⟨#[]⟩))), (.c (.sc (.int .i64 0))), (.c (.sc (.string ⟨#[]⟩)))] [(0, (1, (.t 16))), (1, (1, (.i 2)))]), .ex 18 (.call 169 [(.t 15), (.t 17)]), .ex 0 (.asn (.t 18) 3 49)]) .skip)) (.s (.r [.mv 19 0, .mv 20 5, .ex 21 (.call 168 [(.t 19), (.t 20)]), .ex 4 (.asn (.t 21) 3 49)]) .ret)))))
theorem c_spec_l3Ups_eq : compF Tryz.prog [] 168 = some (c_spec_l3Ups.ac, [(.t 4)], 22) := by kernel_rfl
theorem f_l3Ups (W0 : World) : ∀ (n : Nat) (l : List Mark) (p : Str), pOk p = true → (names p).length ≤ n → l.length + n ≤ 1000000 → Fn Tryz.prog W0 168 [eMarks l, CS p] (.c (eMarks ((upsN n p).foldl upsP l))) []
  | 0, l, p, hp, hn, _ => by have := (pOk_names hp).1.1; omega
  | n + 1, l, p, hp, hn, hl => by
    refine fnX (c := c_spec_l3Ups) mixed c_spec_l3Ups_eq (by simp) rfl fun hg => ?_
    refine dr ?_
    repeat (refine c0 (f_spec_PathUp W0 _) rfl ?_; first | refine dr ?_ | exact dz)
    intro hg1
    rw [upsN]
    refine cP (fun h1 => ?_) (fun h1 => ?_)
    · refine dr ?_
      rw [if_pos h1]; rfl
    rw [if_neg h1]
    obtain ⟨u1, _, u2⟩ := pOk_up hp h1
    have e : ((pUp p :: upsN n (pUp p)).foldl upsP l) = (upsN n (pUp p)).foldl upsP (upsP l (pUp p)) := rfl
    rw [e, upsP]
    refine dr ?_
    repeat (refine c0 (f_l3Kind W0 _ _) rfl ?_; first | refine dr ?_ | exact dz)
    intro hg2
    refine cP (fun h2 => ?_) (fun h2 => ?_)
    · rw [if_pos h2]
      have hpl : (lput l ⟨pUp p, 2, []⟩).length ≤ l.length + 1 := putG_len
      refine dr ?_
      repeat (refine c0 (f_l3Put W0 _ ⟨pUp p, 2, []⟩ (by omega)) rfl ?_; first | refine dr ?_ | exact dz)
      intro hg3
      refine dr ?_
      repeat (refine c0 (f_l3Ups W0 n _ _ u1 (by omega) (by omega)) rfl ?_; first | refine dr ?_ | exact dz)
      intro hg4
      exact dz
    · rw [if_neg h2]
      refine dr ?_
      repeat (refine c0 (f_l3Ups W0 n _ _ u1 (by omega) (by omega)) rfl ?_; first | refine dr ?_ | exact dz)
      intro hg4
      exact dz
def c_spec_l3Diff : XC := (.s (.r [.ex 4 (.asn (.k .nil) 3 49)]) (.s (.r [.ex 11 .bsl0, .ex 5 (.asn (.t 11) 3 49)]) (.s (.r [.mv 12 0, .mv 13 1, .ex 14 (.call 164 [(.t 12), (.t 13)]), .ex 6 (.asn (.t 14) 1 9)]) (.s (.s (.r [.ex 7 (.mv (.i 0))]) (.blk 0 (.loop (.s (.s (.r [.mv 15 7, .mv 16 6, .ex 17 (.len false (.t 16)), .ex 18 (.bin .lss (.t 15) (.t 17))]) (.cnd (.t 18) .skip (.exit 0))) (.s (.blk 1 (.s (.r [.mv 22 1, .mv 23 6, .mv 24 7, .ex 25 (.ia 1 (.t 23) (.t 24)), .ex 26 (.ld false 1 (.t 25)), .ex 27 (.call 165 [(.t 22), (.t 26)]), .mv 21 27, .ex 28 (.ext (.t 21) 0), .ex 29 (.ext (.t 21) 1), .ex 8 (.alloc [(.c (.sc (.string ⟨#[]⟩))), (.c (.sc (.bool false))), (.c (.sc (.string ⟨#[]⟩)))]), .nu (.st 3 (.t 8) (.t 28)), .mv 9 29]) (.s (.r [.mv 30 6, .mv 31 7, .ex 32 (.ia 1 (.t 30) (.t 31)), .ex 33 (.ld false 1 (.t 32)), .ex 34 (.build [(.c (.sc (.string ⟨#[]⟩))), (.c (.sc (.int .i64 0))), (.c (.sc (.string ⟨#[]⟩)))] [(0, (1, (.t 33))), (1, (1, (.i 3)))]), .ex 10 (.alloc [(.c (.sc (.string ⟨#[]⟩))), (.c (.sc (.int .i64 0))), (.c (.sc (.string ⟨#[]⟩)))]), .nu (.st 3 (.t 10) (.t 34))]) (.s (.s (.r [.mv 35 9]) (.cnd (.t 35) (.d [.mv 36 6, .mv 37 7, .ex 38 (.ia 1 (.t 36) (.t 37)), .ex 39 (.ld false 1 (.t 38)), .ex 40 (.fa 2 (.t 8)), .ex 41 (.ld false 1 (.t 40)), .ex 42 (.build [(.c (.sc (.string ⟨#[]⟩))), (.c (.sc (.int .i64 0))), (.c (.sc (.string ⟨#[]⟩)))] [(0, (1, (.t 39))), (1, (1, (.i 1))), (2, (1, (.t 41)))]), .nu (.st 3 (.t 10) (.t 42))]) .skip)) (.s (.s (.r [.mv 43 9, .mv 44 43, .gt 45 (.fa 1 (.t 8)) 44, .gt 46 (.ld false 1 (.t 45)) 44, .ex 47 (.pick (.t 44) (.t 46) .n)]) (.cnd (.t 47) (.r [.ex 48 (.fa 1 (.t 10)), .nu (.st 1 (.t 48) (.i 2))]) .skip)) (.s (.r [.mv 49 9, .mv 50 49, .gf 51 (.mv (.t 1)) 50, .gf 52 (.mv (.t 6)) 50, .gf 53 (.mv (.t 7)) 50, .gf 54 (.ia 1 (.t 52) (.t 53)) 50, .gf 55 (.ld false 1 (.t 54)) 50, .gf 56 (.call 167 [(.t 55)]) 50, .gf 57 (.call 166 [(.t 51), (.t 56)]) 50, .ex 58 (.pick (.t 50) .y (.t 57))]) (.cnd (.t 58) (.d [.mv 59 5, .ex 60 (.ld true 3 (.t 10)), .ex 61 (.call 169 [(.t 59), (.t 60)]), .mv 62 6, .mv 63 7, .ex 64 (.ia 1 (.t 62) (.t 63)), .ex 65 (.ld false 1 (.t 64)), .ex 66 (.call 168 [(.t 61), (.t 65)]), .ex 5 (.asn (.t 66) 3 49)]) .skip))))))) (.r [.mv 19 7, .ex 20 (.bin .add (.t 19) (.i 1)), .mv 7 20])))))) (.s (.r [.mv 67 5, .ex 4 (.asn (.t 67) 3 49)]) .ret)))))
theorem c_spec_l3Diff_eq : compF Tryz.prog [] 74 = some (c_spec_l3Diff.ac, [(.t 4)], 68) := by kernel_rfl
theorem f_l3Diff (W0 : World) (a b : List Ent) (ha : tOk a = true) (hb : tOk b = true) : Fn Tryz.prog W0 74 [eEnts a, eEnts b] (.c (eMarks (diff a b))) [] := by
  have la := (tOk_at ha).1
  have lb := (tOk_at hb).1
  have lt := turned_len (a := a) (b := b)
  have hok : ∀ p ∈ turned a b, pOk p = true := fun p hp => turned_ok ha hb hp
  refine fnX (c := c_spec_l3Diff) mixed c_spec_l3Diff_eq (by simp) rfl fun hg => ?_
  refine dr ?_
  repeat (refine c0 (f_l2Turned W0 _ _ (by omega)) rfl ?_; first | refine dr ?_ | exact dz)
  intro hg1
  rw [diff]
  generalize turned a b = L at *
  refine dr ?_
  refine lz (σ := Nat) 80 (fun k => [(1, .c (eEnts b)), (6, .c (eStrs L)), (5, .c (eMarks ((L.take k).foldl (difP b) []))), (7, I k)]) (fun _ => []) (fun k => k ≤ L.length) (fun k => L.length - k) 0 (by simp) ?_ ?_
  · refine dr ?_
    trivial
  intro k hk
  have hlk := fold_dif_len (b := b) (L.take k) []
  have hlk2 := List.length_take_le' k L
  simp only [List.length_nil] at hlk
  refine dr ?_
  refine cP (fun h1 => ?_) (fun h1 => ?_)
  · have hk' : k < L.length := by omega
    have hp := hok _ (List.getElem_mem hk')
    have hc := f_l2Get W0 b L[k]
    have hn := (pOk_names hp).1.2
    have hpl : ∀ m, (lput ((L.take k).foldl (difP b) []) m).length ≤ ((L.take k).foldl (difP b) []).length + 1 := fun m => putG_len
    cases hx : get b L[k] with
    | none =>
      rw [hx] at hc
      refine dr ?_
      repeat (refine c0 hc rfl ?_; first | refine dr ?_ | exact dz)
      intro hg2
      refine dr ?_
      repeat ((first | refine c0 (f_spec_PathUp W0 _) rfl ?_ | refine c0 (f_l2Dir W0 _ _) rfl ?_); first | refine dr ?_ | exact dz)
      intro hg3
      refine cP (fun h2 => ?_) (fun h2 => ?_)
      · refine dEr ?_
        repeat ((first | refine c0 (f_l3Put W0 _ ⟨L[k], 3, []⟩ (by omega)) rfl ?_ | refine c0 (f_l3Ups W0 3 _ _ hp hn (by have := hpl ⟨L[k], 3, []⟩; omega)) rfl ?_); first | refine dEr ?_ | exact dz)
        refine ⟨k + 1, by omega, by omega, ?_⟩
        refine dr ?_
        repeat (refine oB (by rw [fold_next hk', difP, difM, hx]; simp only [if_pos h2]; rfl) ?_; first | refine dr ?_ | exact dz)
        trivial
      · refine dr ?_
        refine ⟨k + 1, by omega, by omega, ?_⟩
        refine dr ?_
        repeat (refine oB (by rw [fold_next hk', difP, difM, hx]; simp [h2]) ?_; first | refine dr ?_ | exact dz)
        trivial
    | some e =>
      rw [hx] at hc
      refine dr ?_
      repeat (refine c0 hc rfl ?_; first | refine dr ?_ | exact dz)
      intro hg2
      refine dr ?_
      refine cP (fun h2 => ?_) (fun h2 => ?_)
      · refine dEr ?_
        repeat ((first | refine c0 (f_l3Put W0 _ ⟨L[k], 2, e.data⟩ (by omega)) rfl ?_ | refine c0 (f_l3Ups W0 3 _ _ hp hn (by have := hpl ⟨L[k], 2, e.data⟩; omega)) rfl ?_); first | refine dEr ?_ | exact dz)
        refine ⟨k + 1, by omega, by omega, ?_⟩
        refine dr ?_
        repeat (refine oB (by rw [fold_next hk', difP, difM, hx]; simp only [if_pos h2]; rfl) ?_; first | refine dr ?_ | exact dz)
        trivial
      · refine dEr ?_
        repeat ((first | refine c0 (f_l3Put W0 _ ⟨L[k], 1, e.data⟩ (by omega)) rfl ?_ | refine c0 (f_l3Ups W0 3 _ _ hp hn (by have := hpl ⟨L[k], 1, e.data⟩; omega)) rfl ?_); first | refine dEr ?_ | exact dz)
        refine ⟨k + 1, by omega, by omega, ?_⟩
        refine dr ?_
        repeat (refine oB (by rw [fold_next hk', difP, difM, hx]; simp [h2]; rfl) ?_; first | refine dr ?_ | exact dz)
        trivial
  have hkl : k = L.length := by omega
  refine dr ?_
  rw [hkl, List.take_length]
end Go.Proofs.YthblflnfhdnpdaaGreatDoor

namespace Go.Proofs.YthblflnfhdnpdaaGreatDoor
set_option linter.unusedSimpArgs false
set_option linter.unusedVariables false
open Go Go.RowKit
def c_spec_l4Lower : XC := (.s (.r [.ex 1 (.box (.t 0)), .ex 2 (.asn (.k .nil) 3 59), .ex 3 (.mv .n)]) (.s (.r [.ex 7 (.fa 0 (.t 1)), .ex 8 (.ld false 1 (.t 7)), .ex 4 (.asn (.t 8) 3 59)]) (.s (.s (.r [.mv 9 4, .ex 10 (.call 160 [(.t 9)]), .ex 11 (.un .not (.t 10)), .mv 12 11, .gf 13 (.fa 1 (.t 1)) 12, .gf 14 (.ld false 1 (.t 13)) 12, .gf 15 (.len false (.t 14)) 12, .gf 16 (.bin .gtr (.t 15) (.i 4)) 12, .ex 17 (.pick (.t 12) .y (.t 16))]) (.cnd (.t 17) (.s (.r [.ex 18 .bsl0, .ex 2 (.asn (.t 18) 3 59), .ex 3 (.mv .n)]) .ret) .skip)) (.s (.s (.r [.ex 5 (.mv (.i 0))]) (.blk 0 (.loop (.s (.s (.r [.mv 19 5, .ex 20 (.fa 1 (.t 1)), .ex 21 (.ld false 1 (.t 20)), .ex 22 (.len false (.t 21)), .ex 23 (.bin .lss (.t 19) (.t 22))]) (.cnd (.t 23) .skip (.exit 0))) (.s (.blk 1 (.s (.r [.ex 6 (.mv .n)]) (.s (.r [.ex 27 (.fa 1 (.t 1)), .ex 28 (.ld false 1 (.t 27)), .mv 29 5, .ex 30 (.ia 1 (.t 28) (.t 29)), .ex 31 (.ld false 1 (.t 30)), .mv 32 4, .ex 33 (.call 138 [(.t 31), (.t 32)]), .mv 26 33, .ex 34 (.ext (.t 26) 0), .ex 35 (.ext (.t 26) 1), .ex 4 (.asn (.t 34) 3 59), .mv 6 35]) (.s (.r [.mv 36 6, .ex 37 (.un .not (.t 36))]) (.cnd (.t 37) (.s (.r [.ex 38 .bsl0, .ex 2 (.asn (.t 38) 3 59), .ex 3 (.mv .n)]) .ret) .skip))))) (.r [.mv 24 5, .ex 25 (.bin .add (.t 24) (.i 1)), .mv 5 25])))))) (.s (.r [.ex 39 .bsl0, .mv 40 4, .ex 41 (.app true 3 40 59 (.t 39) (.t 40)), .ex 2 (.asn (.t 41) 3 59), .ex 3 (.mv .y)]) .ret)))))
theorem c_spec_l4Lower_eq : compF Tryz.prog [] 72 = some (c_spec_l4Lower.ac, [(.t 2), (.t 3)], 42) := by kernel_rfl
theorem f_l4Lower (W0 : World) (o : Over) : Fn Tryz.prog W0 72 [eOver o] (.c (eEntsO (lower4 o))) [] := by
  refine fnX (c := c_spec_l4Lower) mixed c_spec_l4Lower_eq (by simp) rfl fun hg => ?_
  refine dEr ?_
  repeat (refine c0 (f_spec_TreeOk W0 _) rfl ?_; first | refine dEr ?_ | exact dz)
  refine cP (fun h1 => ?_) (fun h1 => ?_)
  · refine dr ?_
    rw [lower4, if_neg (by simp [h1])]; rfl
  refine dr ?_
  refine cP (fun h2 => ?_) (fun h2 => ?_)
  · refine dr ?_
    rw [lower4, if_neg (by omega)]; rfl
  rw [lower4, if_pos ⟨h1, by omega⟩]
  refine dr ?_
  refine lp2 (fun (k : Nat) (t : List Ent) => [(1, .ptr 16 0), (4, .c (eEnts t)), (5, I k)]) (fun _ _ => [(16, .box [.c (eEnts o.base), .c (eMarkss o.layers), .c (eMarks o.upper)])]) (fun k t => k ≤ o.layers.length ∧ lowerA (o.layers.take k) o.base = some t ∧ tOk t = true) (fun k _ => o.layers.length - k) 0 o.base ⟨by simp, rfl, h1⟩ ?_ ?_
  · refine dr ?_
    trivial
  rintro k t ⟨hk, ha, ht⟩
  refine dr ?_
  refine cP (fun h3 => ?_) (fun h3 => ?_)
  · have hk' : k < o.layers.length := by omega
    have hn : lowerA (o.layers.take (k + 1)) o.base = lOn o.layers[k] t := by
      rw [List.take_succ_eq_append_getElem hk', lowerA_app, ha]
      simp only [lowerA]
      cases lOn o.layers[k] t <;> rfl
    have hc := f_spec_LayerOn W0 o.layers[k] t
    cases hx : lOn o.layers[k] t with
    | none =>
      rw [hx] at hc
      refine dr ?_
      repeat (refine c0 hc rfl ?_; first | refine dr ?_ | exact dz)
      intro hg1
      refine dr ?_
      have : lowerA o.layers o.base = none := by
        have e : o.layers = o.layers.take (k + 1) ++ o.layers.drop (k + 1) := by rw [List.take_append_drop]
        rw [e, lowerA_app, hn, hx]
      rw [this]; rfl
    | some t' =>
      rw [hx] at hc
      refine dr ?_
      repeat (refine c0 hc rfl ?_; first | refine dr ?_ | exact dz)
      intro hg1
      refine dr ?_
      refine ⟨k + 1, t', ⟨by omega, by rw [hn, hx], lOn_tOk hx⟩, by omega, ?_⟩
      refine dr ?_
      trivial
  have hkl : k = o.layers.length := by omega
  rw [hkl, List.take_length] at ha
  have hl := (tOk_at ht).1
  refine dr ?_
  repeat (refine oB (by simp; omega) ?_; first | refine dr ?_ | exact dz)
  rw [ha]; rfl
def c_spec_l4View : XC := (.s (.r [.ex 1 (.box (.t 0)), .ex 2 (.asn (.k .nil) 3 59), .ex 3 (.mv .n)]) (.s (.r [.ex 7 (.ld true 3 (.t 1)), .ex 8 (.call 72 [(.t 7)]), .mv 6 8, .ex 9 (.ext (.t 6) 0), .ex 10 (.ext (.t 6) 1), .ex 4 (.asn (.t 9) 3 59), .mv 5 10]) (.s (.s (.r [.mv 11 5, .ex 12 (.un .not (.t 11))]) (.cnd (.t 12) (.s (.r [.ex 13 .bsl0, .ex 2 (.asn (.t 13) 3 59), .ex 3 (.mv .n)]) .ret) .skip)) (.s (.r [.ex 14 (.fa 2 (.t 1)), .ex 15 (.ld false 1 (.t 14)), .mv 16 4, .ex 17 (.call 138 [(.t 15), (.t 16)]), .ex 18 (.ext (.t 17) 0), .ex 19 (.ext (.t 17) 1), .ex 2 (.asn (.t 18) 3 59), .mv 3 19]) .ret))))
theorem c_spec_l4View_eq : compF Tryz.prog [] 57 = some (c_spec_l4View.ac, [(.t 2), (.t 3)], 20) := by kernel_rfl
theorem f_l4View (W0 : World) (o : Over) : Fn Tryz.prog W0 57 [eOver o] (.c (eEntsO (view4 o))) [] := by
  refine fnX (c := c_spec_l4View) mixed c_spec_l4View_eq (by simp) rfl fun hg => ?_
  have hc := f_l4Lower W0 o
  cases hx : lower4 o with
  | none =>
    rw [hx] at hc
    refine dr ?_
    repeat (refine c0 hc rfl ?_; first | refine dr ?_ | exact dz)
    intro hg1
    refine dr ?_
    rw [view4, hx]; rfl
  | some t =>
    rw [hx] at hc
    have hv : view4 o = lOn o.upper t := by rw [view4, hx]
    have hc2 := f_spec_LayerOn W0 o.upper t
    rw [hv]
    cases hy : lOn o.upper t with
    | none =>
      rw [hy] at hc2
      refine dr ?_
      repeat (refine c0 hc rfl ?_; first | refine dr ?_ | exact dz)
      intro hg1
      refine dr ?_
      repeat (refine c0 hc2 rfl ?_; first | refine dr ?_ | exact dz)
      intro hg2
      refine dr ?_
      rfl
    | some x =>
      rw [hy] at hc2
      refine dr ?_
      repeat (refine c0 hc rfl ?_; first | refine dr ?_ | exact dz)
      intro hg1
      refine dr ?_
      repeat (refine c0 hc2 rfl ?_; first | refine dr ?_ | exact dz)
      intro hg2
      refine dr ?_
      rfl
def c_spec_OverOk : XC := (.s (.r [.ex 1 (.box (.t 0)), .ex 2 (.mv .n)]) (.s (.r [.ex 8 (.ld true 3 (.t 1)), .ex 9 (.call 72 [(.t 8)]), .mv 7 9, .ex 10 (.ext (.t 7) 0), .ex 11 (.ext (.t 7) 1), .ex 3 (.asn (.t 10) 3 59), .mv 4 11]) (.s (.r [.ex 13 (.ld true 3 (.t 1)), .ex 14 (.call 57 [(.t 13)]), .mv 12 14, .ex 15 (.ext (.t 12) 0), .ex 16 (.ext (.t 12) 1), .ex 5 (.asn (.t 15) 3 59), .mv 6 16]) (.s (.d [.mv 17 4, .mv 18 17, .gt 19 (.mv (.t 6)) 18, .ex 20 (.pick (.t 18) (.t 19) .n), .mv 21 20, .gt 22 (.fa 2 (.t 1)) 21, .gt 23 (.ld false 1 (.t 22)) 21, .gt 24 (.mv (.t 3)) 21, .gt 25 (.mv (.t 5)) 21, .gt 26 (.call 74 [(.t 24), (.t 25)]) 21, .gt 27 (.call 73 [(.t 23), (.t 26)]) 21, .ex 28 (.pick (.t 21) (.t 27) .n), .mv 2 28]) .ret))))
theorem c_spec_OverOk_eq : compF Tryz.prog [] 21 = some (c_spec_OverOk.ac, [(.t 2)], 29) := by kernel_rfl
theorem f_spec_OverOk (W0 : World) (o : Over) : Fn Tryz.prog W0 21 [eOver o] (.c (CB (oOk o))) [] := by
  refine fnX (c := c_spec_OverOk) mixed c_spec_OverOk_eq (by simp) rfl fun hg => ?_
  have hc := f_l4Lower W0 o
  have hc2 := f_l4View W0 o
  cases hx : lower4 o with
  | none =>
    have hv : view4 o = none := by rw [view4, hx]
    rw [hx] at hc
    rw [hv] at hc2
    refine dr ?_
    repeat (refine c0 hc rfl ?_; first | refine dr ?_ | exact dz)
    intro hg1
    refine dr ?_
    repeat (refine c0 hc2 rfl ?_; first | refine dr ?_ | exact dz)
    intro hg2
    refine dr ?_
    rw [oOk, hx]
  | some t =>
    rw [hx] at hc
    cases hy : view4 o with
    | none =>
      rw [hy] at hc2
      refine dr ?_
      repeat (refine c0 hc rfl ?_; first | refine dr ?_ | exact dz)
      intro hg1
      refine dr ?_
      repeat (refine c0 hc2 rfl ?_; first | refine dr ?_ | exact dz)
      intro hg2
      refine dr ?_
      rw [oOk, hx, hy]
    | some x =>
      rw [hy] at hc2
      refine dr ?_
      repeat (refine c0 hc rfl ?_; first | refine dr ?_ | exact dz)
      intro hg1
      refine dr ?_
      repeat (refine c0 hc2 rfl ?_; first | refine dr ?_ | exact dz)
      intro hg2
      refine dr ?_
      repeat ((first | refine c0 (f_l3Diff W0 t x (lower4_tOk hx) (view4_tOk hy)) rfl ?_ | refine c0 (f_spec_LayerSame W0 _ _) rfl ?_); first | refine dr ?_ | exact dz)
      intro hg3
      refine dr ?_
      rw [oOk, hx, hy]
def c_spec_OverView : XC := (.s (.r [.ex 1 (.box (.t 0)), .ex 2 (.asn (.k .nil) 3 59), .ex 3 (.mv .n)]) (.s (.s (.r [.ex 4 (.ld true 3 (.t 1)), .ex 5 (.call 21 [(.t 4)]), .ex 6 (.un .not (.t 5))]) (.cnd (.t 6) (.s (.r [.ex 7 .bsl0, .ex 2 (.asn (.t 7) 3 59), .ex 3 (.mv .n)]) .ret) .skip)) (.s (.r [.ex 8 (.ld true 3 (.t 1)), .ex 9 (.call 57 [(.t 8)]), .ex 10 (.ext (.t 9) 0), .ex 11 (.ext (.t 9) 1), .ex 2 (.asn (.t 10) 3 59), .mv 3 11]) .ret)))
theorem c_spec_OverView_eq : compF Tryz.prog [] 103 = some (c_spec_OverView.ac, [(.t 2), (.t 3)], 12) := by kernel_rfl
theorem f_spec_OverView (W0 : World) (o : Over) : Fn Tryz.prog W0 103 [eOver o] (.c (eEntsO (if oOk o = true then view4 o else none))) [] := by
  refine fnX (c := c_spec_OverView) mixed c_spec_OverView_eq (by simp) rfl fun hg => ?_
  refine dEr ?_
  repeat (refine c0 (f_spec_OverOk W0 _) rfl ?_; first | refine dEr ?_ | exact dz)
  refine cP (fun h1 => ?_) (fun h1 => ?_)
  · refine dr ?_
    rw [if_neg (by simp [h1])]; rfl
  rw [if_pos h1]
  have hc := f_l4View W0 o
  cases hy : view4 o with
  | none =>
    rw [hy] at hc
    refine dr ?_
    repeat (refine c0 hc rfl ?_; first | refine dr ?_ | exact dz)
    intro hg1
    refine dr ?_
    rfl
  | some x =>
    rw [hy] at hc
    refine dr ?_
    repeat (refine c0 hc rfl ?_; first | refine dr ?_ | exact dz)
    intro hg1
    refine dr ?_
    rfl
end Go.Proofs.YthblflnfhdnpdaaGreatDoor

namespace Go.Proofs.YthblflnfhdnpdaaGreatDoor
set_option linter.unusedSimpArgs false
set_option linter.unusedVariables false
open Go Go.RowKit
end Go.Proofs.YthblflnfhdnpdaaGreatDoor

namespace Go.Proofs.YthblflnfhdnpdaaGreatDoor
set_option linter.unusedSimpArgs false
set_option linter.unusedVariables false
open Go Go.RowKit
end Go.Proofs.YthblflnfhdnpdaaGreatDoor

namespace Go.Proofs.YthblflnfhdnpdaaGreatDoor
set_option linter.unusedSimpArgs false
set_option linter.unusedVariables false
open Go Go.RowKit
structure OZ (k : Nat) (o : Over) : Prop where
  b : o.base.length ≤ k
  n : o.layers.length ≤ k
  l : ∀ l ∈ o.layers, l.length ≤ k
  u : o.upper.length ≤ k
theorem OZ.mono {o : Over} {n m : Nat} (h : OZ n o) (hm : n ≤ m) : OZ m o := ⟨by have := h.b; omega, by have := h.n; omega, fun l hl => by have := h.l l hl; omega, by have := h.u; omega⟩
end Go.Proofs.YthblflnfhdnpdaaGreatDoor

namespace Go.Proofs.YthblflnfhdnpdaaGreatDoor
set_option linter.unusedSimpArgs false
set_option linter.unusedVariables false
open Go Go.RowKit
abbrev wCs (w : Wld) : List PV := [.c (eEnts w.over.base), .c (eMarkss w.over.layers), .c (eMarks w.over.upper), I w.clock, I w.count, .c (eLeases w.leases), .c (eHoldss w.holds), .c (eInts w.floors), .c (eMsgs w.net), B w.waits, I w.op.kind, .c (CS w.op.path), .c (CS w.op.dest), .c (CS w.op.data)]
abbrev wBx (w : Wld) : XB := .box (wCs w)
abbrev hCs (h : Hold) : List PV := [.c (CS h.path), B h.has, .c (CS h.ent.path), B h.ent.dir, .c (CS h.ent.data), I h.num, I h.til]
abbrev lCs (l : Lease) : List PV := [I l.who, .c (CS l.path), I l.num, I l.til]
abbrev mCs (m : Msg) : List PV := [I m.kind, I m.who, .c (CS m.hold.path), B m.hold.has, .c (CS m.hold.ent.path), B m.hold.ent.dir, .c (CS m.hold.ent.data), I m.hold.num, I m.hold.til]
theorem aHd {w : Wld} {who : Int} (hw : isW who) (hl : w.holds.length = 3) {K : CV → Prop} (h : K (eHolds (hdW w who))) : AtX who (w.holds.map eHolds) K := by
  have := hw.1; have := hw.2
  have hk : who.toNat < w.holds.length := by omega
  refine ⟨who.toNat, by omega, _, by rw [List.getElem?_map, List.getElem?_eq_getElem hk]; rfl, ?_⟩
  have e : hdW w who = w.holds[who.toNat] := by unfold hdW; rw [List.getD_eq_getElem?_getD, List.getElem?_eq_getElem hk]; rfl
  rw [← e]; exact h
theorem aFl {w : Wld} {who : Int} (hw : isW who) (hl : w.floors.length = 3) {K : CV → Prop} (h : K (CI (flW w who))) : AtX who (w.floors.map CI) K := by
  have := hw.1; have := hw.2
  have hk : who.toNat < w.floors.length := by omega
  refine ⟨who.toNat, by omega, _, by rw [List.getElem?_map, List.getElem?_eq_getElem hk]; rfl, ?_⟩
  have e : flW w who = w.floors[who.toNat] := by unfold flW; rw [List.getD_eq_getElem?_getD, List.getElem?_eq_getElem hk]; rfl
  rw [← e]; exact h
theorem tb_leI {a b : Int} : leI a b = tb (a ≤ b) := by rw [Bool.eq_iff_iff, leI_t, tb_i]
theorem tb_ltI {a b : Int} : ltI a b = tb (a < b) := by rw [Bool.eq_iff_iff, ltI_t, tb_i]
def c_spec_l5Who : XC := (.s (.r [.ex 2 (.mv .n)]) (.s (.r [.mv 3 0, .ex 4 (.bin .geq (.t 3) (.i 0)), .mv 5 4, .gt 6 (.mv (.t 0)) 5, .gt 7 (.bin .lss (.t 6) (.i 3)) 5, .ex 8 (.pick (.t 5) (.t 7) .n), .mv 2 8]) .ret))
theorem c_spec_l5Who_eq : compF Tryz.prog [] 96 = some (c_spec_l5Who.ac, [(.t 2)], 9) := by kernel_rfl
theorem f_l5Who (W0 : World) (who : Int) : Fn Tryz.prog W0 96 [CI who] (.c (CB (tb (isW who)))) [] := by
  refine fnX (c := c_spec_l5Who) mixed c_spec_l5Who_eq (by simp) rfl fun hg => ?_
  refine dr ?_
  refine cP (fun h1 => ?_) (fun h1 => ?_)
  · refine dr ?_
    rw [tb_ltI]
    exact congrArg CB (tb_c ⟨fun h => ⟨h1, h⟩, fun h => h.2⟩)
  · refine dr ?_
    exact pF fun h => by have := h.1; omega
def noL : Lease := ⟨0, [], 0, 0⟩
def eLO (x : Option Lease) : CV := .tup [eLease (x.getD noL), CB x.isSome]
theorem lfind_here {l : List Lease} {k : Nat} (h : k < l.length) {who : Int} {p : Str} (hn : lfind (l.take k) who p = none) (h1 : l[k].who = who) (h2 : l[k].path = p) : lfind l who p = some l[k] := by
  have e : l = l.take k ++ (l[k] :: l.drop (k + 1)) := by rw [← List.drop_eq_getElem_cons h, List.take_append_drop]
  have e2 : lfind (l.take k ++ (l[k] :: l.drop (k + 1))) who p = some l[k] := by
    rw [lfind_app, hn]
    unfold lfind
    rw [List.find?_cons, h1, h2]; simp
  rw [← e] at e2; exact e2
theorem lfind_on {l : List Lease} {k : Nat} (h : k < l.length) {who : Int} {p : Str} (hn : lfind (l.take k) who p = none) (h1 : ¬ (l[k].who = who ∧ l[k].path = p)) : lfind (l.take (k + 1)) who p = none := by
  rw [List.take_succ_eq_append_getElem h, lfind_app, hn]
  exact lfind_none fun x hx => by rw [List.mem_singleton.1 hx]; exact h1
def c_spec_l5Lease : XC := (.s (.r [.ex 3 (.box (.t 0)), .ex 6 (.alloc [(.c (.sc (.int .i64 0))), (.c (.sc (.string ⟨#[]⟩))), (.c (.sc (.int .i64 0))), (.c (.sc (.int .i64 0)))]), .ex 7 (.mv .n)]) (.s (.s (.r [.ex 8 (.mv (.i 0))]) (.blk 0 (.loop (.s (.s (.r [.mv 9 8, .ex 10 (.fa 5 (.t 3)), .ex 11 (.ld false 1 (.t 10)), .ex 12 (.len false (.t 11)), .ex 13 (.bin .lss (.t 9) (.t 12))]) (.cnd (.t 13) .skip (.exit 0))) (.s (.blk 1 (.s (.r [.ex 16 (.fa 5 (.t 3)), .ex 17 (.ld false 1 (.t 16)), .mv 18 8, .ex 19 (.ia 4 (.t 17) (.t 18)), .ex 20 (.fa 0 (.t 19)), .ex 21 (.ld false 1 (.t 20)), .mv 22 1, .ex 23 (.bin .eql (.t 21) (.t 22)), .mv 24 23, .gt 25 (.fa 5 (.t 3)) 24, .gt 26 (.ld false 1 (.t 25)) 24, .gt 27 (.mv (.t 8)) 24, .gt 28 (.ia 4 (.t 26) (.t 27)) 24, .gt 29 (.fa 1 (.t 28)) 24, .gt 30 (.ld false 1 (.t 29)) 24, .gt 31 (.mv (.t 2)) 24, .gt 32 (.bin .eql (.t 30) (.t 31)) 24, .ex 33 (.pick (.t 24) (.t 32) .n)]) (.cnd (.t 33) (.s (.r [.ex 34 (.fa 5 (.t 3)), .ex 35 (.ld false 1 (.t 34)), .mv 36 8, .ex 37 (.ia 4 (.t 35) (.t 36)), .ex 38 (.ld true 4 (.t 37)), .nu (.st 4 (.t 6) (.t 38)), .ex 7 (.mv .y)]) .ret) .skip))) (.r [.mv 14 8, .ex 15 (.bin .add (.t 14) (.i 1)), .mv 8 15])))))) (.s (.r [.ex 39 (.build [(.c (.sc (.int .i64 0))), (.c (.sc (.string ⟨#[]⟩))), (.c (.sc (.int .i64 0))), (.c (.sc (.int .i64 0)))] []), .nu (.st 4 (.t 6) (.t 39)), .ex 7 (.mv .n)]) .ret)))
theorem c_spec_l5Lease_eq : compF Tryz.prog [] 248 = some (c_spec_l5Lease.ac, [(.cell 6 true 4), (.t 7)], 40) := by kernel_rfl
theorem f_l5Lease (W0 : World) (w : Wld) (who : Int) (p : Str) : Fn Tryz.prog W0 248 [eWld w, CI who, CS p] (.c (eLO (lfind w.leases who p))) [] := by
  refine fnX (c := c_spec_l5Lease) mixed c_spec_l5Lease_eq (by simp) rfl fun hg => ?_
  have g0 := goodAgg (hg _ (by simp : eWld w ∈ _))
  have g1 : w.leases.length ≤ 9223372036854775807 := goodRow (g0 _ (by simp : eLeases w.leases ∈ _))
  refine dr ?_
  refine lp (σ := Nat) (fun k => [(1, .c (CI who)), (2, .c (CS p)), (3, .ptr 48 0), (6, .ptr 96 0), (8, I k)]) (fun _ => [(48, wBx w), (96, .box (lCs noL))]) (fun k => k ≤ w.leases.length ∧ lfind (w.leases.take k) who p = none) (fun k => w.leases.length - k) 0 ⟨by omega, rfl⟩ ?_ ?_
  · refine dr ?_
    trivial
  rintro k ⟨hk, hn⟩
  refine dr ?_
  refine cP (fun h1 => ?_) (fun h1 => ?_)
  · have hk' : k < w.leases.length := by omega
    refine dr ?_
    refine cP (fun h2 => ?_) (fun h2 => ?_)
    · refine dr ?_
      refine cP (fun h3 => ?_) (fun h3 => ?_)
      · refine dr ?_
        rw [lfind_here hk' hn h2 h3] <;> rfl
      · refine dr ?_
        refine ⟨k + 1, ⟨by omega, lfind_on hk' hn fun h => h3 h.2⟩, by omega, ?_⟩
        refine dr ?_
        trivial
    · refine dr ?_
      refine ⟨k + 1, ⟨by omega, lfind_on hk' hn fun h => h2 h.1⟩, by omega, ?_⟩
      refine dr ?_
      trivial
  · have hkl : k = w.leases.length := by omega
    rw [hkl, List.take_length] at hn
    refine dr ?_
    rw [hn] <;> rfl
def c_spec_l5Leases : XC := (.s (.r [.ex 1 (.box (.t 0)), .ex 2 (.mv .n)]) (.s (.s (.r [.ex 3 (.mv (.i 0))]) (.blk 0 (.loop (.s (.s (.r [.mv 6 3, .ex 7 (.fa 5 (.t 1)), .ex 8 (.ld false 1 (.t 7)), .ex 9 (.len false (.t 8)), .ex 10 (.bin .lss (.t 6) (.t 9))]) (.cnd (.t 10) .skip (.exit 0))) (.s (.blk 1 (.s (.r [.ex 13 (.fa 5 (.t 1)), .ex 14 (.ld false 1 (.t 13)), .mv 15 3, .ex 16 (.ia 4 (.t 14) (.t 15)), .ex 17 (.ld true 4 (.t 16)), .ex 4 (.alloc [(.c (.sc (.int .i64 0))), (.c (.sc (.string ⟨#[]⟩))), (.c (.sc (.int .i64 0))), (.c (.sc (.int .i64 0)))]), .nu (.st 4 (.t 4) (.t 17))]) (.s (.s (.r [.ex 18 (.fa 0 (.t 4)), .ex 19 (.ld false 1 (.t 18)), .ex 20 (.call 96 [(.t 19)]), .ex 21 (.un .not (.t 20)), .mv 22 21, .gf 23 (.fa 1 (.t 4)) 22, .gf 24 (.ld false 1 (.t 23)) 22, .gf 25 (.call 175 [(.t 24)]) 22, .gf 26 (.un .not (.t 25)) 22, .ex 27 (.pick (.t 22) .y (.t 26)), .mv 28 27, .gf 29 (.fa 2 (.t 4)) 28, .gf 30 (.ld false 1 (.t 29)) 28, .gf 31 (.bin .lss (.t 30) (.i 1)) 28, .ex 32 (.pick (.t 28) .y (.t 31)), .mv 33 32, .gf 34 (.fa 2 (.t 4)) 33, .gf 35 (.ld false 1 (.t 34)) 33, .gf 36 (.fa 4 (.t 1)) 33, .gf 37 (.ld false 1 (.t 36)) 33, .gf 38 (.bin .gtr (.t 35) (.t 37)) 33, .ex 39 (.pick (.t 33) .y (.t 38)), .mv 40 39, .gf 41 (.fa 3 (.t 4)) 40, .gf 42 (.ld false 1 (.t 41)) 40, .gf 43 (.fa 3 (.t 1)) 40, .gf 44 (.ld false 1 (.t 43)) 40, .gf 45 (.bin .add (.t 44) (.i 5)) 40, .gf 46 (.bin .gtr (.t 42) (.t 45)) 40, .ex 47 (.pick (.t 40) .y (.t 46))]) (.cnd (.t 47) (.s (.r [.ex 2 (.mv .n)]) .ret) .skip)) (.s (.r [.ex 5 (.mv (.i 0))]) (.blk 2 (.loop (.s (.s (.r [.mv 48 5, .mv 49 3, .ex 50 (.bin .lss (.t 48) (.t 49))]) (.cnd (.t 50) .skip (.exit 2))) (.s (.blk 3 (.s (.d [.ex 53 (.fa 5 (.t 1)), .ex 54 (.ld false 1 (.t 53)), .mv 55 5, .ex 56 (.ia 4 (.t 54) (.t 55)), .ex 57 (.fa 0 (.t 56)), .ex 58 (.ld false 1 (.t 57)), .ex 59 (.fa 0 (.t 4)), .ex 60 (.ld false 1 (.t 59)), .ex 61 (.bin .eql (.t 58) (.t 60)), .mv 62 61, .gt 63 (.fa 5 (.t 1)) 62, .gt 64 (.ld false 1 (.t 63)) 62, .gt 65 (.mv (.t 5)) 62, .gt 66 (.ia 4 (.t 64) (.t 65)) 62, .gt 67 (.fa 1 (.t 66)) 62, .gt 68 (.ld false 1 (.t 67)) 62, .gt 69 (.fa 1 (.t 4)) 62, .gt 70 (.ld false 1 (.t 69)) 62, .gt 71 (.bin .eql (.t 68) (.t 70)) 62, .ex 72 (.pick (.t 62) (.t 71) .n)]) (.cnd (.t 72) (.s (.r [.ex 2 (.mv .n)]) .ret) .skip))) (.r [.mv 51 5, .ex 52 (.bin .add (.t 51) (.i 1)), .mv 5 52]))))))))) (.r [.mv 11 3, .ex 12 (.bin .add (.t 11) (.i 1)), .mv 3 12])))))) (.s (.r [.ex 2 (.mv .y)]) .ret)))
theorem c_spec_l5Leases_eq : compF Tryz.prog [] 105 = some (c_spec_l5Leases.ac, [(.t 2)], 73) := by kernel_rfl
theorem f_l5Leases (W0 : World) (w : Wld) (hp : w.clock ≤ 10000) : Fn Tryz.prog W0 105 [eWld w] (.c (CB (tb (LsOk w)))) [] := by
  refine fnX (c := c_spec_l5Leases) mixed c_spec_l5Leases_eq (by simp) rfl fun hg => ?_
  have g0 := goodAgg (hg _ (by simp : eWld w ∈ _))
  have g1 : w.leases.length ≤ 9223372036854775807 := goodRow (g0 _ (by simp : eLeases w.leases ∈ _))
  have g2 := goodI (g0 _ (by simp : CI w.clock ∈ _))
  refine dr ?_
  refine lp (σ := Nat) (fun k => [(1, .ptr 16 0), (3, I k)]) (fun _ => [(16, wBx w)]) (fun k => k ≤ w.leases.length ∧ (∀ l ∈ w.leases.take k, LsG w l) ∧ (w.leases.take k).Pairwise LsD) (fun k => w.leases.length - k) 0 ⟨by omega, by simp, by simp⟩ ?_ ?_
  · refine dr ?_
    trivial
  rintro k ⟨hk, hA, hP⟩
  refine dr ?_
  refine cP (fun h1 => ?_) (fun h1 => ?_)
  rotate_left
  · have hkl : k = w.leases.length := by omega
    rw [hkl, List.take_length] at hA hP
    refine dr ?_
    exact pT ⟨hA, hP⟩
  have hk' : k < w.leases.length := by omega
  have no : ¬ LsG w w.leases[k] → CB false = CB (tb (LsOk w)) := fun h => pF fun hh => h (hh.g _ (List.getElem_mem hk'))
  refine dr ?_
  refine c0 (f_l5Who W0 _) rfl ?_
  refine dEr ?_
  refine cP (fun a1 => ?_) (fun a1 => ?_)
  · refine dr ?_
    exact no fun h => a1 h.1
  refine dEr ?_
  repeat (refine c0 (f_spec_PathOk W0 _) rfl ?_; first | refine dEr ?_ | exact dz)
  refine cP (fun a2 => ?_) (fun a2 => ?_)
  · refine dr ?_
    exact no fun h => by rw [h.2.1] at a2; cases a2
  refine dr ?_
  refine cP (fun a3 => ?_) (fun a3 => ?_)
  · refine dr ?_
    exact no fun h => by have := h.2.2.1; omega
  refine dr ?_
  refine cP (fun a4 => ?_) (fun a4 => ?_)
  · refine dr ?_
    exact no fun h => by have := h.2.2.2.1; omega
  refine dr ?_
  repeat (refine oB (by omega) ?_; first | refine dr ?_ | exact dz)
  refine cP (fun a5 => ?_) (fun a5 => ?_)
  · refine dr ?_
    exact no fun h => by have := h.2.2.2.2; omega
  refine dr ?_
  refine lp (σ := Nat) (fun j => [(1, .ptr 16 0), (3, I k), (4, .ptr 64 0), (5, I j)]) (fun _ => [(16, wBx w), (64, .box (lCs w.leases[k]))]) (fun j => j ≤ k ∧ ∀ l ∈ w.leases.take j, LsD l w.leases[k]) (fun j => k - j) 0 ⟨by omega, by simp⟩ ?_ ?_
  · refine dr ?_
    trivial
  rintro j ⟨hj, hD⟩
  refine dr ?_
  refine cP (fun b1 => ?_) (fun b1 => ?_)
  rotate_left
  · have hjk : j = k := by omega
    rw [hjk] at hD
    refine dr ?_
    refine ⟨k + 1, ⟨by omega, ?_, ?_⟩, by omega, ?_⟩
    · rw [List.take_succ_eq_append_getElem hk']
      intro l hl
      rcases List.mem_append.1 hl with h | h
      · exact hA l h
      · rw [List.mem_singleton.1 h]; exact ⟨a1, a2, by omega, by omega, by omega⟩
    · rw [List.take_succ_eq_append_getElem hk', List.pairwise_append]
      exact ⟨hP, by simp, fun a ha b hb => by rw [List.mem_singleton.1 hb]; exact hD a ha⟩
    refine dr ?_
    trivial
  have hjl : j < w.leases.length := by omega
  have next : ¬ (w.leases[j].who = w.leases[k].who ∧ w.leases[j].path = w.leases[k].path) → ∀ l ∈ w.leases.take (j + 1), LsD l w.leases[k] := fun h l hl => by
    rw [List.take_succ_eq_append_getElem hjl] at hl
    rcases List.mem_append.1 hl with h' | h'
    · exact hD l h'
    · rw [List.mem_singleton.1 h']; exact h
  refine dr ?_
  refine cP (fun b2 => ?_) (fun b2 => ?_)
  · refine dr ?_
    refine cP (fun b3 => ?_) (fun b3 => ?_)
    · refine dr ?_
      refine pF fun hh => ?_
      have := List.pairwise_iff_getElem.1 hh.d j k hjl hk' (by omega)
      exact this ⟨b2, b3⟩
    · refine dr ?_
      refine ⟨j + 1, ⟨by omega, next fun h => b3 h.2⟩, by omega, ?_⟩
      refine dr ?_
      trivial
  · refine dr ?_
    refine ⟨j + 1, ⟨by omega, next fun h => b2 h.1⟩, by omega, ?_⟩
    refine dr ?_
    trivial
def c_spec_l5So : XC := (.s (.r [.ex 4 (.box (.t 0)), .ex 7 (.box (.t 3)), .ex 8 (.mv .n)]) (.s (.s (.r [.ex 13 (.fa 3 (.t 4)), .ex 14 (.ld false 1 (.t 13)), .ex 15 (.fa 6 (.t 7)), .ex 16 (.ld false 1 (.t 15)), .ex 17 (.bin .geq (.t 14) (.t 16))]) (.cnd (.t 17) (.s (.r [.ex 8 (.mv .y)]) .ret) .skip)) (.s (.r [.mv 19 1, .ex 20 (.fa 0 (.t 7)), .ex 21 (.ld false 1 (.t 20)), .ex 22 (.call 165 [(.t 19), (.t 21)]), .mv 18 22, .ex 23 (.ext (.t 18) 0), .ex 24 (.ext (.t 18) 1), .ex 9 (.alloc [(.c (.sc (.string ⟨#[]⟩))), (.c (.sc (.bool false))), (.c (.sc (.string ⟨#[]⟩)))]), .nu (.st 3 (.t 9) (.t 23)), .mv 10 24]) (.s (.r [.ex 26 (.ld true 14 (.t 4)), .mv 27 2, .ex 28 (.fa 0 (.t 7)), .ex 29 (.ld false 1 (.t 28)), .ex 30 (.call 248 [(.t 26), (.t 27), (.t 29)]), .mv 25 30, .ex 31 (.ext (.t 25) 0), .ex 32 (.ext (.t 25) 1), .ex 11 (.alloc [(.c (.sc (.int .i64 0))), (.c (.sc (.string ⟨#[]⟩))), (.c (.sc (.int .i64 0))), (.c (.sc (.int .i64 0)))]), .nu (.st 4 (.t 11) (.t 31)), .mv 12 32]) (.s (.r [.mv 33 10, .ex 34 (.fa 1 (.t 7)), .ex 35 (.ld false 1 (.t 34)), .ex 36 (.bb false (.t 33) (.t 35)), .mv 37 36, .gt 38 (.ld true 3 (.t 9)) 37, .gt 39 (.fa 2 (.t 7)) 37, .gt 40 (.ld true 3 (.t 39)) 37, .gt 41 (.beq false [.s, .b, .s] (.t 38) (.t 40)) 37, .ex 42 (.pick (.t 37) (.t 41) .n), .mv 43 42, .gt 44 (.mv (.t 12)) 43, .ex 45 (.pick (.t 43) (.t 44) .n), .mv 46 45, .gt 47 (.fa 3 (.t 4)) 46, .gt 48 (.ld false 1 (.t 47)) 46, .gt 49 (.fa 3 (.t 11)) 46, .gt 50 (.ld false 1 (.t 49)) 46, .gt 51 (.bin .lss (.t 48) (.t 50)) 46, .ex 52 (.pick (.t 46) (.t 51) .n), .mv 53 52, .gt 54 (.fa 2 (.t 11)) 53, .gt 55 (.ld false 1 (.t 54)) 53, .gt 56 (.fa 5 (.t 7)) 53, .gt 57 (.ld false 1 (.t 56)) 53, .gt 58 (.bin .geq (.t 55) (.t 57)) 53, .ex 59 (.pick (.t 53) (.t 58) .n), .mv 60 59, .gt 61 (.fa 3 (.t 11)) 60, .gt 62 (.ld false 1 (.t 61)) 60, .gt 63 (.fa 6 (.t 7)) 60, .gt 64 (.ld false 1 (.t 63)) 60, .gt 65 (.bin .geq (.t 62) (.t 64)) 60, .ex 66 (.pick (.t 60) (.t 65) .n), .mv 8 66]) .ret)))))
theorem c_spec_l5So_eq : compF Tryz.prog [] 176 = some (c_spec_l5So.ac, [(.t 8)], 67) := by kernel_rfl
theorem so_iff {w : Wld} {t : List Ent} {who : Int} {h : Hold} (ha : w.clock < h.til) : So w t who h ↔ ((get t h.path).isSome = h.has ∧ (get t h.path).getD noE = h.ent ∧ (lfind w.leases who h.path).isSome = true ∧
    w.clock < ((lfind w.leases who h.path).getD noL).til ∧ h.num ≤ ((lfind w.leases who h.path).getD noL).num ∧ h.til ≤ ((lfind w.leases who h.path).getD noL).til) := by
  constructor
  · intro hs
    obtain ⟨l, h1, h2, h3, h4, h5, h6⟩ := hs ha
    rw [h1]
    exact ⟨h2, h3, rfl, h4, h5, h6⟩
  · rintro ⟨h2, h3, h1, h4, h5, h6⟩ _
    obtain ⟨l, hl⟩ := Option.isSome_iff_exists.1 h1
    rw [hl] at h4 h5 h6
    exact ⟨l, hl, h2, h3, h4, h5, h6⟩
theorem f_l5So (W0 : World) (w : Wld) (t : List Ent) (who : Int) (h : Hold) : Fn Tryz.prog W0 176 [eWld w, eEnts t, CI who, eHold h] (.c (CB (tb (So w t who h)))) [] := by
  refine fnX (c := c_spec_l5So) mixed c_spec_l5So_eq (by simp) rfl fun hg => ?_
  have hc := f_l2Get W0 t h.path
  rw [eEntO_eq] at hc
  have hl := f_l5Lease W0 w who h.path
  refine dr ?_
  refine cP (fun h1 => ?_) (fun h1 => ?_)
  · refine dr ?_
    exact pT fun ha => by omega
  rw [tb_c (so_iff (by omega))]
  have e1 := @so_iff w t who h (by omega)
  generalize (get t h.path) = x at *
  unfold eLO at hl
  generalize (lfind w.leases who h.path) = y at *
  refine dEr ?_
  repeat ((first | refine c0 hc rfl ?_ | refine c0 hl rfl ?_); first | refine dEr ?_ | exact dz)
  refine cP (fun h2 => ?_) (fun h2 => ?_)
  rotate_left
  · refine dr ?_
    exact pF fun hh => h2 hh.1
  refine dr ?_
  rw [bqEnt]
  refine cP (fun h3 => ?_) (fun h3 => ?_)
  rotate_left
  · refine dr ?_
    exact pF fun hh => h3 hh.2.1
  refine dr ?_
  refine cP (fun h4 => ?_) (fun h4 => ?_)
  rotate_left
  · refine dr ?_
    exact pF fun hh => by rw [hh.2.2.1] at h4; cases h4
  refine dr ?_
  refine cP (fun h5 => ?_) (fun h5 => ?_)
  rotate_left
  · refine dr ?_
    exact pF fun hh => by have := hh.2.2.2.1; omega
  refine dr ?_
  refine cP (fun h6 => ?_) (fun h6 => ?_)
  rotate_left
  · refine dr ?_
    exact pF fun hh => by have := hh.2.2.2.2.1; omega
  refine dr ?_
  rw [tb_leI]
  exact congrArg CB (tb_c ⟨fun h => ⟨h2, h3, h4, h5, h6, h⟩, fun h => h.2.2.2.2.2⟩)
def c_spec_l5Held : XC := (.s (.r [.ex 3 (.box (.t 0)), .ex 6 (.mv .n)]) (.s (.r [.ex 11 (.fa 6 (.t 3)), .ex 12 (.ld false 1 (.t 11)), .mv 13 2, .ex 14 (.ia 1 (.t 12) (.t 13)), .ex 15 (.ld false 1 (.t 14)), .ex 7 (.asn (.t 15) 7 71)]) (.s (.s (.r [.ex 8 (.mv (.i 0))]) (.blk 0 (.loop (.s (.s (.r [.mv 16 8, .mv 17 7, .ex 18 (.len false (.t 17)), .ex 19 (.bin .lss (.t 16) (.t 18))]) (.cnd (.t 19) .skip (.exit 0))) (.s (.blk 1 (.s (.r [.mv 22 7, .mv 23 8, .ex 24 (.ia 7 (.t 22) (.t 23)), .ex 25 (.ld true 7 (.t 24)), .ex 9 (.alloc [(.c (.sc (.string ⟨#[]⟩))), (.c (.sc (.bool false))), (.c (.sc (.string ⟨#[]⟩))), (.c (.sc (.bool false))), (.c (.sc (.string ⟨#[]⟩))), (.c (.sc (.int .i64 0))), (.c (.sc (.int .i64 0)))]), .nu (.st 7 (.t 9) (.t 25))]) (.s (.s (.r [.ex 26 (.fa 0 (.t 9)), .ex 27 (.ld false 1 (.t 26)), .ex 28 (.call 175 [(.t 27)]), .ex 29 (.un .not (.t 28)), .mv 30 29, .gf 31 (.fa 5 (.t 9)) 30, .gf 32 (.ld false 1 (.t 31)) 30, .gf 33 (.bin .lss (.t 32) (.i 0)) 30, .ex 34 (.pick (.t 30) .y (.t 33)), .mv 35 34, .gf 36 (.fa 5 (.t 9)) 35, .gf 37 (.ld false 1 (.t 36)) 35, .gf 38 (.fa 4 (.t 3)) 35, .gf 39 (.ld false 1 (.t 38)) 35, .gf 40 (.bin .gtr (.t 37) (.t 39)) 35, .ex 41 (.pick (.t 35) .y (.t 40)), .mv 42 41, .gf 43 (.ld true 14 (.t 3)) 42, .gf 44 (.mv (.t 1)) 42, .gf 45 (.mv (.t 2)) 42, .gf 46 (.ld true 7 (.t 9)) 42, .gf 47 (.call 176 [(.t 43), (.t 44), (.t 45), (.t 46)]) 42, .gf 48 (.un .not (.t 47)) 42, .ex 49 (.pick (.t 42) .y (.t 48))]) (.cnd (.t 49) (.s (.r [.ex 6 (.mv .n)]) .ret) .skip)) (.s (.r [.ex 10 (.mv (.i 0))]) (.blk 2 (.loop (.s (.s (.r [.mv 50 10, .mv 51 8, .ex 52 (.bin .lss (.t 50) (.t 51))]) (.cnd (.t 52) .skip (.exit 2))) (.s (.blk 3 (.s (.d [.mv 55 7, .mv 56 10, .ex 57 (.ia 7 (.t 55) (.t 56)), .ex 58 (.fa 0 (.t 57)), .ex 59 (.ld false 1 (.t 58)), .ex 60 (.fa 0 (.t 9)), .ex 61 (.ld false 1 (.t 60)), .ex 62 (.bin .eql (.t 59) (.t 61))]) (.cnd (.t 62) (.s (.r [.ex 6 (.mv .n)]) .ret) .skip))) (.r [.mv 53 10, .ex 54 (.bin .add (.t 53) (.i 1)), .mv 10 54]))))))))) (.r [.mv 20 8, .ex 21 (.bin .add (.t 20) (.i 1)), .mv 8 21])))))) (.s (.r [.ex 6 (.mv .y)]) .ret))))
theorem c_spec_l5Held_eq : compF Tryz.prog [] 107 = some (c_spec_l5Held.ac, [(.t 6)], 63) := by kernel_rfl
theorem f_l5Held (W0 : World) (w : Wld) (t : List Ent) (who : Int) (hw : isW who) (hl : w.holds.length = 3) : Fn Tryz.prog W0 107 [eWld w, eEnts t, CI who] (.c (CB (tb (HdOk w t who)))) [] := by
  refine fnX (c := c_spec_l5Held) mixed c_spec_l5Held_eq (by simp) rfl fun hg => ?_
  refine dr ?_
  repeat (refine aHd hw hl ?_; first | refine dr ?_ | exact dz)
  have e0 : HdOk w t who ↔ (∀ h ∈ hdW w who, HdG w t who h) ∧ (hdW w who).Pairwise fun a b => a.path ≠ b.path := ⟨fun h => ⟨h.g, h.d⟩, fun h => ⟨h.1, h.2⟩⟩
  rw [tb_c e0]
  have g0 := goodAgg (hg _ (by simp : eWld w ∈ _))
  have g1 : (hdW w who).length ≤ 9223372036854775807 := by
    have hk : who.toNat < w.holds.length := by have := hw.1; have := hw.2; omega
    have e : hdW w who = w.holds[who.toNat] := by unfold hdW; rw [List.getD_eq_getElem?_getD, List.getElem?_eq_getElem hk]; rfl
    have := goodRow' (g0 _ (by simp : eHoldss w.holds ∈ _)) _ (List.getElem_mem hk) (eHolds w.holds[who.toNat]) (by simp [eHolds, CV.cells])
    rw [e]; exact goodRow this
  generalize hL : hdW w who = L at *
  refine lp (σ := Nat) (fun k => [(1, .c (eEnts t)), (2, .c (CI who)), (3, .ptr 48 0), (7, .c (eHolds L)), (8, I k)]) (fun _ => [(48, wBx w)]) (fun k => k ≤ L.length ∧ (∀ h ∈ L.take k, HdG w t who h) ∧ (L.take k).Pairwise fun a b => a.path ≠ b.path) (fun k => L.length - k) 0 ⟨by omega, by simp, by simp⟩ ?_ ?_
  · refine dr ?_
    trivial
  rintro k ⟨hk, hA, hP⟩
  refine dr ?_
  refine cP (fun h1 => ?_) (fun h1 => ?_)
  rotate_left
  · have hkl : k = L.length := by omega
    rw [hkl, List.take_length] at hA hP
    refine dr ?_
    exact pT ⟨hA, hP⟩
  have hk' : k < L.length := by omega
  have no : ¬ HdG w t who L[k] → CB false = CB (tb ((∀ h ∈ L, HdG w t who h) ∧ L.Pairwise fun a b => a.path ≠ b.path)) := fun h => pF fun hh => h (hh.1 _ (List.getElem_mem hk'))
  refine dEr ?_
  repeat (refine c0 (f_spec_PathOk W0 _) rfl ?_; first | refine dEr ?_ | exact dz)
  refine cP (fun a1 => ?_) (fun a1 => ?_)
  · refine dr ?_
    exact no fun h => by rw [h.1] at a1; cases a1
  refine dr ?_
  refine cP (fun a2 => ?_) (fun a2 => ?_)
  · refine dr ?_
    exact no fun h => by have := h.2.1; omega
  refine dr ?_
  refine cP (fun a3 => ?_) (fun a3 => ?_)
  · refine dr ?_
    exact no fun h => by have := h.2.2.1; omega
  refine dEr ?_
  repeat (refine c0 (f_l5So W0 w t who L[k]) rfl ?_; first | refine dEr ?_ | exact dz)
  refine cP (fun a4 => ?_) (fun a4 => ?_)
  · refine dr ?_
    exact no fun h => a4 h.2.2.2
  refine dr ?_
  refine lp (σ := Nat) (fun j => [(1, .c (eEnts t)), (2, .c (CI who)), (3, .ptr 48 0), (7, .c (eHolds L)), (8, I k), (9, .ptr 144 0), (10, I j)]) (fun _ => [(48, wBx w), (144, .box (hCs L[k]))]) (fun j => j ≤ k ∧ ∀ l ∈ L.take j, l.path ≠ L[k].path) (fun j => k - j) 0 ⟨by omega, by simp⟩ ?_ ?_
  · refine dr ?_
    trivial
  rintro j ⟨hj, hD⟩
  refine dr ?_
  refine cP (fun b1 => ?_) (fun b1 => ?_)
  rotate_left
  · have hjk : j = k := by omega
    rw [hjk] at hD
    refine dr ?_
    refine ⟨k + 1, ⟨by omega, ?_, ?_⟩, by omega, ?_⟩
    · rw [List.take_succ_eq_append_getElem hk']
      intro l hl
      rcases List.mem_append.1 hl with h | h
      · exact hA l h
      · rw [List.mem_singleton.1 h]; exact ⟨a1, by omega, by omega, a4⟩
    · rw [List.take_succ_eq_append_getElem hk', List.pairwise_append]
      exact ⟨hP, by simp, fun a ha b hb => by rw [List.mem_singleton.1 hb]; exact hD a ha⟩
    refine dr ?_
    trivial
  have hjl : j < L.length := by omega
  refine dr ?_
  refine cP (fun b2 => ?_) (fun b2 => ?_)
  · refine dr ?_
    refine pF fun hh => ?_
    have := List.pairwise_iff_getElem.1 hh.2 j k hjl hk' (by omega)
    exact this b2
  · refine dr ?_
    refine ⟨j + 1, ⟨by omega, fun l hl => ?_⟩, by omega, ?_⟩
    · rw [List.take_succ_eq_append_getElem hjl] at hl
      rcases List.mem_append.1 hl with h' | h'
      · exact hD l h'
      · rw [List.mem_singleton.1 h']; exact b2
    refine dr ?_
    trivial
def c_spec_l5Given : XC := (.s (.r [.ex 2 (.box (.t 0)), .ex 3 (.box (.t 1)), .ex 4 (.mv .n)]) (.s (.r [.ex 7 (.fa 6 (.t 2)), .ex 8 (.ld false 1 (.t 7)), .ex 9 (.fa 1 (.t 3)), .ex 10 (.ld false 1 (.t 9)), .ex 11 (.ia 1 (.t 8) (.t 10)), .ex 12 (.ld false 1 (.t 11)), .ex 5 (.asn (.t 12) 7 71)]) (.s (.s (.r [.ex 6 (.mv (.i 0))]) (.blk 0 (.loop (.s (.s (.r [.mv 13 6, .mv 14 5, .ex 15 (.len false (.t 14)), .ex 16 (.bin .lss (.t 13) (.t 15))]) (.cnd (.t 16) .skip (.exit 0))) (.s (.blk 1 (.s (.d [.mv 19 5, .mv 20 6, .ex 21 (.ia 7 (.t 19) (.t 20)), .ex 22 (.fa 0 (.t 21)), .ex 23 (.ld false 1 (.t 22)), .ex 24 (.fa 2 (.t 3)), .ex 25 (.fa 0 (.t 24)), .ex 26 (.ld false 1 (.t 25)), .ex 27 (.bin .eql (.t 23) (.t 26)), .mv 28 27, .gt 29 (.mv (.t 5)) 28, .gt 30 (.mv (.t 6)) 28, .gt 31 (.ia 7 (.t 29) (.t 30)) 28, .gt 32 (.fa 5 (.t 31)) 28, .gt 33 (.ld false 1 (.t 32)) 28, .gt 34 (.fa 2 (.t 3)) 28, .gt 35 (.fa 5 (.t 34)) 28, .gt 36 (.ld false 1 (.t 35)) 28, .gt 37 (.bin .leq (.t 33) (.t 36)) 28, .ex 38 (.pick (.t 28) (.t 37) .n)]) (.cnd (.t 38) (.s (.r [.ex 4 (.mv .n)]) .ret) .skip))) (.r [.mv 17 6, .ex 18 (.bin .add (.t 17) (.i 1)), .mv 6 18])))))) (.s (.d [.ex 39 (.fa 2 (.t 3)), .ex 40 (.fa 5 (.t 39)), .ex 41 (.ld false 1 (.t 40)), .ex 42 (.fa 7 (.t 2)), .ex 43 (.ld false 1 (.t 42)), .ex 44 (.fa 1 (.t 3)), .ex 45 (.ld false 1 (.t 44)), .ex 46 (.ia 1 (.t 43) (.t 45)), .ex 47 (.ld false 1 (.t 46)), .ex 48 (.bin .leq (.t 41) (.t 47)), .mv 4 48]) .ret))))
theorem c_spec_l5Given_eq : compF Tryz.prog [] 177 = some (c_spec_l5Given.ac, [(.t 4)], 49) := by kernel_rfl
theorem f_l5Given (W0 : World) (w : Wld) (m : Msg) (hw : isW m.who) (hl : w.holds.length = 3) (hf : w.floors.length = 3) : Fn Tryz.prog W0 177 [eWld w, eMsg m] (.c (CB (tb (Given w m)))) [] := by
  refine fnX (c := c_spec_l5Given) mixed c_spec_l5Given_eq (by simp) rfl fun hg => ?_
  refine dr ?_
  repeat (refine aHd hw hl ?_; first | refine dr ?_ | exact dz)
  have g0 := goodAgg (hg _ (by simp : eWld w ∈ _))
  have g1 : (hdW w m.who).length ≤ 9223372036854775807 := by
    have hk : m.who.toNat < w.holds.length := by have := hw.1; have := hw.2; omega
    have e : hdW w m.who = w.holds[m.who.toNat] := by unfold hdW; rw [List.getD_eq_getElem?_getD, List.getElem?_eq_getElem hk]; rfl
    have := goodRow' (g0 _ (by simp : eHoldss w.holds ∈ _)) _ (List.getElem_mem hk) (eHolds w.holds[m.who.toNat]) (by simp [eHolds, CV.cells])
    rw [e]; exact goodRow this
  have e0 : Given w m ↔ m.hold.num ≤ flW w m.who ∧ ∀ h ∈ hdW w m.who, h.path = m.hold.path → m.hold.num < h.num := Iff.rfl
  rw [tb_c e0]
  generalize hL : hdW w m.who = L at *
  refine lp (σ := Nat) (fun k => [(2, .ptr 32 0), (3, .ptr 48 0), (5, .c (eHolds L)), (6, I k)]) (fun _ => [(32, wBx w), (48, .box (mCs m))]) (fun k => k ≤ L.length ∧ ∀ h ∈ L.take k, h.path = m.hold.path → m.hold.num < h.num) (fun k => L.length - k) 0 ⟨by omega, by simp⟩ ?_ ?_
  · refine dr ?_
    trivial
  rintro k ⟨hk, hA⟩
  refine dr ?_
  refine cP (fun h1 => ?_) (fun h1 => ?_)
  rotate_left
  · have hkl : k = L.length := by omega
    rw [hkl, List.take_length] at hA
    refine dr ?_
    repeat (refine aFl hw hf ?_; first | refine dr ?_ | exact dz)
    rw [tb_leI]
    exact congrArg CB (tb_c ⟨fun h => ⟨h, hA⟩, fun h => h.1⟩)
  have hk' : k < L.length := by omega
  have next : (L[k].path = m.hold.path → m.hold.num < L[k].num) → ∀ h ∈ L.take (k + 1), h.path = m.hold.path → m.hold.num < h.num := fun h l hl => by
    rw [List.take_succ_eq_append_getElem hk'] at hl
    rcases List.mem_append.1 hl with h' | h'
    · exact hA l h'
    · rw [List.mem_singleton.1 h']; exact h
  refine dr ?_
  refine cP (fun h2 => ?_) (fun h2 => ?_)
  · refine dr ?_
    refine cP (fun h3 => ?_) (fun h3 => ?_)
    · refine dr ?_
      exact pF fun hh => by have := hh.2 _ (List.getElem_mem hk') h2; omega
    · refine dr ?_
      refine ⟨k + 1, ⟨by omega, next fun _ => by omega⟩, by omega, ?_⟩
      refine dr ?_
      trivial
  · refine dr ?_
    refine ⟨k + 1, ⟨by omega, next fun h => absurd h h2⟩, by omega, ?_⟩
    refine dr ?_
    trivial
def c_spec_l5Msg : XC := (.s (.r [.ex 3 (.box (.t 0)), .ex 5 (.box (.t 2)), .ex 6 (.mv .n)]) (.s (.r [.ex 8 (.fa 2 (.t 5)), .ex 9 (.ld true 7 (.t 8)), .ex 7 (.alloc [(.c (.sc (.string ⟨#[]⟩))), (.c (.sc (.bool false))), (.c (.sc (.string ⟨#[]⟩))), (.c (.sc (.bool false))), (.c (.sc (.string ⟨#[]⟩))), (.c (.sc (.int .i64 0))), (.c (.sc (.int .i64 0)))]), .nu (.st 7 (.t 7) (.t 9))]) (.s (.s (.r [.ex 10 (.fa 1 (.t 5)), .ex 11 (.ld false 1 (.t 10)), .ex 12 (.call 96 [(.t 11)]), .ex 13 (.un .not (.t 12)), .mv 14 13, .gf 15 (.fa 0 (.t 7)) 14, .gf 16 (.ld false 1 (.t 15)) 14, .gf 17 (.call 175 [(.t 16)]) 14, .gf 18 (.un .not (.t 17)) 14, .ex 19 (.pick (.t 14) .y (.t 18)), .mv 20 19, .gf 21 (.fa 5 (.t 7)) 20, .gf 22 (.ld false 1 (.t 21)) 20, .gf 23 (.bin .lss (.t 22) (.i 0)) 20, .ex 24 (.pick (.t 20) .y (.t 23)), .mv 25 24, .gf 26 (.fa 5 (.t 7)) 25, .gf 27 (.ld false 1 (.t 26)) 25, .gf 28 (.fa 4 (.t 3)) 25, .gf 29 (.ld false 1 (.t 28)) 25, .gf 30 (.bin .gtr (.t 27) (.t 29)) 25, .ex 31 (.pick (.t 25) .y (.t 30)), .mv 32 31, .gf 33 (.fa 0 (.t 5)) 32, .gf 34 (.ld false 1 (.t 33)) 32, .gf 35 (.bin .lss (.t 34) (.i 1)) 32, .ex 36 (.pick (.t 32) .y (.t 35)), .mv 37 36, .gf 38 (.fa 0 (.t 5)) 37, .gf 39 (.ld false 1 (.t 38)) 37, .gf 40 (.bin .gtr (.t 39) (.i 4)) 37, .ex 41 (.pick (.t 37) .y (.t 40))]) (.cnd (.t 41) (.s (.r [.ex 6 (.mv .n)]) .ret) .skip)) (.s (.s (.r [.ex 42 (.fa 0 (.t 5)), .ex 43 (.ld false 1 (.t 42)), .ex 44 (.bin .eql (.t 43) (.i 2))]) (.cnd (.t 44) (.s (.d [.ex 45 (.fa 5 (.t 7)), .ex 46 (.ld false 1 (.t 45)), .ex 47 (.fa 7 (.t 3)), .ex 48 (.ld false 1 (.t 47)), .ex 49 (.fa 1 (.t 5)), .ex 50 (.ld false 1 (.t 49)), .ex 51 (.ia 1 (.t 48) (.t 50)), .ex 52 (.ld false 1 (.t 51)), .ex 53 (.bin .leq (.t 46) (.t 52)), .mv 54 53, .gf 55 (.ld true 14 (.t 3)) 54, .gf 56 (.mv (.t 1)) 54, .gf 57 (.fa 1 (.t 5)) 54, .gf 58 (.ld false 1 (.t 57)) 54, .gf 59 (.ld true 7 (.t 7)) 54, .gf 60 (.call 176 [(.t 55), (.t 56), (.t 58), (.t 59)]) 54, .ex 61 (.pick (.t 54) .y (.t 60)), .mv 6 61]) .ret) .skip)) (.s (.s (.r [.ex 62 (.ld true 7 (.t 7)), .ex 63 (.fa 0 (.t 7)), .ex 64 (.ld false 1 (.t 63)), .ex 65 (.fa 5 (.t 7)), .ex 66 (.ld false 1 (.t 65)), .ex 67 (.build [(.c (.sc (.string ⟨#[]⟩))), (.c (.sc (.bool false))), (.c (.sc (.string ⟨#[]⟩))), (.c (.sc (.bool false))), (.c (.sc (.string ⟨#[]⟩))), (.c (.sc (.int .i64 0))), (.c (.sc (.int .i64 0)))] [(0, (1, (.t 64))), (5, (1, (.t 66)))]), .ex 68 (.beq true [.s, .b, .s, .b, .s, (.i .i64), (.i .i64)] (.t 62) (.t 67))]) (.cnd (.t 68) (.s (.r [.ex 6 (.mv .n)]) .ret) .skip)) (.s (.r [.ex 69 (.fa 0 (.t 5)), .ex 70 (.ld false 1 (.t 69)), .ex 71 (.bin .neq (.t 70) (.i 4)), .mv 72 71, .gf 73 (.ld true 14 (.t 3)) 72, .gf 74 (.ld true 9 (.t 5)) 72, .gf 75 (.call 177 [(.t 73), (.t 74)]) 72, .ex 76 (.pick (.t 72) .y (.t 75)), .mv 6 76]) .ret))))))
theorem c_spec_l5Msg_eq : compF Tryz.prog [] 108 = some (c_spec_l5Msg.ac, [(.t 6)], 77) := by kernel_rfl
theorem f_l5Msg (W0 : World) (w : Wld) (t : List Ent) (m : Msg) (hl : w.holds.length = 3) (hf : w.floors.length = 3) : Fn Tryz.prog W0 108 [eWld w, eEnts t, eMsg m] (.c (CB (tb (MsOk w t m)))) [] := by
  refine fnX (c := c_spec_l5Msg) mixed c_spec_l5Msg_eq (by simp) rfl fun hg => ?_
  refine dr ?_
  refine c0 (f_l5Who W0 _) rfl ?_
  refine dEr ?_
  refine cP (fun a1 => ?_) (fun a1 => ?_)
  · refine dr ?_
    exact pF fun h => a1 h.who
  refine dEr ?_
  repeat (refine c0 (f_spec_PathOk W0 _) rfl ?_; first | refine dEr ?_ | exact dz)
  refine cP (fun a2 => ?_) (fun a2 => ?_)
  · refine dr ?_
    exact pF fun h => by rw [h.path] at a2; cases a2
  refine dr ?_
  refine cP (fun a3 => ?_) (fun a3 => ?_)
  · refine dr ?_
    exact pF fun h => by have := h.num; omega
  refine dr ?_
  refine cP (fun a4 => ?_) (fun a4 => ?_)
  · refine dr ?_
    exact pF fun h => by have := h.num; omega
  refine dr ?_
  refine cP (fun a5 => ?_) (fun a5 => ?_)
  · refine dr ?_
    exact pF fun h => by have := h.kind; omega
  refine dr ?_
  refine cP (fun a6 => ?_) (fun a6 => ?_)
  · refine dr ?_
    exact pF fun h => by have := h.kind; omega
  refine dr ?_
  refine cP (fun a7 => ?_) (fun a7 => ?_)
  · refine dr ?_
    repeat (refine aFl a1 hf ?_; first | refine dr ?_ | exact dz)
    refine cP (fun a8 => ?_) (fun a8 => ?_)
    · refine dr ?_
      exact pT ⟨a1, a2, ⟨by omega, by omega⟩, ⟨by omega, by omega⟩, fun _ => .inl a8, fun h => absurd a7 h, fun h => by omega⟩
    · refine dEr ?_
      repeat (refine c0 (f_l5So W0 w t m.who m.hold) rfl ?_; first | refine dEr ?_ | exact dz)
      refine congrArg CB (tb_c ⟨fun h => ⟨a1, a2, ⟨by omega, by omega⟩, ⟨by omega, by omega⟩, fun _ => .inr h, fun h => absurd a7 h, fun h => by omega⟩, fun h => ?_⟩)
      rcases h.grant a7 with h | h
      · omega
      · exact h
  refine dr ?_
  rw [show (eqS m.hold.path m.hold.path && (eqB m.hold.has false && (eqS m.hold.ent.path [] && (eqB m.hold.ent.dir false && (eqS m.hold.ent.data [] && (eqI m.hold.num m.hold.num && (eqI m.hold.til 0 && true))))))) = decide (m.hold = plainH m.hold) from bqHold m.hold (plainH m.hold)]
  refine cP (fun a8 => ?_) (fun a8 => ?_)
  · refine dr ?_
    exact pF fun h => a8 (h.plain a7)
  refine dr ?_
  refine cP (fun a9 => ?_) (fun a9 => ?_)
  · refine dr ?_
    exact pT ⟨a1, a2, ⟨by omega, by omega⟩, ⟨by omega, by omega⟩, fun h => absurd h a7, fun _ => a8, fun h => absurd h a9⟩
  · refine dEr ?_
    repeat (refine c0 (f_l5Given W0 w m a1 hl hf) rfl ?_; first | refine dEr ?_ | exact dz)
    exact congrArg CB (tb_c ⟨fun h => ⟨a1, a2, ⟨by omega, by omega⟩, ⟨by omega, by omega⟩, fun h => absurd h a7, fun _ => a8, fun _ => h⟩, fun h => h.back (by omega)⟩)
def c_spec_l5Plain : XC := (.s (.r [.ex 1 (.box (.t 0)), .ex 2 (.mv .n)]) (.s (.s (.r [.ex 4 (.fa 3 (.t 1)), .ex 5 (.ld false 1 (.t 4)), .ex 6 (.bin .lss (.t 5) (.i 0)), .mv 7 6, .gf 8 (.fa 3 (.t 1)) 7, .gf 9 (.ld false 1 (.t 8)) 7, .gf 10 (.bin .gtr (.t 9) (.i 10000)) 7, .ex 11 (.pick (.t 7) .y (.t 10)), .mv 12 11, .gf 13 (.fa 4 (.t 1)) 12, .gf 14 (.ld false 1 (.t 13)) 12, .gf 15 (.bin .lss (.t 14) (.i 0)) 12, .ex 16 (.pick (.t 12) .y (.t 15)), .mv 17 16, .gf 18 (.fa 4 (.t 1)) 17, .gf 19 (.ld false 1 (.t 18)) 17, .gf 20 (.bin .gtr (.t 19) (.i 10000)) 17, .ex 21 (.pick (.t 17) .y (.t 20)), .mv 22 21, .gf 23 (.fa 6 (.t 1)) 22, .gf 24 (.ld false 1 (.t 23)) 22, .gf 25 (.len false (.t 24)) 22, .gf 26 (.bin .neq (.t 25) (.i 3)) 22, .ex 27 (.pick (.t 22) .y (.t 26)), .mv 28 27, .gf 29 (.fa 7 (.t 1)) 28, .gf 30 (.ld false 1 (.t 29)) 28, .gf 31 (.len false (.t 30)) 28, .gf 32 (.bin .neq (.t 31) (.i 3)) 28, .ex 33 (.pick (.t 28) .y (.t 32)), .mv 34 33, .gf 35 (.fa 8 (.t 1)) 34, .gf 36 (.ld false 1 (.t 35)) 34, .gf 37 (.len false (.t 36)) 34, .gf 38 (.bin .gtr (.t 37) (.i 12)) 34, .ex 39 (.pick (.t 34) .y (.t 38))]) (.cnd (.t 39) (.s (.r [.ex 2 (.mv .n)]) .ret) .skip)) (.s (.s (.r [.ex 3 (.mv (.i 0))]) (.blk 0 (.loop (.s (.s (.r [.mv 40 3, .ex 41 (.bin .lss (.t 40) (.i 3))]) (.cnd (.t 41) .skip (.exit 0))) (.s (.blk 1 (.s (.d [.ex 44 (.fa 7 (.t 1)), .ex 45 (.ld false 1 (.t 44)), .mv 46 3, .ex 47 (.ia 1 (.t 45) (.t 46)), .ex 48 (.ld false 1 (.t 47)), .ex 49 (.bin .lss (.t 48) (.i 0)), .mv 50 49, .gf 51 (.fa 7 (.t 1)) 50, .gf 52 (.ld false 1 (.t 51)) 50, .gf 53 (.mv (.t 3)) 50, .gf 54 (.ia 1 (.t 52) (.t 53)) 50, .gf 55 (.ld false 1 (.t 54)) 50, .gf 56 (.fa 4 (.t 1)) 50, .gf 57 (.ld false 1 (.t 56)) 50, .gf 58 (.bin .gtr (.t 55) (.t 57)) 50, .ex 59 (.pick (.t 50) .y (.t 58))]) (.cnd (.t 59) (.s (.r [.ex 2 (.mv .n)]) .ret) .skip))) (.r [.mv 42 3, .ex 43 (.bin .add (.t 42) (.i 1)), .mv 3 43])))))) (.s (.r [.ex 2 (.mv .y)]) .ret))))
theorem c_spec_l5Plain_eq : compF Tryz.prog [] 104 = some (c_spec_l5Plain.ac, [(.t 2)], 60) := by kernel_rfl
theorem f_l5Plain (W0 : World) (w : Wld) : Fn Tryz.prog W0 104 [eWld w] (.c (CB (tb (PlW w)))) [] := by
  refine fnX (c := c_spec_l5Plain) mixed c_spec_l5Plain_eq (by simp) rfl fun hg => ?_
  refine dr ?_
  refine cP (fun a1 => ?_) (fun a1 => ?_)
  · refine dr ?_
    exact pF fun h => by have := h.ck; omega
  refine dr ?_
  refine cP (fun a2 => ?_) (fun a2 => ?_)
  · refine dr ?_
    exact pF fun h => by have := h.ck; omega
  refine dr ?_
  refine cP (fun a3 => ?_) (fun a3 => ?_)
  · refine dr ?_
    exact pF fun h => by have := h.ct; omega
  refine dr ?_
  refine cP (fun a4 => ?_) (fun a4 => ?_)
  · refine dr ?_
    exact pF fun h => by have := h.ct; omega
  refine dr ?_
  refine cP (fun a5 => ?_) (fun a5 => ?_)
  · refine dr ?_
    exact pF fun h => by have := h.hl; omega
  refine dr ?_
  refine cP (fun a6 => ?_) (fun a6 => ?_)
  · refine dr ?_
    exact pF fun h => by have := h.fl; omega
  refine dr ?_
  refine cP (fun a7 => ?_) (fun a7 => ?_)
  · refine dr ?_
    exact pF fun h => by have := h.nl; omega
  have hf : w.floors.length = 3 := by omega
  refine dr ?_
  refine lp (σ := Nat) (fun k => [(1, .ptr 16 0), (3, I k)]) (fun _ => [(16, wBx w)]) (fun k => k ≤ 3 ∧ ∀ f ∈ w.floors.take k, 0 ≤ f ∧ f ≤ w.count) (fun k => 3 - k) 0 ⟨by omega, by simp⟩ ?_ ?_
  · refine dr ?_
    trivial
  rintro k ⟨hk, hA⟩
  refine dr ?_
  refine cP (fun h1 => ?_) (fun h1 => ?_)
  rotate_left
  · have hkl : k = w.floors.length := by omega
    rw [hkl, List.take_length] at hA
    refine dr ?_
    exact pT ⟨⟨by omega, by omega⟩, ⟨by omega, by omega⟩, by omega, by omega, by omega, hA⟩
  have hk' : k < w.floors.length := by omega
  refine dr ?_
  refine cP (fun h2 => ?_) (fun h2 => ?_)
  · refine dr ?_
    exact pF fun h => by have := h.fr _ (List.getElem_mem hk'); omega
  refine dr ?_
  refine cP (fun h3 => ?_) (fun h3 => ?_)
  · refine dr ?_
    exact pF fun h => by have := h.fr _ (List.getElem_mem hk'); omega
  · refine dr ?_
    refine ⟨k + 1, ⟨by omega, fun l hl => ?_⟩, by omega, ?_⟩
    · rw [List.take_succ_eq_append_getElem hk'] at hl
      rcases List.mem_append.1 hl with h' | h'
      · exact hA l h'
      · rw [List.mem_singleton.1 h']; exact ⟨by omega, by omega⟩
    refine dr ?_
    trivial
def c_spec_l5Waits : XC := (.s (.r [.ex 2 (.box (.t 0)), .ex 4 (.mv .n)]) (.s (.s (.r [.ex 7 (.fa 9 (.t 2)), .ex 8 (.ld false 1 (.t 7)), .ex 9 (.un .not (.t 8))]) (.cnd (.t 9) (.s (.r [.ex 10 (.fa 10 (.t 2)), .ex 11 (.ld true 4 (.t 10)), .ex 12 (.build [(.c (.sc (.int .i64 0))), (.c (.sc (.string ⟨#[]⟩))), (.c (.sc (.string ⟨#[]⟩))), (.c (.sc (.string ⟨#[]⟩)))] []), .ex 13 (.beq false [(.i .i64), .s, .s, .s] (.t 11) (.t 12)), .mv 4 13]) .ret) .skip)) (.s (.r [.mv 15 1, .ex 16 (.fa 10 (.t 2)), .ex 17 (.ld true 4 (.t 16)), .ex 18 (.call 70 [(.t 15), (.t 17)]), .mv 14 18, .ex 19 (.ext (.t 14) 0), .ex 20 (.ext (.t 14) 1), .ex 5 (.asn (.t 19) 3 59), .mv 6 20]) (.s (.r [.mv 21 6, .ex 22 (.bin .eql (.t 21) (.i 0)), .mv 4 22]) .ret))))
theorem c_spec_l5Waits_eq : compF Tryz.prog [] 106 = some (c_spec_l5Waits.ac, [(.t 4)], 23) := by kernel_rfl
theorem f_l5Waits (W0 : World) (w : Wld) (t : List Ent) : Fn Tryz.prog W0 106 [eWld w, eEnts t] (.c (CB (tb (WtOk w t)))) [] := by
  refine fnX (c := c_spec_l5Waits) mixed c_spec_l5Waits_eq (by simp) rfl fun hg => ?_
  refine dr ?_
  refine cP (fun h1 => ?_) (fun h1 => ?_)
  · refine dr ?_
    rw [show (eqI w.op.kind 0 && (eqS w.op.path [] && (eqS w.op.dest [] && (eqS w.op.data [] && true)))) = decide (w.op = noOp) from bqOp w.op noOp]
    by_cases h2 : w.op = noOp
    · rw [decide_eq_true h2]
      exact pT ⟨fun _ => h2, fun h => by rw [h1] at h; cases h⟩
    · rw [decide_eq_false h2]
      exact pF fun h => h2 (h.1 h1)
  · refine dEr ?_
    repeat (refine c0 (f_spec_TreeDo W0 t w.op) rfl ?_; first | refine dEr ?_ | exact dz)
    refine congrArg CB ?_
    rw [Bool.eq_iff_iff, eqI_t, tb_i]
    exact ⟨fun h => ⟨fun h2 => (by rw [h1] at h2; cases h2), fun _ => h⟩, fun h => h.2 h1⟩
def c_spec_WorldOk : XC := (.s (.r [.ex 1 (.box (.t 0)), .ex 2 (.mv .n)]) (.s (.r [.ex 8 (.fa 0 (.t 1)), .ex 9 (.ld true 3 (.t 8)), .ex 10 (.call 103 [(.t 9)]), .mv 7 10, .ex 11 (.ext (.t 7) 0), .ex 12 (.ext (.t 7) 1), .ex 3 (.asn (.t 11) 3 59), .mv 4 12]) (.s (.s (.r [.mv 13 4, .ex 14 (.un .not (.t 13)), .mv 15 14, .gf 16 (.ld true 14 (.t 1)) 15, .gf 17 (.call 104 [(.t 16)]) 15, .gf 18 (.un .not (.t 17)) 15, .ex 19 (.pick (.t 15) .y (.t 18)), .mv 20 19, .gf 21 (.ld true 14 (.t 1)) 20, .gf 22 (.call 105 [(.t 21)]) 20, .gf 23 (.un .not (.t 22)) 20, .ex 24 (.pick (.t 20) .y (.t 23)), .mv 25 24, .gf 26 (.ld true 14 (.t 1)) 25, .gf 27 (.mv (.t 3)) 25, .gf 28 (.call 106 [(.t 26), (.t 27)]) 25, .gf 29 (.un .not (.t 28)) 25, .ex 30 (.pick (.t 25) .y (.t 29))]) (.cnd (.t 30) (.s (.r [.ex 2 (.mv .n)]) .ret) .skip)) (.s (.s (.r [.ex 5 (.mv (.i 0))]) (.blk 0 (.loop (.s (.s (.r [.mv 31 5, .ex 32 (.bin .lss (.t 31) (.i 3))]) (.cnd (.t 32) .skip (.exit 0))) (.s (.blk 1 (.s (.r [.ex 35 (.ld true 14 (.t 1)), .mv 36 3, .mv 37 5, .ex 38 (.call 107 [(.t 35), (.t 36), (.t 37)]), .ex 39 (.un .not (.t 38))]) (.cnd (.t 39) (.s (.r [.ex 2 (.mv .n)]) .ret) .skip))) (.r [.mv 33 5, .ex 34 (.bin .add (.t 33) (.i 1)), .mv 5 34])))))) (.s (.s (.r [.ex 6 (.mv (.i 0))]) (.blk 2 (.loop (.s (.s (.r [.mv 40 6, .ex 41 (.fa 8 (.t 1)), .ex 42 (.ld false 1 (.t 41)), .ex 43 (.len false (.t 42)), .ex 44 (.bin .lss (.t 40) (.t 43))]) (.cnd (.t 44) .skip (.exit 2))) (.s (.blk 3 (.s (.d [.ex 47 (.ld true 14 (.t 1)), .mv 48 3, .ex 49 (.fa 8 (.t 1)), .ex 50 (.ld false 1 (.t 49)), .mv 51 6, .ex 52 (.ia 9 (.t 50) (.t 51)), .ex 53 (.ld true 9 (.t 52)), .ex 54 (.call 108 [(.t 47), (.t 48), (.t 53)]), .ex 55 (.un .not (.t 54))]) (.cnd (.t 55) (.s (.r [.ex 2 (.mv .n)]) .ret) .skip))) (.r [.mv 45 6, .ex 46 (.bin .add (.t 45) (.i 1)), .mv 6 46])))))) (.s (.r [.ex 2 (.mv .y)]) .ret))))))
theorem c_spec_WorldOk_eq : compF Tryz.prog [] 44 = some (c_spec_WorldOk.ac, [(.t 2)], 56) := by kernel_rfl
theorem f_spec_WorldOk (W0 : World) (w : Wld) : Fn Tryz.prog W0 44 [eWld w] (.c (CB (tb (WG w)))) [] := by
  refine fnX (c := c_spec_WorldOk) mixed c_spec_WorldOk_eq (by simp) rfl fun hg => ?_
  have hv := f_spec_OverView W0 w.over
  cases h1 : oOk w.over with
  | false =>
    rw [h1] at hv
    refine dEr ?_
    repeat (refine c0 hv rfl ?_; first | refine dEr ?_ | exact dz)
    exact pF fun h => by rw [h.ov] at h1; cases h1
  | true =>
    obtain ⟨t', x, g⟩ := OG.of h1
    have ev : vwG w.over = x := g.vwG
    rw [h1, if_pos rfl, g.vw] at hv
    have g0 := goodAgg (hg _ (by simp : eWld w ∈ _))
    have g1 : w.net.length ≤ 9223372036854775807 := goodRow (g0 _ (by simp : eMsgs w.net ∈ _))
    refine dEr ?_
    repeat ((first | refine c0 hv rfl ?_ | refine c0 (f_l5Plain W0 w) rfl ?_); first | refine dEr ?_ | exact dz)
    refine cP (fun a1 => ?_) (fun a1 => ?_)
    · refine dr ?_
      exact pF fun h => a1 h.pl
    refine dEr ?_
    repeat (refine c0 (f_l5Leases W0 w a1.ck.2) rfl ?_; first | refine dEr ?_ | exact dz)
    refine cP (fun a2 => ?_) (fun a2 => ?_)
    · refine dr ?_
      exact pF fun h => a2 h.ls
    refine dEr ?_
    repeat (refine c0 (f_l5Waits W0 w x) rfl ?_; first | refine dEr ?_ | exact dz)
    refine cP (fun a3 => ?_) (fun a3 => ?_)
    · refine dr ?_
      exact pF fun h => a3 (by have := h.wt; rwa [ev] at this)
    refine dr ?_
    refine lp (σ := Nat) (fun k => [(1, .ptr 16 0), (3, .c (eEnts x)), (5, I k)]) (fun _ => [(16, wBx w)]) (fun k => k ≤ 3 ∧ ∀ i : Nat, i < k → HdOk w x i) (fun k => 3 - k) 0 ⟨by omega, fun i hi => by omega⟩ ?_ ?_
    · refine dr ?_
      trivial
    rintro k ⟨hk, hA⟩
    refine dr ?_
    refine cP (fun b1 => ?_) (fun b1 => ?_)
    · refine dEr ?_
      repeat (refine c0 (f_l5Held W0 w x (k : Int) ⟨by omega, by omega⟩ a1.hl) rfl ?_; first | refine dEr ?_ | exact dz)
      refine cP (fun b2 => ?_) (fun b2 => ?_)
      · refine dr ?_
        exact pF fun h => b2 (by have := h.hd k (by omega); rwa [ev] at this)
      · refine dr ?_
        refine ⟨k + 1, ⟨by omega, fun i hi => ?_⟩, by omega, ?_⟩
        · by_cases he : i = k
          · subst he; exact b2
          · exact hA i (by omega)
        refine dr ?_
        trivial
    have hA : ∀ i : Nat, i < 3 → HdOk w x i := fun i hi => hA i (by omega)
    refine dr ?_
    refine lp (σ := Nat) (fun k => [(1, .ptr 16 0), (3, .c (eEnts x)), (6, I k)]) (fun _ => [(16, wBx w)]) (fun k => k ≤ w.net.length ∧ ∀ m ∈ w.net.take k, MsOk w x m) (fun k => w.net.length - k) 0 ⟨by omega, by simp⟩ ?_ ?_
    · refine dr ?_
      trivial
    rintro k ⟨hk, hM⟩
    refine dr ?_
    refine cP (fun c1 => ?_) (fun c1 => ?_)
    · have hk' : k < w.net.length := by omega
      refine dEr ?_
      repeat (refine c0 (f_l5Msg W0 w x w.net[k] a1.hl a1.fl) rfl ?_; first | refine dEr ?_ | exact dz)
      refine cP (fun c2 => ?_) (fun c2 => ?_)
      · refine dr ?_
        exact pF fun h => c2 (by have := h.ms _ (List.getElem_mem hk'); rwa [ev] at this)
      · refine dr ?_
        refine ⟨k + 1, ⟨by omega, fun l hl => ?_⟩, by omega, ?_⟩
        · rw [List.take_succ_eq_append_getElem hk'] at hl
          rcases List.mem_append.1 hl with h' | h'
          · exact hM l h'
          · rw [List.mem_singleton.1 h']; exact c2
        refine dr ?_
        trivial
    have hkl : k = w.net.length := by omega
    rw [hkl, List.take_length] at hM
    refine dr ?_
    exact pT ⟨h1, a1, a2, by rw [ev]; exact a3, by rw [ev]; exact hA, by rw [ev]; exact hM⟩
end Go.Proofs.YthblflnfhdnpdaaGreatDoor

namespace Go.Proofs.YthblflnfhdnpdaaGreatDoor
set_option linter.unusedSimpArgs false
set_option linter.unusedVariables false
open Go Go.RowKit
section
variable {w : Wld}
def LsStep (w x : Wld) : Prop := (x.count = w.count ∧ ∀ l ∈ x.leases, l ∈ w.leases) ∨
  ∃ who p, x.count = w.count + 1 ∧ x.leases = offL w.leases who p (w.count + 1) ++ [⟨who, p, w.count + 1, w.clock + 5⟩]
theorem LsStep.refl {x : Wld} (h1 : x.count = w.count) (h2 : x.leases = w.leases) : LsStep w x := .inl ⟨h1, fun l hl => by rw [h2] at hl; exact hl⟩
theorem LsStep.count {x : Wld} (h : LsStep w x) : w.count ≤ x.count ∧ x.count ≤ w.count + 1 := by
  rcases h with ⟨h, _⟩ | ⟨_, _, h, _⟩ <;> omega
theorem LsStep.fresh {x : Wld} (h : LsStep w x) (hw : WG w) : ((x.leases.filter fun l => decide (w.count < l.num)).length : Int) = x.count - w.count := by
  have hf : ∀ l ∈ w.leases, ¬ decide (w.count < l.num) = true := fun l hl => by have := (hw.ls.g l hl).2.2.2.1; simp; omega
  rcases h with ⟨h1, h2⟩ | ⟨who, p, h1, h2⟩
  · have : x.leases.filter (fun l => decide (w.count < l.num)) = [] := List.filter_eq_nil_iff.2 fun l hl => hf l (h2 l hl)
    rw [this, h1]; simp
  · rw [h2, List.filter_append]
    have : (offL w.leases who p (w.count + 1)).filter (fun l => decide (w.count < l.num)) = [] := List.filter_eq_nil_iff.2 fun l hl => hf l (off_mem.1 hl).1
    rw [this]
    rw [List.filter_cons, if_pos (by simp only [decide_eq_true_eq]; omega)]
    rw [h1]; simp; omega
end
end Go.Proofs.YthblflnfhdnpdaaGreatDoor

namespace Go.Proofs.YthblflnfhdnpdaaGreatDoor
set_option linter.unusedSimpArgs false
set_option linter.unusedVariables false
open Go Go.RowKit
end Go.Proofs.YthblflnfhdnpdaaGreatDoor

namespace Go.Proofs.YthblflnfhdnpdaaGreatDoor
set_option linter.unusedSimpArgs false
set_option linter.unusedVariables false
open Go Go.RowKit
end Go.Proofs.YthblflnfhdnpdaaGreatDoor

namespace Go.Proofs.YthblflnfhdnpdaaGreatDoor
set_option linter.unusedSimpArgs false
set_option linter.unusedVariables false
open Go Go.RowKit
def NC (x y : PV) : Prop := y = x ∨ (x = .nil ∧ y = .c (.row []))
theorem NC.rep {κ : Kap} {m : Mem} {w : World} {x y : PV} {v : Value} (h : NC x y) (hr : Rep1 κ m w x v) : Rep1 κ m w y v := by
  rcases h with rfl | ⟨rfl, rfl⟩
  · exact hr
  · obtain ⟨o, rfl⟩ := hr
    exact .nil (Nat.zero_le _)
theorem KeepS.nilC {k0 : List Nat} {A : Fr} {m : XM} (bx : Nat) (cs cs' : List PV) (hb : lkX m bx = some (.box cs)) (hc : All2 NC cs cs') : KeepS k0 A m A (updX m bx (.box cs')) := fun W0 F K hA hK => by
  intro w0 κ0 m0 N κ act w hk0 hr
  have hmw := hr.mw
  have hW := hr.big
  have hb' : lk (Go.Proofs.YthblflnfhdnpdaaGreatDoor.er m) bx = some (.box cs) := by rw [lk_er, hb]; rfl
  have all2 : ∀ {cs cs' : List PV} {vs : List Value} {κ : Kap} {m : Mem}, All2 NC cs cs' → All2 (Rep1 κ m w) cs vs → All2 (Rep1 κ m w) cs' vs := by
    intro cs
    induction cs with
    | nil => intro cs' vs κ m h1 h2; cases cs' with | nil => (cases vs with | nil => trivial | cons => exact h2.elim) | cons => exact h1.elim
    | cons c cs ih =>
      intro cs' vs κ m h1 h2
      cases cs' with
      | nil => exact h1.elim
      | cons d ds => cases vs with
        | nil => exact h2.elim
        | cons v vs => exact ⟨NC.rep h1.1 h2.1, ih h1.2 h2.2⟩
  obtain ⟨g1, g2⟩ := hmw.turn (κ' := κ) (w' := w) (x := .box cs') hW hb' rfl rfl rfl (Nat.le_refl _) rfl (fun _ _ => rfl) (fun _ _ _ => rfl) (.inl rfl) (fun _ h => ⟨⟨cs', rfl⟩, rfl⟩) (fun _ _ _ h => by cases h) (fun hp => by
    obtain ⟨g, vs, e, q1, q2, q3⟩ := hmw.mem.blk bx _ hb'
    exact ⟨g, vs, e, q1, q2, all2 hc (q3.imp fun _ _ => Rep1.pres hp)⟩)
  refine ⟨κ, A, _, ⟨g1, hr.start, hr.low0, hr.s0, hr.size, hr.defers, fun t x hx => ?_⟩, ?_⟩
  · obtain ⟨q1, q2⟩ := hr.tmps t x (by rw [← hA t]; exact hx)
    exact ⟨q1, Rep.pres g2 q2⟩
  · rw [updX_er] at hK; exact hK
theorem nc0 {x : PV} : NC x x := .inl rfl
theorem nc1 : NC .nil (.c (.row [])) := .inr ⟨rfl, rfl⟩
theorem OZ.put {o : Over} {n : Nat} (h : OZ n o) {ls : List (List Mark)} {m : Nat} (h1 : ls.length ≤ m) (h2 : ∀ l ∈ ls, l.length ≤ m) (hm : n ≤ m) : OZ m ⟨o.base, ls, o.upper⟩ := ⟨by have := h.b; simp only; omega, h1, h2, by have := h.u; simp only; omega⟩
end Go.Proofs.YthblflnfhdnpdaaGreatDoor

namespace Go.Proofs.YthblflnfhdnpdaaGreatDoor
set_option linter.unusedSimpArgs false
set_option linter.unusedVariables false
open Go Go.RowKit
end Go.Proofs.YthblflnfhdnpdaaGreatDoor

namespace Go.Proofs.YthblflnfhdnpdaaGreatDoor
set_option linter.unusedSimpArgs false
set_option linter.unusedVariables false
open Go Go.RowKit
theorem offL_def {l : List Lease} {who : Int} {p : Str} {num : Int} : offL l who p num = l.filter fun x => !(x.who == who && (x.path == p && decide (x.num ≤ num))) := rfl
theorem leaveH_def {l : List Hold} {p : Str} {n : Int} : leaveH l p n = l.filter fun x => !(x.path == p && decide (x.num ≤ n)) := rfl
end Go.Proofs.YthblflnfhdnpdaaGreatDoor

namespace Go.Proofs.YthblflnfhdnpdaaGreatDoor
set_option linter.unusedSimpArgs false
set_option linter.unusedVariables false
open Go Go.RowKit
section
variable {w x : Wld}
theorem take_take {l : List Hold} {h : Hold} : takeH (takeH l h) h = takeH l h := by
  have : (takeH l h).any (fun x => x.path == h.path && decide (h.num ≤ x.num)) = true := by
    unfold takeH
    split
    · assumption
    · simp
  generalize takeH l h = l' at *
  unfold takeH
  rw [if_pos this]
structure Later (w x : Wld) : Prop where
  g : WG x
  o : x.over = w.over
  wt : x.waits = w.waits
  op : x.op = w.op
  h : x.holds = w.holds
  l : ∀ l ∈ x.leases, l ∈ w.leases ∧ (x.clock = w.clock ∨ x.clock < l.til)
theorem Later.refl (h : WG w) : Later w w := ⟨h, rfl, rfl, rfl, rfl, fun l hl => ⟨hl, .inl rfl⟩⟩
theorem Later.tick (h : Later w x) : Later w (tickW x) :=
  ⟨h.g.tick, h.o, h.wt, h.op, h.h, fun l hl => ⟨(h.l l (List.mem_filter.1 hl).1).1, .inr (of_decide_eq_true (List.mem_filter.1 hl).2)⟩⟩
theorem Later.bars (h : Later w x) {op : Op} : ∀ l ∈ barsW x op, l ∈ barsW w op ∨ w.clock < x.clock ∨ x.clock < w.clock := fun l hl => by
  obtain ⟨h1, h2, h3⟩ := bars_mem.1 hl
  by_cases hc : x.clock = w.clock
  · left
    refine bars_mem.2 ⟨(h.l l h1).1, by omega, ?_⟩
    unfold turnsW at h3 ⊢; rw [h.o] at h3; exact h3
  · right; omega
theorem Later.none (h : Later w x) {late : Int} (h1 : ∀ l ∈ barsW w w.op, l.til ≤ late) (h2 : x.clock = late) (h3 : w.clock ≤ late) : barsW x x.op = [] := by
  cases hb : barsW x x.op with
  | nil => rfl
  | cons l r =>
    exfalso
    obtain ⟨g1, g2, g3⟩ := bars_mem.1 (show l ∈ barsW x x.op by rw [hb]; simp)
    have hm := (h.l l g1).1
    have : l ∈ barsW w w.op := by
      refine bars_mem.2 ⟨hm, by omega, ?_⟩
      unfold turnsW at g3 ⊢; rw [h.o, h.op] at g3; exact g3
    have := h1 l this
    omega
end
end Go.Proofs.YthblflnfhdnpdaaGreatDoor

namespace Go.Proofs.YthblflnfhdnpdaaGreatDoor
set_option linter.unusedSimpArgs false
set_option linter.unusedVariables false
open Go Go.RowKit
def giveE (k : Int) : Ev := ⟨5, 0, [], noOp, k⟩
def copyE (k : Int) : Ev := ⟨7, 0, [], noOp, k⟩
section
variable {w : Wld}
theorem send_room {m : Msg} (h : w.net.length < 12) : sendW w m = { w with net := w.net ++ [m] } := by unfold sendW; rw [if_pos h]
theorem give_eq {k : Nat} (h : k < w.net.length) : evW w (giveE k) = (comeW { w with net := w.net.eraseIdx k } (w.net.getD k noMs), 0) := by
  unfold evW giveE
  rw [if_neg (by simp), if_neg (by simp), if_neg (by simp), if_neg (by simp), if_pos (by simp)]
  unfold netW
  rw [if_neg (by simp; omega), if_neg (by simp), if_pos rfl]
  simp
theorem copy_eq {k : Nat} (h : k < w.net.length) (h2 : w.net.length < 12) : evW w (copyE k) = ({ w with net := w.net ++ [w.net.getD k noMs] }, 0) := by
  unfold evW copyE
  rw [if_neg (by simp), if_neg (by simp), if_neg (by simp), if_neg (by simp), if_pos (by simp)]
  unfold netW
  rw [if_neg (by simp; omega), if_pos rfl]
  simp only
  rw [send_room h2]; simp
theorem at_end {a : List Msg} {m : Msg} {r : List Msg} : (a ++ m :: r).getD a.length noMs = m ∧ (a ++ m :: r).eraseIdx a.length = a ++ r := by
  constructor
  · simp [List.getD]
  · rw [List.eraseIdx_append_of_length_le (Nat.le_refl _)]; simp
def heldW (w : Wld) (who : Int) (p : Str) : Wld := comeW (grantL w who p) (grantM w who p)
structure GO (w : Wld) (who : Int) (p : Str) : Prop where
  g : WG w
  iw : isW who
  pth : pOk p = true
  wt : w.waits = false
  ct : w.count < 10000
variable {who : Int} {p : Str}
theorem hdW_at {x : Wld} {L : List (List Hold)} {k : Int} {a : List Hold} (hk : isW k) (hl : L.length = 3) (e : x.holds = L.set k.toNat a) : hdW x k = a := by
  unfold hdW
  rw [e]
  have := hk.1; have := hk.2
  simp only [List.getD, List.getElem?_set]
  rw [if_pos trivial, if_pos (by omega)]; rfl
theorem GO.take (h : GO w who p) : heldW w who p = { grantL w who p with holds := w.holds.set who.toNat (takeH (hdW w who) (grantM w who p).hold) } := by
  unfold heldW comeW
  rw [if_neg (by simp [grantM]), if_pos (show (grantM w who p).kind = 2 from rfl)]
  have hf := h.g.pl.fr _ (flW_mem h.iw h.g.pl.fl)
  rw [if_pos]
  · rfl
  · refine ⟨by show w.clock < w.clock + 5; omega, ?_⟩
    show flW w who < w.count + 1
    omega
theorem GO.hd (h : GO w who p) : hdW (heldW w who p) who = takeH (hdW w who) (grantM w who p).hold := by
  rw [h.take]
  exact hdW_at h.iw h.g.pl.hl rfl
theorem come_net {m : Msg} {n : List Msg} (hk : m.kind = 2) : comeW { w with net := n } m = { comeW w m with net := n } := by
  unfold comeW
  rw [if_neg (show ¬ m.kind = 1 by omega), if_neg (show ¬ m.kind = 1 by omega), if_pos hk, if_pos hk]
  show (if w.clock < m.hold.til ∧ flW w m.who < m.hold.num then _ else _) = _
  by_cases hc : w.clock < m.hold.til ∧ flW w m.who < m.hold.num
  · rw [if_pos hc, if_pos hc]; rfl
  · rw [if_neg hc, if_neg hc]
theorem GO.late (h : GO w who p) (hn : w.net.length ≤ 8) :
    evW { grantL w who p with net := w.net ++ [grantM w who p] } (copyE w.net.length) = ({ grantL w who p with net := w.net ++ [grantM w who p, grantM w who p] }, 0) ∧
    evW { grantL w who p with net := w.net ++ [grantM w who p, grantM w who p] } (giveE w.net.length) = ({ heldW w who p with net := w.net ++ [grantM w who p] }, 0) := by
  constructor
  · rw [copy_eq (by simp) (by simp; omega)]
    obtain ⟨e1, _⟩ := @at_end w.net (grantM w who p) []
    simp only [e1, List.append_assoc, List.singleton_append]
  · rw [give_eq (by simp)]
    obtain ⟨e1, e2⟩ := @at_end w.net (grantM w who p) [grantM w who p]
    simp only [e1, e2]
    refine congrArg (·, 0) ?_
    exact come_net (w := grantL w who p) rfl
end
end Go.Proofs.YthblflnfhdnpdaaGreatDoor

namespace Go.Proofs.YthblflnfhdnpdaaGreatDoor
set_option linter.unusedSimpArgs false
set_option linter.unusedVariables false
open Go Go.RowKit
theorem hd_at {w : Wld} {i : Nat} (h : i < w.holds.length) : hdW w (i : Int) = w.holds[i] := by
  unfold hdW; simp [h]
structure HZ (n : Nat) (w : Wld) : Prop where
  l : w.leases.length ≤ n
  h : ∀ x ∈ w.holds, x.length ≤ n
end Go.Proofs.YthblflnfhdnpdaaGreatDoor

namespace Go.Proofs.YthblflnfhdnpdaaGreatDoor
set_option linter.unusedSimpArgs false
set_option linter.unusedVariables false
open Go Go.RowKit
theorem HZ.mono {n m : Nat} {w : Wld} (h : HZ n w) (hm : n ≤ m) : HZ m w := ⟨by have := h.l; omega, fun x hx => by have := h.h x hx; omega⟩
theorem takeH_len {l : List Hold} {h : Hold} : (takeH l h).length ≤ l.length + 1 := by
  unfold takeH
  split
  · omega
  · have := List.length_filter_le (fun x : Hold => x.path != h.path) l
    simp; omega
theorem HZ.set {n : Nat} {w : Wld} {k : Nat} {L : List Hold} (h : HZ n w) (hL : L.length ≤ n + 1) : ∀ x ∈ w.holds.set k L, x.length ≤ n + 1 := fun x hx => by
  rcases List.mem_or_eq_of_mem_set hx with h' | h'
  · have := h.h x h'; omega
  · rw [h']; exact hL
theorem hdW_len {n : Nat} {w : Wld} (h : HZ n w) (k : Int) : (hdW w k).length ≤ n := by
  unfold hdW
  rw [List.getD_eq_getElem?_getD]
  by_cases hk : k.toNat < w.holds.length
  · rw [List.getElem?_eq_getElem hk]; exact h.h _ (List.getElem_mem hk)
  · rw [List.getElem?_eq_none (by omega)]; simp
theorem HZ.of_eq {n : Nat} {w x : Wld} (h : HZ n w) (h1 : x.leases = w.leases) (h2 : x.holds = w.holds) : HZ (n + 1) x := ⟨by rw [h1]; have := h.l; omega, fun y hy => by rw [h2] at hy; have := h.h y hy; omega⟩
theorem HZ.come {n : Nat} {w : Wld} (h : HZ n w) (m : Msg) : HZ (n + 1) (comeW w m) := by
  have hl := h.l
  unfold comeW
  split
  · unfold grantW
    split
    · exact h.mono (by omega)
    · refine ⟨?_, fun y hy => ?_⟩
      · rw [sendW_same.2.2.2.1]
        have := List.length_filter_le (fun x : Lease => !(x.who == m.who && (x.path == m.hold.path && decide (x.num ≤ w.count + 1)))) w.leases
        show (offL w.leases m.who m.hold.path (w.count + 1) ++ _).length ≤ n + 1
        rw [List.length_append, offL_def]
        simp only [List.length_cons, List.length_nil]; omega
      · rw [sendW_same.2.2.2.2.1] at hy
        have := h.h y hy; omega
  · split
    · split
      · exact ⟨by show w.leases.length ≤ n + 1; omega, h.set (by have := @takeH_len (hdW w m.who) m.hold; have := hdW_len h m.who; omega)⟩
      · exact h.mono (by omega)
    · split
      · refine ⟨?_, fun y hy => ?_⟩
        · rw [sendW_same.2.2.2.1]; show w.leases.length ≤ n + 1; omega
        · rw [sendW_same.2.2.2.2.1] at hy
          exact h.set (by have := List.length_filter_le (fun x : Hold => !(x.path == m.hold.path && decide (x.num ≤ m.hold.num))) (hdW w m.who); have := hdW_len h m.who; rw [leaveH_def]; omega) y hy
      · split
        · refine ⟨?_, fun y hy => by have := h.h y hy; omega⟩
          have := List.length_filter_le (fun x : Lease => !(x.who == m.who && (x.path == m.hold.path && decide (x.num ≤ m.hold.num)))) w.leases
          show (offL w.leases m.who m.hold.path m.hold.num).length ≤ n + 1
          rw [offL_def]; omega
        · exact h.mono (by omega)
theorem HZ.ev {n : Nat} {w : Wld} (h : HZ n w) (e : Ev) : HZ (n + 1) (evW w e).1 := by
  have hl := h.l
  have id1 : HZ (n + 1) w := h.mono (by omega)
  unfold evW
  split
  · split
    · exact h.of_eq sendW_same.2.2.2.1 sendW_same.2.2.2.2.1
    · exact id1
  · split
    · unfold writeW
      split
      · exact id1
      · split
        · exact id1
        · split
          · exact h.of_eq recallW_same.2.2.2.1 recallW_same.2.2.2.2.1
          · exact h.of_eq rfl rfl
    · split
      · unfold tryW
        split
        · exact id1
        · split
          · exact h.of_eq recallW_same.2.2.2.1 recallW_same.2.2.2.2.1
          · exact h.of_eq rfl rfl
      · split
        · refine ⟨?_, fun y hy => by have := h.h y hy; omega⟩
          have := List.length_filter_le (fun l : Lease => decide (tickC w < l.til)) w.leases
          show (w.leases.filter fun l => decide (tickC w < l.til)).length ≤ n + 1
          omega
        · split
          · unfold netW
            split
            · exact id1
            · split
              · exact h.of_eq sendW_same.2.2.2.1 sendW_same.2.2.2.2.1
              · split
                · exact HZ.come (w := { w with net := w.net.eraseIdx e.pos.toNat }) ⟨h.l, h.h⟩ _
                · exact h.of_eq rfl rfl
          · exact id1
theorem HZ.new {o : Over} : HZ 0 (newW o) := ⟨by simp [newW], by simp [newW]⟩
end Go.Proofs.YthblflnfhdnpdaaGreatDoor

namespace Go.Proofs.YthblflnfhdnpdaaGreatDoor
set_option linter.unusedSimpArgs false
set_option linter.unusedVariables false
open Go Go.RowKit
theorem KeepS.nilS {k0 : List Nat} {A : Fr} {m : XM} (bx : Nat) (cs cs' : List PV) (id sz : Nat) (e : TypeId) (h0 : 0 < sz) (hb : lkX m bx = some (.box cs)) (hid : lkX m id = none) (hc : All2 (NR1 id) cs cs') :
    KeepS k0 A m A ((id, .row [] sz e) :: updX m bx (.box cs')) := fun W0 F K hA hK => by
  have hb' : lk (Go.Proofs.YthblflnfhdnpdaaGreatDoor.er m) bx = some (.box cs) := by rw [lk_er, hb]; rfl
  have hup : Go.Proofs.YthblflnfhdnpdaaGreatDoor.er (updX m bx (.box cs')) = upd (Go.Proofs.YthblflnfhdnpdaaGreatDoor.er m) bx (.box cs') := updX_er
  refine KeepG.nil (F2 := A) (m2 := upd (Go.Proofs.YthblflnfhdnpdaaGreatDoor.er m) bx (.box cs')) id sz e (by rw [lk_er, hid]; rfl) h0 (fun t x hx => ⟨x, by rw [← hA t]; exact hx, .inl (.inl rfl)⟩) (fun i b hi => ?_) (fun i hi => by rw [isSome_upd]; exact hi) ?_
  · by_cases h : i = bx
    · subst h
      rw [lk_upd_same hb'] at hi
      cases hi
      exact ⟨_, hb', .inr ⟨cs, cs', rfl, rfl, hc⟩⟩
    · rw [lk_upd_other h] at hi
      exact ⟨b, hi, .inl rfl⟩
  · have : Go.Proofs.YthblflnfhdnpdaaGreatDoor.er ((id, XB.row [] sz e) :: updX m bx (.box cs')) = (id, .row [] sz e) :: upd (Go.Proofs.YthblflnfhdnpdaaGreatDoor.er m) bx (.box cs') := by simp only [Go.Proofs.YthblflnfhdnpdaaGreatDoor.er, XB.er, hup]; rfl
    rw [this] at hK; exact hK
end Go.Proofs.YthblflnfhdnpdaaGreatDoor

namespace Go.Proofs.YthblflnfhdnpdaaGreatDoor
set_option linter.unusedSimpArgs false
set_option linter.unusedVariables false
open Go Go.RowKit
theorem KeepS.newB {k0 : List Nat} {A : Fr} {m : XM} (bx : Nat) (o : Over) (hb : lkX m bx = some (.box [.c (eEnts o.base), .c (eMarkss o.layers), .c (eMarks o.upper), I 0, I 0, .nil, .own 4 3, .own 5 3, .nil, B false, I 0, .c (CS []), .c (CS []), .c (CS [])])) (h6 : lkX m 6 = none) (hne : bx ≠ 6)
    {F2 : Fr} {m2 : XM} {z : Option Nat} (h : KeepX k0 z A ((6, .row [] 9 73) :: updX (updX m bx (.box [.c (eEnts o.base), .c (eMarkss o.layers), .c (eMarks o.upper), I 0, I 0, .c (.row []), .own 4 3, .own 5 3, .nil, B false, I 0, .c (CS []), .c (CS []), .c (CS [])])) bx (.box [.c (eEnts o.base), .c (eMarkss o.layers), .c (eMarks o.upper), I 0, I 0, .c (.row []), .own 4 3, .own 5 3, .own 6 0, B false, I 0, .c (CS []), .c (CS []), .c (CS [])])) F2 m2) : KeepX k0 (some 3) A m F2 m2 := by
  refine KeepS.trans (z := some 3) (KeepS.nilC bx _ [.c (eEnts o.base), .c (eMarkss o.layers), .c (eMarks o.upper), I 0, I 0, .c (.row []), .own 4 3, .own 5 3, .nil, B false, I 0, .c (CS []), .c (CS []), .c (CS [])] hb ⟨nc0, nc0, nc0, nc0, nc0, nc1, nc0, nc0, nc0, nc0, nc0, nc0, nc0, nc0, trivial⟩) ?_
  have key : ∀ {m : XM} {b b' : XB}, lkX m bx = some b → lkX (updX m bx b') bx = some b' := by
    intro m b b' hm
    induction m with
    | nil => cases hm
    | cons p l ih =>
      obtain ⟨k, x⟩ := p
      rw [lkX] at hm
      rw [updX]
      cases hk : Nat.beq k bx with
      | true => simp only [lkX]; rw [Nat.eq_of_beq_eq_true hk]; simp
      | false =>
        have hk' : Nat.beq bx k = false := by
          cases h' : Nat.beq bx k with
          | false => rfl
          | true => rw [Nat.eq_of_beq_eq_true h'] at hk; simp at hk
        rw [hk'] at hm
        simp only [lkX, hk']
        exact ih hm
  have key2 : ∀ {m : XM} {b' : XB}, lkX m 6 = none → lkX (updX m bx b') 6 = none := by
    intro m b' hm
    induction m with
    | nil => rfl
    | cons p l ih =>
      obtain ⟨k, x⟩ := p
      rw [lkX] at hm
      rw [updX]
      cases hk6 : Nat.beq 6 k with
      | true => rw [hk6] at hm; cases hm
      | false =>
        rw [hk6] at hm
        cases hk : Nat.beq k bx with
        | true => simp only [lkX, hk6]; exact hm
        | false => simp only [lkX, hk6]; exact ih hm
  exact KeepS.trans (KeepS.nilS bx _ [.c (eEnts o.base), .c (eMarkss o.layers), .c (eMarks o.upper), I 0, I 0, .c (.row []), .own 4 3, .own 5 3, .own 6 0, B false, I 0, .c (CS []), .c (CS []), .c (CS [])] 6 9 73 (by omega) (key hb) (key2 h6) ⟨nr0, nr0, nr0, nr0, nr0, nr0, nr0, nr0, nr1, nr0, nr0, nr0, nr0, nr0, trivial⟩) h
def c_spec_WorldRead : XC := (.s (.r [.ex 3 (.box (.t 0)), .ex 6 (.alloc [(.c (.sc (.string ⟨#[]⟩))), (.c (.sc (.bool false))), (.c (.sc (.string ⟨#[]⟩)))]), .ex 7 (.mv .n), .ex 8 (.mv .n)]) (.s (.s (.r [.ex 11 (.ld true 14 (.t 3)), .ex 12 (.call 44 [(.t 11)]), .ex 13 (.un .not (.t 12)), .mv 14 13, .gf 15 (.mv (.t 1)) 14, .gf 16 (.call 96 [(.t 15)]) 14, .gf 17 (.un .not (.t 16)) 14, .ex 18 (.pick (.t 14) .y (.t 17))]) (.cnd (.t 18) (.s (.r [.ex 19 (.build [(.c (.sc (.string ⟨#[]⟩))), (.c (.sc (.bool false))), (.c (.sc (.string ⟨#[]⟩)))] []), .nu (.st 3 (.t 6) (.t 19)), .ex 7 (.mv .n), .ex 8 (.mv .n)]) .ret) .skip)) (.s (.r [.ex 20 (.fa 6 (.t 3)), .ex 21 (.ld false 1 (.t 20)), .mv 22 1, .ex 23 (.ia 1 (.t 21) (.t 22)), .ex 24 (.ld false 1 (.t 23)), .ex 9 (.asn (.t 24) 7 71)]) (.s (.s (.r [.ex 10 (.mv (.i 0))]) (.blk 0 (.loop (.s (.s (.r [.mv 25 10, .mv 26 9, .ex 27 (.len false (.t 26)), .ex 28 (.bin .lss (.t 25) (.t 27))]) (.cnd (.t 28) .skip (.exit 0))) (.s (.blk 1 (.s (.d [.mv 31 9, .mv 32 10, .ex 33 (.ia 7 (.t 31) (.t 32)), .ex 34 (.fa 0 (.t 33)), .ex 35 (.ld false 1 (.t 34)), .mv 36 2, .ex 37 (.bin .eql (.t 35) (.t 36)), .mv 38 37, .gt 39 (.fa 3 (.t 3)) 38, .gt 40 (.ld false 1 (.t 39)) 38, .gt 41 (.mv (.t 9)) 38, .gt 42 (.mv (.t 10)) 38, .gt 43 (.ia 7 (.t 41) (.t 42)) 38, .gt 44 (.fa 6 (.t 43)) 38, .gt 45 (.ld false 1 (.t 44)) 38, .gt 46 (.bin .lss (.t 40) (.t 45)) 38, .ex 47 (.pick (.t 38) (.t 46) .n)]) (.cnd (.t 47) (.s (.d [.mv 48 9, .mv 49 10, .exo [96] 50 (.ia 7 (.t 48) (.t 49)), .ex 51 (.fa 2 (.t 50)), .exo [96] 52 (.ld true 3 (.t 51)), .mv 53 9, .mv 54 10, .exo [96] 55 (.ia 7 (.t 53) (.t 54)), .ex 56 (.fa 1 (.t 55)), .exo [96] 57 (.ld false 1 (.t 56)), .nuo [96] (.st 3 (.t 6) (.t 52)), .mv 7 57, .ex 8 (.mv .y)]) .ret) .skip))) (.r [.mv 29 10, .ex 30 (.bin .add (.t 29) (.i 1)), .mv 10 30])))))) (.s (.r [.ex 58 (.build [(.c (.sc (.string ⟨#[]⟩))), (.c (.sc (.bool false))), (.c (.sc (.string ⟨#[]⟩)))] []), .nu (.st 3 (.t 6) (.t 58)), .ex 7 (.mv .n), .ex 8 (.mv .n)]) .ret)))))
theorem c_spec_WorldRead_eq : compF Tryz.prog [1000096] 39 = some (c_spec_WorldRead.ac, [(.cell 6 true 3), (.t 7), (.t 8)], 59) := by kernel_rfl
def eWR (r : Option (Ent × Bool)) : CV := .tup [eEnt (r.getD (noE, false)).1, CB (r.getD (noE, false)).2, CB r.isSome]
theorem wRead_not {w : Wld} {who : Int} {p : Str} (h : ¬ (WG w ∧ isW who)) : wRead w who p = none := by unfold wRead; rw [if_neg h]
theorem wRead_yes {w : Wld} {who : Int} {p : Str} (h : WG w) (h2 : isW who) : wRead w who p = ((hdW w who).find? fun h => h.path == p && decide (w.clock < h.til)).map fun h => (h.ent, h.has) := by unfold wRead; rw [if_pos ⟨h, h2⟩]
theorem findq_here {α : Type} {q : α → Bool} {l : List α} {k : Nat} (h : k < l.length) (hn : ∀ x ∈ l.take k, q x = false) (h1 : q l[k] = true) : l.find? q = some l[k] := by
  have e : l.find? q = (l.take k ++ (l[k] :: l.drop (k + 1))).find? q := by rw [← List.drop_eq_getElem_cons h, List.take_append_drop]
  have e2 : (l.take k).find? q = none := List.find?_eq_none.2 fun x hx => by rw [hn x hx]; simp
  rw [e, List.find?_append, e2, List.find?_cons, h1]; rfl
theorem findq_none {α : Type} {q : α → Bool} {l : List α} (hn : ∀ x ∈ l, q x = false) : l.find? q = none := List.find?_eq_none.2 fun x hx => by rw [hn x hx]; simp
theorem noq_next {α : Type} {q : α → Bool} {l : List α} {k : Nat} (h : k < l.length) (hn : ∀ x ∈ l.take k, q x = false) (h1 : q l[k] = false) : ∀ x ∈ l.take (k + 1), q x = false := fun x hx => by
  rw [List.take_succ_eq_append_getElem h] at hx
  rcases List.mem_append.1 hx with h' | h'
  · exact hn x h'
  · rw [List.mem_singleton.1 h']; exact h1
theorem f_spec_WorldRead (W0 : World) (w : Wld) (who : Int) (p : Str) : Fn Tryz.prog W0 39 [eWld w, CI who, CS p] (.c (eWR (wRead w who p))) [] := by
  refine fnX (c := c_spec_WorldRead) mixed c_spec_WorldRead_eq (by simp) rfl fun hg => ?_
  have g0 := goodAgg (hg _ (by simp : eWld w ∈ _))
  refine dEr ?_
  repeat (refine c0 (f_spec_WorldOk W0 w) rfl ?_; first | refine dEr ?_ | exact dz)
  refine cP (fun h1 => ?_) (fun h1 => ?_)
  · refine dr ?_
    rw [wRead_not (fun hh => h1 hh.1)] <;> rfl
  refine dEr ?_
  repeat (refine c0 (f_l5Who W0 who) rfl ?_; first | refine dEr ?_ | exact dz)
  refine cP (fun h2 => ?_) (fun h2 => ?_)
  · refine dr ?_
    rw [wRead_not (fun hh => h2 hh.2)] <;> rfl
  rw [wRead_yes h1 h2]
  have g1 : (hdW w who).length ≤ 9223372036854775807 := by
    have hk : who.toNat < w.holds.length := by have := h2.1; have := h2.2; have := h1.pl.hl; omega
    have e : hdW w who = w.holds[who.toNat] := by unfold hdW; rw [List.getD_eq_getElem?_getD, List.getElem?_eq_getElem hk]; rfl
    have := goodRow' (g0 _ (by simp : eHoldss w.holds ∈ _)) _ (List.getElem_mem hk) (eHolds w.holds[who.toNat]) (by simp [eHolds, CV.cells])
    rw [e]; exact goodRow this
  refine dr ?_
  repeat (refine aHd h2 h1.pl.hl ?_; first | refine dr ?_ | exact dz)
  generalize hdW w who = L at *
  refine lp (σ := Nat) (fun k => [(2, .c (CS p)), (3, .ptr 48 0), (6, .ptr 96 0), (9, .c (eHolds L)), (10, I k)]) (fun _ => [(48, wBx w), (96, .box [.c (CS []), B false, .c (CS [])])]) (fun k => k ≤ L.length ∧ ∀ x ∈ L.take k, (x.path == p && decide (w.clock < x.til)) = false) (fun k => L.length - k) 0 ⟨by omega, by simp⟩ ?_ ?_
  · refine dr ?_
    trivial
  rintro k ⟨hk, hA⟩
  refine dr ?_
  refine cP (fun h3 => ?_) (fun h3 => ?_)
  · have hk' : k < L.length := by omega
    refine dr ?_
    refine cP (fun h4 => ?_) (fun h4 => ?_)
    · refine dr ?_
      refine cP (fun h5 => ?_) (fun h5 => ?_)
      · rw [findq_here hk' hA (by rw [h4, decide_eq_true h5]; simp)]
        refine dr ?_
        rfl
      · refine dr ?_
        refine ⟨k + 1, ⟨by omega, noq_next hk' hA (by rw [decide_eq_false (by omega), Bool.and_false])⟩, by omega, ?_⟩
        refine dr ?_
        trivial
    · refine dr ?_
      refine ⟨k + 1, ⟨by omega, noq_next hk' hA (by simp [h4])⟩, by omega, ?_⟩
      refine dr ?_
      trivial
  have hkl : k = L.length := by omega
  rw [hkl, List.take_length] at hA
  rw [findq_none hA]
  refine dr ?_
  rfl
end Go.Proofs.YthblflnfhdnpdaaGreatDoor

namespace Go.Proofs.YthblflnfhdnpdaaGreatDoor
set_option linter.unusedSimpArgs false
set_option linter.unusedVariables false
open Go Go.RowKit
theorem ix_app {c : UInt8} : ∀ {a : Str} (b : Str), c ∉ a → Lib.index (a ++ c :: b) [c] = (a.length : Int)
  | [], b, _ => by simp [Lib.index]
  | x :: a, b, h => by
    simp only [List.mem_cons, not_or] at h
    have ih := ix_app (a := a) b h.2
    rw [List.cons_append, Lib.index, ih]
    have e : [c].isPrefixOf (x :: (a ++ c :: b)) = false := by simp [List.isPrefixOf, h.1]
    rw [e]
    simp
theorem splitK_cut {c : UInt8} : ∀ (k : Nat) (s : Str), s.count c = k → Lib.splitK [c] 0 k s = cut c s
  | 0, s, h => by rw [Lib.splitK, cut_none (List.count_eq_zero.1 h)]
  | k + 1, s, h => by
    have hm : c ∈ s := List.count_pos_iff.1 (by omega)
    obtain ⟨a, b, e, ha⟩ := List.eq_append_cons_of_mem hm
    subst e
    have hb : b.count c = k := by
      rw [List.count_append, List.count_eq_zero.2 ha, List.count_cons_self] at h; omega
    rw [Lib.splitK, ix_app b ha, if_neg (by simp), cut_app b ha]
    have e1 : ((a.length : Int).toNat + 0) = a.length := by simp
    have e2 : ((a.length : Int).toNat + [c].length) = a.length + 1 := by simp
    rw [e1, e2, List.take_left, List.drop_append, List.drop_of_length_le (by omega)]
    have e3 : a.length + 1 - a.length = 1 := by omega
    rw [e3]
    simp only [List.drop_succ_cons, List.drop_zero, List.nil_append]
    rw [splitK_cut k b hb]
theorem cut_len (c : UInt8) : ∀ (s : Str), ∀ n ∈ cut c s, n.length ≤ s.length
  | [], n, h => by simp [cut] at h; simp [h]
  | b :: t, n, h => by
    have ih := cut_len c t
    unfold cut at h
    split at h
    · rcases List.mem_cons.1 h with rfl | h
      · simp
      · have := ih n h; simp; omega
    · split at h
      · simp at h; subst h; simp
      · rename_i x r hc
        rw [hc] at ih
        rcases List.mem_cons.1 h with rfl | h
        · have := ih x (by simp); simp; omega
        · have := ih n (by simp [h]); simp; omega
def HM (W0 : World) : Prop := ∃ m, W0.cell? ⟨0, 0, none⟩ = some (.int .i64 m)
theorem f_Split (W0 : World) (hM : HM W0) (s : Str) (hs : s.length ≤ 1000000) : Fn Tryz.prog W0 252 [CS s, CS [47]] (.c (eStrs (cut 47 s))) [] := by
  intro κ w vs hB hm hr
  obtain ⟨v1, v2, hvs⟩ : ∃ v1 v2, vs.toList = [v1, v2] := by
    have := All2.length hr
    match h : vs.toList with
    | [a, b] => exact ⟨a, b, rfl⟩
    | [] | [_] | _ :: _ :: _ :: _ => rw [h] at this; simp at this
  rw [hvs] at hr
  obtain ⟨r1, r2, _⟩ := hr
  cases r1 with | sc _ => ?_
  cases r2 with | sc _ => ?_
  have hv : vs = #[.string ⟨⟨s⟩⟩, .string ⟨⟨[47]⟩⟩] := by rw [← hvs]
  subst hv
  obtain ⟨m, hc⟩ := hM
  have hc' : w.cell? ⟨0, 0, none⟩ = some (.int .i64 m) := by
    rw [cell_block (hB.block 0 (cell_lt hc))]; exact hc
  refine (Tryz.strings_Split ⟨⟨s⟩⟩ ⟨⟨[47]⟩⟩ m w (by show s.length < _; omega) hc' (by decide)).mono ?_
  rintro e w' ⟨rfl, rfl⟩
  have hcount : Lib.countB ⟨⟨s⟩⟩ ⟨⟨[47]⟩⟩ = s.count 47 := Lib.count_one 47 s
  have hsp : (Lib.splitB ⟨⟨[47]⟩⟩ 0 (Lib.countB ⟨⟨s⟩⟩ ⟨⟨[47]⟩⟩) ⟨⟨s⟩⟩).map (·.data.toList) = cut 47 s := by
    rw [Lib.splitB_data, hcount]; exact splitK_cut _ s rfl
  generalize hL : Lib.splitB ⟨⟨[47]⟩⟩ 0 (Lib.countB ⟨⟨s⟩⟩ ⟨⟨[47]⟩⟩) ⟨⟨s⟩⟩ = L at hsp
  have hlen : L.length = Lib.countB ⟨⟨s⟩⟩ ⟨⟨[47]⟩⟩ + 1 := by rw [← hL]; exact Lib.splitB_all _ (by decide) 0 _ _ rfl
  have hn : L.length = (cut 47 s).length := by rw [← hsp, List.length_map]
  have hle : s.count 47 ≤ s.length := List.count_le_length
  refine ⟨_, _, [], κ, rfl, ⟨rfl, rfl⟩, hm.below (below_alloc w _), ?_⟩
  rw [← hlen, hn]
  have hrow : (eStrs (cut 47 s)) = .row ((cut 47 s).map CS) := rfl
  have hcells : ((cut 47 s).map CS).flatMap CV.cells = (cut 47 s).map CS := by
    generalize cut 47 s = l
    induction l with
    | nil => rfl
    | cons a l ih => rw [List.map_cons, List.flatMap_cons, ih]; rfl
  have key : RepC (w.alloc (.cells (L.map Value.string).toArray 9)) (Live κ []) (.row ((cut 47 s).map CS)) (.slice (some ⟨w.heap.size, 0, none⟩) ((cut 47 s).map CS).length (cut 47 s).length) := by
    refine .row (sz := 1) (vs := L.map Value.string) (by simp; exact cut_ne 47 s) (by omega) (by simp) (by rw [← hn, hlen, hcount]; unfold maxLen; omega) ?_ ?_ ?_ ?_ ?_ ?_
    · intro h
      have := hm.mem.live_lt h
      omega
    · intro x hx
      obtain ⟨a, _, rfl⟩ := List.mem_map.1 hx
      rfl
    · rw [hcells]; simp [hn]
    · intro i x v hx hv
      rw [hcells, ← hsp, List.map_map, List.getElem?_map] at hx
      rw [List.getElem?_map] at hv
      cases hi : L[i]? with
      | none => rw [hi] at hx; cases hx
      | some y =>
        rw [hi] at hx hv
        cases hx; cases hv
        refine .sc ?_
        have hmem : y.data.toList ∈ cut 47 s := by rw [← hsp]; exact List.mem_map_of_mem (List.mem_of_getElem? hi)
        have := cut_len 47 s _ hmem
        show y.size ≤ maxLen
        have e : y.size = y.data.toList.length := by cases y; rfl
        rw [e]; unfold maxLen; omega
    · intro v hv
      obtain ⟨a, _, rfl⟩ := List.mem_map.1 hv
      rfl
    · intro j v hj
      rw [cell_of (heap_push_at w rfl _)]
      simpa using hj
  rw [List.length_map] at key
  exact key
theorem rowS_inv {w : World} {S : Nat → Prop} {l : List Str} {v : Value} (h : RepC w S (eStrs l) v) : (l = [] ∧ ∃ o cap, v = .slice o 0 cap) ∨
    ∃ b off cap, v = .slice (some ⟨b, off, none⟩) l.length cap ∧ l.length ≤ cap ∧ l ≠ [] ∧ ∀ (j : Nat) (x : Str), l[j]? = some x → w.cell? ⟨b, off + j, none⟩ = some (.string ⟨⟨x⟩⟩) := by
  unfold eStrs at h
  generalize hL : l.map CS = L at h
  cases h with
  | nil _ => left; refine ⟨?_, _, _, rfl⟩; simpa using hL
  | @row L b off cap sz vs hne _ hcap _ _ hsz hlen hr _ hc =>
    right
    subst hL
    have hcells : (l.map CS).flatMap CV.cells = l.map CS := by
      generalize l = l
      induction l with
      | nil => rfl
      | cons a l ih => rw [List.map_cons, List.flatMap_cons, ih]; rfl
    refine ⟨b, off, cap, by simp, by simpa using hcap, by simpa using hne, fun j x hx => ?_⟩
    rw [hcells] at hlen hr
    have hx' : (l.map CS)[j]? = some (CS x) := by rw [List.getElem?_map, hx]; rfl
    have hj : j < vs.length := by
      rw [← hlen, List.length_map]
      exact (List.getElem?_eq_some_iff.1 hx).1
    have hv := hr j _ vs[j] hx' (List.getElem?_eq_getElem hj)
    have : vs[j] = .string ⟨⟨x⟩⟩ := by
      generalize vs[j] = v at hv
      cases hv; rfl
    rw [hc j _ (List.getElem?_eq_getElem hj), this]
def joinS (l : List Str) : Str := Lib.join l [47]
theorem joinS_jn : ∀ {l : List Str}, l ≠ [] → jn l = 47 :: joinS l
  | [], h => absurd rfl h
  | x :: r, _ => by
    unfold joinS
    rw [Lib.join_cons]
    have : Lib.joinTail [47] r = jn r := by
      unfold Lib.joinTail jn
      rw [List.flatMap_def]; rfl
    rw [this]; rfl
theorem joinS_len {l : List Str} : (joinS l).length ≤ (jn l).length := by
  cases l with
  | nil => simp [joinS, Lib.join_nil]
  | cons x r => rw [joinS_jn (by simp)]; simp
theorem f_Join (W0 : World) (l : List Str) (hl : (jn l).length ≤ 1000000) : Fn Tryz.prog W0 234 [eStrs l, CS [47]] (.c (CS (joinS l))) [] := by
  intro κ w vs hB hm hr
  obtain ⟨v1, v2, hvs⟩ : ∃ v1 v2, vs.toList = [v1, v2] := by
    have := All2.length hr
    match h : vs.toList with
    | [a, b] => exact ⟨a, b, rfl⟩
    | [] | [_] | _ :: _ :: _ :: _ => rw [h] at this; simp at this
  rw [hvs] at hr
  obtain ⟨r1, r2, _⟩ := hr
  cases r2 with | sc _ => ?_
  have hll : l.length ≤ (jn l).length := by
    clear r1 hl hvs
    induction l with
    | nil => simp
    | cons a l ih => simp [jn] at ih ⊢; omega
  have fin : ∀ r : Str, r.length ≤ 1000000 → Rep κ [] w (.c (CS r)) (.string ⟨⟨r⟩⟩) := fun r h => RepC.sc (by show ByteArray.size _ ≤ maxLen; unfold maxLen; show r.length ≤ _; omega)
  rcases rowS_inv r1 with ⟨rfl, o, cap, rfl⟩ | ⟨b, off, cap, rfl, hcap, hne, hcells⟩
  · have hv : vs = #[.slice o 0 cap, .string ⟨⟨[47]⟩⟩] := by rw [← hvs]
    subst hv
    refine (Tryz.strings_Join_none o cap ⟨⟨[47]⟩⟩ w).mono ?_
    rintro e w' ⟨rfl, rfl⟩
    exact ⟨_, _, [], κ, rfl, ⟨rfl, rfl⟩, hm, fin [] (by simp)⟩
  · have hv : vs = #[.slice (some ⟨b, off, none⟩) l.length cap, .string ⟨⟨[47]⟩⟩] := by rw [← hvs]
    subst hv
    have hbk : b < w.heap.size := by
      cases l with
      | nil => exact absurd rfl hne
      | cons x r => exact cell_lt (hcells 0 x rfl)
    have hmap : (l.map fun x => (⟨⟨x⟩⟩ : ByteArray)).map (·.data.toList) = l := by rw [List.map_map]; exact List.map_id l
    have hj : (Lib.join ((l.map fun x => (⟨⟨x⟩⟩ : ByteArray)).map (·.data.toList)) (⟨⟨[47]⟩⟩ : ByteArray).data.toList) = joinS l := by rw [hmap]; rfl
    have hjl := joinS_len (l := l)
    have h := Tryz.strings_Join b off cap (l.map fun x => ⟨⟨x⟩⟩) ⟨⟨[47]⟩⟩ w (fun j x hx => by
      rw [List.getElem?_map] at hx
      cases hi : l[j]? with
      | none => rw [hi] at hx; cases hx
      | some y => rw [hi] at hx; cases hx; exact hcells j y hi) hbk (by simp; omega) (by simpa using hcap) (by rw [hj]; omega)
    rw [hj, List.length_map] at h
    refine h.mono ?_
    rintro e w' ⟨rfl, hw⟩
    exact ⟨_, _, [], κ, rfl, ⟨rfl, rfl⟩, hm.below hw, RepC.sc (by show ByteArray.size _ ≤ maxLen; unfold maxLen; show (joinS l).length ≤ _; omega)⟩
end Go.Proofs.YthblflnfhdnpdaaGreatDoor

namespace Go.Proofs.YthblflnfhdnpdaaGreatDoor
set_option linter.unusedSimpArgs false
set_option linter.unusedVariables false
open Go Go.RowKit
def c_impl_nameOk : XC := (.s (.r [.ex 2 (.mv .n)]) (.s (.s (.r [.mv 4 0, .ex 5 (.len true (.t 4)), .ex 6 (.bin .lss (.t 5) (.i 1)), .mv 7 6, .gf 8 (.mv (.t 0)) 7, .gf 9 (.len true (.t 8)) 7, .gf 10 (.bin .gtr (.t 9) (.i 3)) 7, .ex 11 (.pick (.t 7) .y (.t 10))]) (.cnd (.t 11) (.s (.r [.ex 2 (.mv .n)]) .ret) .skip)) (.s (.s (.r [.ex 3 (.mv (.i 0))]) (.blk 0 (.loop (.s (.s (.r [.mv 12 3, .mv 13 0, .ex 14 (.len true (.t 13)), .ex 15 (.bin .lss (.t 12) (.t 14))]) (.cnd (.t 15) .skip (.exit 0))) (.s (.blk 1 (.s (.r [.mv 18 0, .mv 19 3, .ex 20 (.idx (.t 18) (.t 19)), .ex 21 (.bin .lss (.t 20) (.u 97)), .mv 22 21, .gf 23 (.mv (.t 0)) 22, .gf 24 (.mv (.t 3)) 22, .gf 25 (.idx (.t 23) (.t 24)) 22, .gf 26 (.bin .gtr (.t 25) (.u 122)) 22, .ex 27 (.pick (.t 22) .y (.t 26))]) (.cnd (.t 27) (.s (.r [.ex 2 (.mv .n)]) .ret) .skip))) (.r [.mv 16 3, .ex 17 (.bin .add (.t 16) (.i 1)), .mv 3 17])))))) (.s (.r [.ex 2 (.mv .y)]) .ret))))
theorem c_impl_nameOk_eq : compF Tryz.prog [] 253 = some (c_impl_nameOk.ac, [(.t 2)], 28) := by kernel_rfl
theorem f_nameOk (W0 : World) (s : Str) : Fn Tryz.prog W0 253 [CS s] (.c (CB (nameOk s))) [] := by
  refine fnX (c := c_impl_nameOk) mixed c_impl_nameOk_eq (by simp) rfl fun hg => ?_
  refine dr ?_
  refine cP (fun h1 => ?_) (fun h1 => ?_)
  · refine dr ?_
    exact bF (by rw [nameOk]; simp; omega)
  refine dr ?_
  refine cP (fun h2 => ?_) (fun h2 => ?_)
  · refine dr ?_
    exact bF (by rw [nameOk]; simp; omega)
  refine dr ?_
  refine lp (σ := Nat) (fun k => [(0, .c (CS s)), (3, I k)]) (fun _ => []) (fun k => k ≤ s.length ∧ (s.take k).all lower = true) (fun k => s.length - k) 0 ⟨by simp, by simp⟩ ?_ ?_
  · refine dr ?_
    trivial
  rintro k ⟨hk, ha⟩
  refine dr ?_
  refine cP (fun h3 => ?_) (fun h3 => ?_)
  · have hk' : k < s.length := by omega
    have no : lower s[k] = false → CB false = CB (nameOk s) := fun h => bF (by rw [nameOk, all_no hk' h]; rfl)
    refine dr ?_
    refine cP (fun h4 => ?_) (fun h4 => ?_)
    · refine dr ?_
      exact no (by simp [lower]; omega)
    · refine dr ?_
      refine cP (fun h5 => ?_) (fun h5 => ?_)
      · refine dr ?_
        exact no (by simp [lower]; omega)
      · refine dr ?_
        refine ⟨k + 1, ⟨by omega, take_all hk' ha (by simp [lower]; omega)⟩, by omega, ?_⟩
        refine dr ?_
        trivial
  · have : k = s.length := by omega
    subst this
    rw [List.take_length] at ha
    refine dr ?_
    exact bT (by rw [nameOk, ha]; simp; omega)
def eNames (s : Str) : CV := if pOk s = true then .tup [eStrs (names s), CB true] else .tup [eStrs [], CB false]
def c_impl_pathNames : XC := (.s (.r [.ex 2 (.asn (.k .nil) 1 9), .ex 3 (.mv .n)]) (.s (.s (.r [.mv 7 0, .ex 8 (.bin .eql (.t 7) (.s [])), .mv 9 8, .gf 10 (.mv (.t 0)) 9, .gf 11 (.idx (.t 10) (.i 0)) 9, .gf 12 (.bin .neq (.t 11) (.u 47)) 9, .ex 13 (.pick (.t 9) .y (.t 12)), .mv 14 13, .gf 15 (.mv (.t 0)) 14, .gf 16 (.len true (.t 15)) 14, .gf 17 (.bin .gtr (.t 16) (.i 12)) 14, .ex 18 (.pick (.t 14) .y (.t 17))]) (.cnd (.t 18) (.s (.r [.ex 2 (.asn (.k .nil) 1 9), .ex 3 (.mv .n)]) .ret) .skip)) (.s (.r [.mv 19 0, .ex 20 (.sls (.t 19) (.some (.i 1)) .none), .ex 21 (.call 252 [(.t 20), (.s [47])]), .ex 4 (.asn (.t 21) 1 9)]) (.s (.s (.r [.mv 22 4, .ex 23 (.len false (.t 22)), .ex 24 (.bin .gtr (.t 23) (.i 3))]) (.cnd (.t 24) (.s (.r [.ex 2 (.asn (.k .nil) 1 9), .ex 3 (.mv .n)]) .ret) .skip)) (.s (.s (.r [.mv 25 4, .ex 26 (.len false (.t 25)), .ex 27 (.mv (.i 0))]) (.blk 0 (.loop (.s (.r [.ex 28 (.bin .lss (.t 27) (.t 26))]) (.s (.cnd (.t 28) .skip (.exit 0)) (.s (.blk 1 (.s (.r [.ex 29 (.ia 1 (.t 25) (.t 27)), .ex 30 (.ld false 1 (.t 29)), .mv 6 30]) (.s (.r [.mv 31 6, .ex 32 (.call 253 [(.t 31)]), .ex 33 (.un .not (.t 32))]) (.cnd (.t 33) (.s (.r [.ex 2 (.asn (.k .nil) 1 9), .ex 3 (.mv .n)]) .ret) .skip)))) (.r [.ex 34 (.bin .add (.t 27) (.i 1)), .mv 27 34]))))))) (.s (.r [.mv 35 4, .ex 2 (.asn (.t 35) 1 9), .ex 3 (.mv .y)]) .ret))))))
theorem c_impl_pathNames_eq : compF Tryz.prog [] 184 = some (c_impl_pathNames.ac, [(.t 2), (.t 3)], 36) := by kernel_rfl
theorem f_pathNames (W0 : World) (hM : HM W0) (s : Str) : Fn Tryz.prog W0 184 [CS s] (.c (eNames s)) [] := by
  refine fnX (c := c_impl_pathNames) mixed c_impl_pathNames_eq (by simp) rfl fun hg => ?_
  have no : pOk s = false → CV.tup [eStrs [], CB false] = eNames s := fun h => by rw [eNames, if_neg (by simp [h])]
  refine dr ?_
  refine cP (fun h1 => ?_) (fun h1 => ?_)
  · refine dr ?_
    exact no (by rw [h1]; rfl)
  cases hs : s with
  | nil => exact absurd hs h1
  | cons b t =>
    rw [← hs]
    have hl : 1 ≤ s.length := by rw [hs]; simp
    refine dr ?_
    refine cP (fun h2 => ?_) (fun h2 => ?_)
    · refine dr ?_
      have : s.head? ≠ some 47 := by
        rw [hs]
        intro e
        have : b = 47 := by simpa using e
        subst hs; subst this
        exact h2 rfl
      exact no (by
        cases hp : pOk s with
        | false => rfl
        | true => exact absurd (pOk_len hp).2.2 this)
    have hb : b = 47 := by
      have : (s[0]).toNat = 47 := by omega
      subst hs
      exact UInt8.toNat_inj.1 this
    refine dr ?_
    refine cP (fun h3 => ?_) (fun h3 => ?_)
    · refine dr ?_
      exact no (by
        cases hp : pOk s with
        | false => rfl
        | true => have := (pOk_len hp).2.1; omega)
    refine dr ?_
    repeat ((first | refine sLo 1 rfl (by omega) ?_ | refine c0 (f_Split W0 hM _ (by simp; omega)) rfl ?_); first | refine dr ?_ | exact dz)
    intro hg1
    have hd : s.drop 1 = t := by rw [hs]; rfl
    rw [hd] at hg1 ⊢
    have hp : pOk s = ((cut 47 t).all nameOk && ((cut 47 t).length ≤ 3)) := by
      have hne := cut_ne 47 t
      have h1c : 1 ≤ (cut 47 t).length := by
        cases hc : cut 47 t with
        | nil => exact absurd hc hne
        | cons _ _ => simp
      rw [pOk]
      by_cases h2 : s.length < 2
      · have ht : t = [] := by
          rw [hs] at h2
          cases t with
          | nil => rfl
          | cons _ _ => simp at h2; omega
        have : names s = [] := by rw [names, if_pos (.inl h2)]
        rw [this, ht]; simp [cut, nameOk]
      · have : names s = cut 47 t := by
          rw [names, if_neg (by rw [hs] at h2 ⊢; simp at h2 ⊢; exact ⟨h2, hb⟩), hs]; rfl
        rw [this, Bool.eq_iff_iff]; simp [h1c, show s.length ≤ 12 by omega]
    have hn : pOk s = true → names s = cut 47 t := fun h => by
      have h2 := (pOk_len h)
      rw [names, if_neg (by simp [h2.2.2]; omega), hs]; rfl
    generalize cut 47 t = l at *
    refine dr ?_
    refine cP (fun h4 => ?_) (fun h4 => ?_)
    · refine dr ?_
      exact no (by rw [hp]; simp; omega)
    refine dr ?_
    refine lp (σ := Nat) (fun k => [(4, .c (eStrs l)), (25, .c (eStrs l)), (26, I l.length), (27, I k)]) (fun _ => []) (fun k => k ≤ l.length ∧ (l.take k).all nameOk = true) (fun k => l.length - k) 0 ⟨by simp, by simp⟩ ?_ ?_
    · refine dr ?_
      trivial
    rintro k ⟨hk, ha⟩
    refine dr ?_
    refine cP (fun h5 => ?_) (fun h5 => ?_)
    · have hk' : k < l.length := by omega
      refine dEr ?_
      repeat (refine c0 (f_nameOk W0 _) rfl ?_; first | refine dEr ?_ | exact dz)
      refine cP (fun h6 => ?_) (fun h6 => ?_)
      · refine dr ?_
        exact no (by rw [hp, all_no hk' h6]; rfl)
      · refine dr ?_
        refine ⟨k + 1, ⟨by omega, take_all hk' ha h6⟩, by omega, ?_⟩
        refine dr ?_
        trivial
    · have : k = l.length := by omega
      subst this
      rw [List.take_length] at ha
      have hy : pOk s = true := by rw [hp, ha]; simp; omega
      refine dr ?_
      rw [eNames, if_pos hy, hn hy]
def c_impl_PathOk : XC := (.s (.r [.ex 2 (.mv .n)]) (.s (.r [.mv 6 0, .ex 7 (.call 184 [(.t 6)]), .mv 5 7, .ex 8 (.ext (.t 5) 0), .ex 9 (.ext (.t 5) 1), .ex 3 (.asn (.t 8) 1 9), .mv 4 9]) (.s (.r [.mv 10 4, .mv 2 10]) .ret)))
theorem c_impl_PathOk_eq : compF Tryz.prog [] 112 = some (c_impl_PathOk.ac, [(.t 2)], 11) := by kernel_rfl
theorem f_impl_PathOk (W0 : World) (hM : HM W0) (s : Str) : Fn Tryz.prog W0 112 [CS s] (.c (CB (pOk s))) [] := by
  refine fnX (c := c_impl_PathOk) mixed c_impl_PathOk_eq (by simp) rfl fun hg => ?_
  have hc := f_pathNames W0 hM s
  unfold eNames at hc
  cases hp : pOk s with
  | true =>
    rw [if_pos hp] at hc
    refine dr ?_
    repeat (refine c0 hc rfl ?_; first | refine dr ?_ | exact dz)
    intro hg1
    exact dz
  | false =>
    rw [if_neg (by simp [hp])] at hc
    refine dr ?_
    repeat (refine c0 hc rfl ?_; first | refine dr ?_ | exact dz)
    intro hg1
    exact dz
def c_impl_PathUp : XC := (.s (.r [.ex 2 (.mv (.s []))]) (.s (.r [.mv 6 0, .ex 7 (.call 184 [(.t 6)]), .mv 5 7, .ex 8 (.ext (.t 5) 0), .ex 9 (.ext (.t 5) 1), .ex 3 (.asn (.t 8) 1 9), .mv 4 9]) (.s (.s (.r [.mv 10 4, .ex 11 (.un .not (.t 10))]) (.cnd (.t 11) (.s (.r [.ex 2 (.mv (.s []))]) .ret) .skip)) (.s (.r [.mv 12 3, .mv 13 3, .ex 14 (.len false (.t 13)), .ex 15 (.bin .sub (.t 14) (.i 1)), .ex 16 (.slr 1 (.t 12) .none (.some (.t 15))), .ex 17 (.call 234 [(.t 16), (.s [47])]), .ex 18 (.bin .add (.s [47]) (.t 17)), .mv 2 18]) .ret))))
theorem c_impl_PathUp_eq : compF Tryz.prog [] 158 = some (c_impl_PathUp.ac, [(.t 2)], 19) := by kernel_rfl
theorem f_impl_PathUp (W0 : World) (hM : HM W0) (s : Str) : Fn Tryz.prog W0 158 [CS s] (.c (CS (pUp s))) [] := by
  refine fnX (c := c_impl_PathUp) mixed c_impl_PathUp_eq (by simp) rfl fun hg => ?_
  have hc := f_pathNames W0 hM s
  unfold eNames at hc
  cases hp : pOk s with
  | true =>
    rw [if_pos hp] at hc
    obtain ⟨⟨h1, h2⟩, h3, h4⟩ := pOk_names hp
    have h12 := (pOk_len hp).2.1
    have hj : (jn ((names s).take ((names s).length - 1))).length ≤ 12 := by
      have : jn (names s) = jn ((names s).take ((names s).length - 1)) ++ jn ((names s).drop ((names s).length - 1)) := by rw [← jn_append, List.take_append_drop]
      have e := congrArg List.length this
      rw [← h4, List.length_append] at e
      omega
    have hjl := joinS_len (l := (names s).take ((names s).length - 1))
    refine dr ?_
    repeat (refine c0 hc rfl ?_; first | refine dr ?_ | exact dz)
    intro hg1
    refine dr ?_
    repeat ((first | refine sHiM ((names s).length - 1) (by omega) (by omega) ?_ | refine c0 (f_Join W0 ((names s).take ((names s).length - 1)) (by omega)) rfl ?_ | refine oB (by simp; omega) ?_); first | refine dr ?_ | exact dz)
    intro hg2
    refine dr ?_
    rw [pUp, if_pos hp]
    have hdl : (names s).take ((names s).length - 1) = (names s).dropLast := by rw [List.dropLast_eq_take]
    rw [hdl]
    by_cases hn : (names s).length = 1
    · have : (names s).dropLast = [] := by
        rw [← List.length_eq_zero_iff, List.length_dropLast]; omega
      rw [if_pos hn, this]; rfl
    · have : (names s).dropLast ≠ [] := by
        intro e; have := congrArg List.length e; rw [List.length_dropLast] at this; simp at this; omega
      rw [if_neg hn, joinS_jn this]; rfl
  | false =>
    rw [if_neg (by simp [hp])] at hc
    refine dr ?_
    repeat (refine c0 hc rfl ?_; first | refine dr ?_ | exact dz)
    intro hg1
    refine dr ?_
    rw [pUp, if_neg (by simp [hp])]
def c_internal_stringslite_HasPrefix : XC := (.s (.r [.ex 4 (.mv .n)]) (.s (.r [.mv 5 0, .ex 6 (.len true (.t 5)), .mv 7 1, .ex 8 (.len true (.t 7)), .ex 9 (.bin .geq (.t 6) (.t 8)), .mv 10 9, .gt 11 (.mv (.t 0)) 10, .gt 12 (.mv (.t 1)) 10, .gt 13 (.len true (.t 12)) 10, .gt 14 (.sls (.t 11) .none (.some (.t 13))) 10, .gt 15 (.mv (.t 1)) 10, .gt 16 (.bin .eql (.t 14) (.t 15)) 10, .ex 17 (.pick (.t 10) (.t 16) .n), .mv 4 17]) .ret))
theorem c_internal_stringslite_HasPrefix_eq : compF Tryz.prog [] 288 = some (c_internal_stringslite_HasPrefix.ac, [(.t 4)], 18) := by kernel_rfl
theorem f_slHasPrefix (W0 : World) (s p : Str) : Fn Tryz.prog W0 288 [CS s, CS p] (.c (CB (p.isPrefixOf s))) [] := by
  refine fnX (c := c_internal_stringslite_HasPrefix) mixed c_internal_stringslite_HasPrefix_eq (by simp) rfl fun hg => ?_
  refine dr ?_
  refine cP (fun h1 => ?_) (fun h1 => ?_)
  · refine dr ?_
    repeat (refine sHi p.length rfl (by omega) ?_; first | refine dr ?_ | exact dz)
    refine congrArg CB ?_
    rw [Bool.eq_iff_iff, List.isPrefixOf_iff_prefix, List.prefix_iff_eq_take]
    simp [eqS_d]
    exact eq_comm
  · refine dr ?_
    refine bF ?_
    rw [Bool.eq_false_iff]; intro h
    have := (List.isPrefixOf_iff_prefix.1 h).length_le
    omega
def c_strings_HasPrefix : XC := (.s (.r [.ex 4 (.mv .n)]) (.s (.r [.mv 5 0, .mv 6 1, .ex 7 (.call 288 [(.t 5), (.t 6)]), .mv 4 7]) .ret))
theorem c_strings_HasPrefix_eq : compF Tryz.prog [] 266 = some (c_strings_HasPrefix.ac, [(.t 4)], 8) := by kernel_rfl
theorem f_HasPrefix (W0 : World) (s p : Str) : Fn Tryz.prog W0 266 [CS s, CS p] (.c (CB (p.isPrefixOf s))) [] := by
  refine fnX (c := c_strings_HasPrefix) mixed c_strings_HasPrefix_eq (by simp) rfl fun hg => ?_
  refine dEr ?_
  repeat (refine c0 (f_slHasPrefix W0 _ _) rfl ?_; first | refine dEr ?_ | exact dz)
def c_impl_PathUnder : XC := (.s (.r [.ex 4 (.mv .n)]) (.s (.s (.r [.mv 5 0, .ex 6 (.call 112 [(.t 5)]), .ex 7 (.un .not (.t 6))]) (.cnd (.t 7) (.s (.r [.ex 4 (.mv .n)]) .ret) .skip)) (.s (.s (.r [.mv 8 1, .ex 9 (.bin .eql (.t 8) (.s [47]))]) (.cnd (.t 9) (.s (.r [.ex 4 (.mv .y)]) .ret) .skip)) (.s (.r [.mv 10 1, .ex 11 (.call 112 [(.t 10)]), .mv 12 11, .gt 13 (.mv (.t 0)) 12, .gt 14 (.mv (.t 1)) 12, .gt 15 (.bin .add (.t 14) (.s [47])) 12, .gt 16 (.call 266 [(.t 13), (.t 15)]) 12, .ex 17 (.pick (.t 12) (.t 16) .n), .mv 4 17]) .ret))))
theorem c_impl_PathUnder_eq : compF Tryz.prog [] 216 = some (c_impl_PathUnder.ac, [(.t 4)], 18) := by kernel_rfl
def und2 (s d : Str) : Bool := pOk s && (d == [47] || (pOk d && (d ++ [47]).isPrefixOf s))
theorem und2_eq {s d : Str} (hs : pOk s = true) (hd : pOk d = true) : und2 s d = und s d := by
  unfold und2 und; rw [hs, hd]; simp
theorem f_impl_PathUnder (W0 : World) (hM : HM W0) (s d : Str) : Fn Tryz.prog W0 216 [CS s, CS d] (.c (CB (und2 s d))) [] := by
  refine fnX (c := c_impl_PathUnder) mixed c_impl_PathUnder_eq (by simp) rfl fun hg => ?_
  refine dEr ?_
  repeat (refine c0 (f_impl_PathOk W0 hM s) rfl ?_; first | refine dEr ?_ | exact dz)
  refine cP (fun h1 => ?_) (fun h1 => ?_)
  · refine dr ?_
    exact bF (by simp [und2, h1])
  refine dr ?_
  refine cP (fun h2 => ?_) (fun h2 => ?_)
  · refine dr ?_
    exact bT (by simp [und2, h1, h2])
  refine dEr ?_
  repeat (refine c0 (f_impl_PathOk W0 hM d) rfl ?_; first | refine dEr ?_ | exact dz)
  refine cP (fun h3 => ?_) (fun h3 => ?_)
  · have hl := (pOk_len h3).2.1
    refine dEr ?_
    repeat ((first | refine c0 (f_HasPrefix W0 _ _) rfl ?_ | refine oB (by simp; omega) ?_); first | refine dEr ?_ | exact dz)
    refine congrArg CB ?_
    rw [Bool.eq_iff_iff]; simp [und2, h1, h2, h3]
  · refine dr ?_
    exact bF (by simp [und2, h2, h3])
def c_impl_dataOk : XC := (.s (.r [.ex 2 (.mv .n)]) (.s (.s (.r [.mv 6 0, .ex 7 (.len true (.t 6)), .ex 8 (.bin .gtr (.t 7) (.i 6))]) (.cnd (.t 8) (.s (.r [.ex 2 (.mv .n)]) .ret) .skip)) (.s (.s (.r [.ex 3 (.mv (.i 0))]) (.blk 0 (.loop (.s (.s (.r [.mv 9 3, .mv 10 0, .ex 11 (.len true (.t 10)), .ex 12 (.bin .lss (.t 9) (.t 11))]) (.cnd (.t 12) .skip (.exit 0))) (.s (.blk 1 (.s (.r [.mv 15 0, .mv 16 3, .ex 17 (.idx (.t 15) (.t 16)), .ex 18 (.bin .geq (.t 17) (.u 97)), .mv 19 18, .gt 20 (.mv (.t 0)) 19, .gt 21 (.mv (.t 3)) 19, .gt 22 (.idx (.t 20) (.t 21)) 19, .gt 23 (.bin .leq (.t 22) (.u 122)) 19, .ex 24 (.pick (.t 19) (.t 23) .n), .mv 4 24]) (.s (.r [.mv 25 0, .mv 26 3, .ex 27 (.idx (.t 25) (.t 26)), .ex 28 (.bin .geq (.t 27) (.u 48)), .mv 29 28, .gt 30 (.mv (.t 0)) 29, .gt 31 (.mv (.t 3)) 29, .gt 32 (.idx (.t 30) (.t 31)) 29, .gt 33 (.bin .leq (.t 32) (.u 57)) 29, .ex 34 (.pick (.t 29) (.t 33) .n), .mv 5 34]) (.s (.r [.mv 35 4, .ex 36 (.un .not (.t 35)), .mv 37 36, .gt 38 (.mv (.t 5)) 37, .gt 39 (.un .not (.t 38)) 37, .ex 40 (.pick (.t 37) (.t 39) .n)]) (.cnd (.t 40) (.s (.r [.ex 2 (.mv .n)]) .ret) .skip))))) (.r [.mv 13 3, .ex 14 (.bin .add (.t 13) (.i 1)), .mv 3 14])))))) (.s (.r [.ex 2 (.mv .y)]) .ret))))
theorem c_impl_dataOk_eq : compF Tryz.prog [] 174 = some (c_impl_dataOk.ac, [(.t 2)], 41) := by kernel_rfl
theorem f_dataOk (W0 : World) (s : Str) : Fn Tryz.prog W0 174 [CS s] (.c (CB (dataOk s))) [] := by
  refine fnX (c := c_impl_dataOk) mixed c_impl_dataOk_eq (by simp) rfl fun hg => ?_
  refine dr ?_
  refine cP (fun h1 => ?_) (fun h1 => ?_)
  · refine dr ?_
    exact bF (by rw [dataOk]; simp; omega)
  refine dr ?_
  refine lp (σ := Nat) (fun k => [(0, .c (CS s)), (3, I k)]) (fun _ => []) (fun k => k ≤ s.length ∧ (s.take k).all alnum = true) (fun k => s.length - k) 0 ⟨by simp, by simp⟩ ?_ ?_
  · refine dr ?_
    trivial
  rintro k ⟨hk, ha⟩
  refine dr ?_
  refine cP (fun h2 => ?_) (fun h2 => ?_)
  · have hk' : k < s.length := by omega
    have no : alnum s[k] = false → CB false = CB (dataOk s) := fun h => bF (by rw [dataOk, all_no hk' h]; rfl)
    have nx : alnum s[k] = true → ∃ x', (x' ≤ s.length ∧ (s.take x').all alnum = true) ∧ x' = k + 1 := fun h => ⟨k + 1, ⟨by omega, take_all hk' ha h⟩, rfl⟩
    refine dr ?_
    refine cP (fun h3 => ?_) (fun h3 => ?_)
    · refine dr ?_
      refine cP (fun h4 => ?_) (fun h4 => ?_)
      · refine dr ?_
        refine cP (fun h5 => ?_) (fun h5 => ?_)
        · refine dr ?_
          refine cP (fun h6 => ?_) (fun h6 => ?_)
          · refine dr ?_
            exact no (by simp [alnum, lower]; omega)
          · omega
        · refine dr ?_
          refine ⟨k + 1, ⟨by omega, take_all hk' ha (by simp [alnum, lower]; omega)⟩, by omega, ?_⟩
          refine dr ?_
          trivial
      · omega
    · refine dr ?_
      refine cP (fun h4 => ?_) (fun h4 => ?_)
      · refine dr ?_
        refine cP (fun h6 => ?_) (fun h6 => ?_)
        · refine dr ?_
          exact no (by simp [alnum, lower]; omega)
        · refine dr ?_
          refine ⟨k + 1, ⟨by omega, take_all hk' ha (by simp [alnum, lower]; omega)⟩, by omega, ?_⟩
          refine dr ?_
          trivial
      · refine dr ?_
        exact no (by simp [alnum, lower]; omega)
  · have : k = s.length := by omega
    subst this
    rw [List.take_length] at ha
    refine dr ?_
    exact bT (by rw [dataOk, ha]; simp; omega)
end Go.Proofs.YthblflnfhdnpdaaGreatDoor

namespace Go.Proofs.YthblflnfhdnpdaaGreatDoor
set_option linter.unusedSimpArgs false
set_option linter.unusedVariables false
open Go Go.RowKit
theorem cmpNaN (x : ByteArray) (W : World) : Calls Tryz.prog 269 #[.string x] W fun e w' => e = .returned (.bool false) ∧ w' = W := by
  go_enter Tryz.func269, Tryz.ntmps269
  go_wp2
  go_ret
  exact ⟨rfl, rfl⟩
def cmpS (a b : Str) : Int := if ltS a b = true then -1 else if ltS b a = true then 1 else 0
theorem cmpCompare (x y : Str) (W : World) : Calls Tryz.prog 219 #[.string ⟨⟨x⟩⟩, .string ⟨⟨y⟩⟩] W fun e w' => e = .returned (.int .i64 (cmpS x y)) ∧ w' = W := by
  go_enter Tryz.func219, Tryz.ntmps219
  go_wp2_with (go_at_call 269; refine (cmpNaN _ _).mono ?_; rintro e w' ⟨rfl, rfl⟩)
  · have h : Op.bytesLess x y = true := by assumption
    go_ret
    refine ⟨?_, rfl⟩
    rw [cmpS, ltS_d, if_pos h]; rfl
  · have h : Op.bytesLess x y = false := by assumption
    have h2 : (!x == y) = true := by assumption
    go_ret
    refine ⟨?_, rfl⟩
    have h3 : ltS y x = true := by
      rcases ltS_tri x y with e | e | e
      · subst e; simp at h2
      · rw [ltS_d, h] at e; cases e
      · exact e
    rw [cmpS, ltS_d, if_neg (by simp [h]), if_pos h3]; rfl
  · have h : Op.bytesLess x y = false := by assumption
    have h2 : (!x == y) = false := by assumption
    go_ret
    refine ⟨?_, rfl⟩
    have e : x = y := by simpa using h2
    subst e
    rw [cmpS, ltS_irr]; rfl
theorem cmpS_lt (a b : Str) : decide (cmpS a b < 0) = ltS a b := by
  unfold cmpS
  cases h : ltS a b with
  | true => simp
  | false =>
    cases h2 : ltS b a with
    | true => simp
    | false => simp
def vEnt (x : Ent) : List Value := [.string ⟨⟨x.path⟩⟩, (.bool x.dir), .string ⟨⟨x.data⟩⟩]
theorem cls_sortEnts (x y : Ent) (W : World) : Calls Tryz.prog 233 #[.agg #[.string ⟨⟨x.path⟩⟩, (.bool x.dir), .string ⟨⟨x.data⟩⟩], .agg #[.string ⟨⟨y.path⟩⟩, (.bool y.dir), .string ⟨⟨y.data⟩⟩]] W fun e w' => e = .returned (.int .i64 (cmpS x.path y.path)) ∧ ∃ q os', w' = Sort.grow (W.drewN q) os' := by
  have hcon := fun W' => cmpCompare x.path y.path W'
  generalize cmpS x.path y.path = r at hcon ⊢
  go_enter Tryz.func233, Tryz.ntmps233
  go_wp2_with (go_at_call 219; refine (hcon _).mono ?_; rintro e w' ⟨rfl, rfl⟩)
  go_ret
  exact ⟨rfl, 0, _, by rw [Sort.alloc_eq_grow, Sort.alloc_eq_grow, Sort.grow_grow]; rfl⟩
def vMark (x : Mark) : List Value := [.string ⟨⟨x.path⟩⟩, (.int .i64 x.kind), .string ⟨⟨x.data⟩⟩]
theorem cls_sortMarks (x y : Mark) (W : World) : Calls Tryz.prog 218 #[.agg #[.string ⟨⟨x.path⟩⟩, (.int .i64 x.kind), .string ⟨⟨x.data⟩⟩], .agg #[.string ⟨⟨y.path⟩⟩, (.int .i64 y.kind), .string ⟨⟨y.data⟩⟩]] W fun e w' => e = .returned (.int .i64 (cmpS x.path y.path)) ∧ ∃ q os', w' = Sort.grow (W.drewN q) os' := by
  have hcon := fun W' => cmpCompare x.path y.path W'
  generalize cmpS x.path y.path = r at hcon ⊢
  go_enter Tryz.func218, Tryz.ntmps218
  go_wp2_with (go_at_call 219; refine (hcon _).mono ?_; rintro e w' ⟨rfl, rfl⟩)
  go_ret
  exact ⟨rfl, 0, _, by rw [Sort.alloc_eq_grow, Sort.alloc_eq_grow, Sort.grow_grow]; rfl⟩
end Go.Proofs.YthblflnfhdnpdaaGreatDoor

namespace Go.Proofs.YthblflnfhdnpdaaGreatDoor
set_option linter.unusedSimpArgs false
set_option linter.unusedVariables false
open Go Go.RowKit
theorem flatb_get {α : Type} [Inhabited α] {enc : α → List Value} {k : Nat} (hk : ∀ x, (enc x).length = k) : ∀ (l : List α) (t : Nat), t < l.length * k → (l.flatMap enc)[t]! = (enc l[t / k]!)[t % k]!
  | [], t, h => by simp at h
  | a :: r, t, h => by
    have k0 : 0 < k := by rcases Nat.eq_zero_or_pos k with h0 | h0; · subst h0; simp at h
                          · exact h0
    rw [List.flatMap_cons]
    by_cases ht : t < k
    · rw [Nat.div_eq_of_lt ht, Nat.mod_eq_of_lt ht]
      have e : (enc a ++ r.flatMap enc)[t]? = (enc a)[t]? := List.getElem?_append_left (by rw [hk]; exact ht)
      simp only [List.getElem!_eq_getElem?_getD, e]
      simp
    · have h2 : t - k < r.length * k := by rw [List.length_cons, Nat.add_mul, Nat.one_mul] at h; omega
      have ih := flatb_get hk r (t - k) h2
      have e : (enc a ++ r.flatMap enc)[t]? = (r.flatMap enc)[t - k]? := by rw [List.getElem?_append_right (by rw [hk]; omega), hk]
      have e1 : t / k = (t - k) / k + 1 := by
        conv => lhs; rw [show t = t - k + k by omega]
        exact Nat.add_div_right _ k0
      have e2 : t % k = (t - k) % k := by
        conv => lhs; rw [show t = t - k + k by omega]
        exact Nat.add_mod_right _ _
      rw [e1, e2]
      simp only [List.getElem!_eq_getElem?_getD] at ih ⊢
      rw [e, ih]; simp
theorem flatb_len {α : Type} {enc : α → List Value} {k : Nat} (hk : ∀ x, (enc x).length = k) : ∀ (l : List α), (l.flatMap enc).length = l.length * k
  | [] => by simp
  | a :: r => by rw [List.flatMap_cons, List.length_append, flatb_len hk r, hk, List.length_cons, Nat.add_mul]; omega
theorem flatK_list {α : Type} [Inhabited α] {enc : α → List Value} {k : Nat} (hk : ∀ x, (enc x).length = k) (l : List α) : Sort.flatK enc k l.toArray = (l.flatMap enc).toArray := by
  refine Sort.ext_get! (by simp [flatb_len hk]) fun t ht => ?_
  have ht' : t < l.length * k := by simpa using ht
  rw [Sort.get_flatK _ _ _ _ (by simpa using ht')]
  have := flatb_get hk l t ht'
  simp only [List.getElem!_eq_getElem?_getD] at this
  simp [this]
theorem put_heap {w : World} {b : Nat} {F F' rest : List Value} {e : TypeId} {n : Nat} {os : Array Obj} (hb : w.heap[b]? = some (.cells (F ++ rest).toArray e (0, 0))) (hl : F'.length = F.length) :
    (Sort.grow (Sort.putRow id (Sort.ahead w n) b 0 F'.toArray) os).heap[b]? = some (.cells (F' ++ rest).toArray e (0, 0)) := by
  have hlt : b < w.heap.size := (Array.getElem?_eq_some_iff.1 hb).1
  unfold Sort.grow
  simp only
  rw [Array.getElem?_append_left (by simpa using hlt)]
  unfold Sort.putRow Sort.mapBlock
  simp only [Sort.heap_ahead, Array.getElem?_modify, if_true, hb, Option.map_some, Sort.onCells]
  congr 2
  unfold Sort.putCells
  apply Array.ext
  · simp [hl]
  · intro i h1 h2
    simp only [Array.getElem_mapIdx, List.getElem_toArray]
    simp at h1
    by_cases hi : i < F'.length
    · rw [if_pos (by simp; omega), List.getElem_append_left hi]
      simp [hi]
    · rw [if_neg (by simp; omega), List.getElem_append_right (by omega), List.getElem_append_right (by omega)]
      simp only [hl]
theorem put_other {w : World} {b k : Nat} {F' : List Value} {n : Nat} {os : Array Obj} (hk : k < w.heap.size) (hne : b ≠ k) :
    (Sort.grow (Sort.putRow id (Sort.ahead w n) b 0 F'.toArray) os).heap[k]? = w.heap[k]? := by
  unfold Sort.grow
  simp only
  rw [Array.getElem?_append_left (by simpa using hk)]
  unfold Sort.putRow Sort.mapBlock
  simp [Array.getElem?_modify, hne]
section
variable {κ : Kap} {m : Mem} {w : World} {α : Type} {enc : α → List Value} {f : α → CV}
theorem rep1_sc {v u : Value} (h : Rep1 κ m w (.c (.sc v)) u) : u = v ∧ wfv v := by
  have h : RepC w (Live κ m) (.sc v) u := h
  cases h; exact ⟨rfl, by assumption⟩
theorem rep1_scs : ∀ {vs us : List Value}, All2 (Rep1 κ m w) (vs.map fun v => .c (.sc v)) us → us = vs ∧ ∀ v ∈ vs, wfv v
  | [], [], _ => ⟨rfl, by simp⟩
  | v :: vs, u :: us, h => by
    obtain ⟨h1, h2⟩ := rep1_sc h.1
    obtain ⟨h3, h4⟩ := rep1_scs h.2
    exact ⟨by rw [h1, h3], by simpa using ⟨h2, h4⟩⟩
  | [], _ :: _, h => h.elim
  | _ :: _, [], h => h.elim
theorem scs_rep1 : ∀ {vs : List Value}, (∀ v ∈ vs, wfv v) → All2 (Rep1 κ m w) (vs.map fun v => .c (.sc v)) vs
  | [], _ => trivial
  | v :: vs, h => ⟨show RepC w (Live κ m) (.sc v) v from .sc (h v (by simp)), scs_rep1 fun u hu => h u (by simp [hu])⟩
theorem cells_flat (hf : ∀ a, f a = .agg ((enc a).map .sc)) : ∀ (X : List α), ((X.map f).map PV.c).flatMap PV.cells = (X.flatMap enc).map fun v => .c (.sc v)
  | [] => rfl
  | a :: X => by
    rw [List.map_cons, List.map_cons, List.flatMap_cons, List.flatMap_cons, List.map_append, cells_flat hf X, hf]
    simp [PV.cells, CV.cells]
end
theorem sort_fun {α : Type} [Inhabited α] {P : Program} {W0 : World} {F : FuncId} {fv : Value} {T : TypeId} {id k : Nat} {enc : α → List Value} {f : α → CV} {key : α → Str} {lt : α → α → Bool} (hf : ∀ a, f a = .agg ((enc a).map .sc)) (hk : ∀ x, (enc x).length = k) (h0 : 0 < k) (hlt : ∀ a b, lt a b = ltS (key a) (key b))
    (hnone : ∀ p cap w, Calls P F #[.slice p 0 cap, fv] w fun e w' => e = .returned (.tuple #[]) ∧ w' = w)
    (hsome : ∀ b cap (d : Array α) w, Sort.HoldsK enc k w b 0 d → b < w.heap.size → d.size < 4611686018427387904 → Calls P F #[.slice (some ⟨b, 0, none⟩) d.size cap, fv] w fun e w' =>
      e = .returned (.tuple #[]) ∧ ∃ d' n os, Sort.PermIn 0 d.size d d' ∧ Sort.SortedIn lt 0 d.size d' ∧ w' = sortWorldK enc k w b 0 n d' os)
    (X : List α) (hX : X.length ≤ 1000000) :
    FunW P W0 F [.own id X.length, .c (.sc fv)] [(id, .row (X.map f) k T)] (Sorts key X) (fun _ => .c (.tup [])) (fun S => [(id, .row (S.map f) k T)]) := by
  intro κ w vs hB hm hr
  obtain ⟨v1, v2, hvs⟩ : ∃ v1 v2, vs.toList = [v1, v2] := by
    have := All2.length hr
    match h : vs.toList with
    | [a, b] => exact ⟨a, b, rfl⟩
    | [] | [_] | _ :: _ :: _ :: _ => rw [h] at this; simp at this
  rw [hvs] at hr
  obtain ⟨r1, r2, _⟩ := hr
  have e2 : v2 = fv := by
    have r2 : RepC w (Live κ (er [(id, .row (X.map f) k T)])) (.sc fv) v2 := r2
    cases r2; rfl
  subst e2
  obtain ⟨⟨a, cap0, rfl⟩, hnm, L, sz, e, g1, g2, g3⟩ := r1
  have hl : lk (er [(id, XB.row (X.map f) k T)]) id = some (.row ((X.map f).map .c) k T) := by simp [er, lk, XB.er]
  rw [hl] at g1
  cases g1
  have gO := g3 (by simp)
  have hv : vs = #[.slice a X.length cap0, v2] := by rw [← hvs]
  subst hv
  have ret : ∀ {κ' : Kap} {m' : Mem} {w' : World}, Rep κ' m' w' (.c (.tup [])) (.tuple #[]) := fun {κ' m' w'} => show RepC w' _ (.tup []) (.tuple [].toArray) from .tup rfl (by simp)
  by_cases hXn : X = []
  · subst hXn
    refine (hnone a cap0 w).mono ?_
    rintro e w' ⟨rfl, rfl⟩
    exact ⟨_, _, _, κ, rfl, ⟨_, rfl, [], ⟨List.Perm.nil, List.Pairwise.nil⟩, rfl, rfl⟩, hm, ret⟩
  obtain ⟨hsz, _, hblk⟩ := hm.mem.blk id _ hl
  rcases hblk with ⟨_, hL⟩ | ⟨b, us, rest, hkb, hh, hall⟩
  · rcases hL with hL | hL
    · simp at hL; exact absurd hL hXn
    · simp at hL; omega
  unfold OwnV at gO
  rw [hkb] at gO
  obtain ⟨cap, arr, e', hsl, hle, hcap, hb2, hsz2⟩ := gO
  injection hsl with q1 q2 q3
  subst q1 q3
  rw [cells_flat hf] at hall
  obtain ⟨rfl, hwf⟩ := rep1_scs hall
  have hblt : b < w.heap.size := (Array.getElem?_eq_some_iff.1 hh).1
  have hfl := flatb_len hk X
  have hH : Sort.HoldsK enc k w b 0 X.toArray := by
    unfold Sort.HoldsK
    rw [flatK_list hk]
    intro j hj
    have hj' : j < (X.flatMap enc).length := by simpa using hj
    refine ⟨?_, ?_⟩
    · unfold World.cell?
      simp only [hh, Nat.zero_add]
      rw [List.getElem?_toArray, List.getElem?_append_left hj', List.getElem?_eq_getElem hj']
      have : (X.flatMap enc).toArray[j]! = (X.flatMap enc)[j] := by rw [getElem!_pos _ j (by simpa using hj')]; rfl
      exact congrArg some this.symm
    · unfold World.frozen?
      simp only [hh]; simp
  have hs := hsome b cap0 X.toArray w hH hblt (by simp; omega)
  simp only [List.size_toArray] at hs
  refine hs.mono ?_
  rintro e w' ⟨rfl, d', n, os, hp, hsd, rfl⟩
  have hds : d'.size = X.length := by simpa using hp.1
  have hperm : d'.toList.Perm X := by
    have := hp.2.2
    rw [Array.extract_eq_self_of_le (by omega)] at this
    simpa using this
  have hsorts : Sorts key X d'.toList := by
    refine ⟨hperm, ?_⟩
    rw [List.pairwise_iff_getElem]
    intro i j hi hj hij
    rw [← hlt]
    have := hsd i j (Nat.zero_le _) hij (by simpa [hds] using hj)
    simpa [getElem!_pos, show i < d'.size by simpa using hi, show j < d'.size by simpa using hj] using this
  have hwf' : ∀ v ∈ d'.toList.flatMap enc, wfv v := by
    intro v hv
    obtain ⟨x, hx, hv⟩ := List.mem_flatMap.1 hv
    exact hwf v (List.mem_flatMap.2 ⟨x, hperm.mem_iff.1 hx, hv⟩)
  have hW : sortWorldK enc k w b 0 n d' os = Sort.grow (Sort.putRow _root_.id (Sort.ahead w n) b 0 (d'.toList.flatMap enc).toArray) os := by
    unfold sortWorldK Sort.putRowK
    rw [← flatK_list hk d'.toList]
  rw [hW]
  have hl2 : (d'.toList.flatMap enc).length = (X.flatMap enc).length := by rw [flatb_len hk, flatb_len hk]; simp [hds]
  have hheap := put_heap (n := n) (os := os) hh hl2
  have e1 : upd (er [(id, XB.row (X.map f) k T)]) id (.row ((d'.toList.map f).map .c) k T) = er [(id, XB.row (d'.toList.map f) k T)] := by simp [er, XB.er, upd]
  have hturn := hm.turn (κ' := κ) (id := id) (x := .row ((d'.toList.map f).map .c) k T) (y := .row ((X.map f).map .c) k T) (w' := Sort.grow (Sort.putRow _root_.id (Sort.ahead w n) b 0 (d'.toList.flatMap enc).toArray) os)
    hB.size hl rfl rfl rfl (by simp [Sort.grow, Sort.putRow, Sort.mapBlock]) rfl (fun _ _ => rfl) (fun j hj hne => put_other hj (fun e => hne (by rw [hkb, e]))) (.inl rfl) (fun cs h => by cases h)
    (fun L sz e h => by
      cases h
      refine ⟨_, rfl, by simp [hds], fun _ => ⟨rfl, fun b' arr e' hb' ha => ?_⟩⟩
      rw [hkb] at hb'; cases hb'
      rw [hh] at ha; cases ha
      exact ⟨_, hheap, by simp [hl2]⟩)
    (fun _ => by
      refine ⟨fun x hx => ?_, h0, .inr ⟨b, _, rest, hkb, hheap, ?_⟩⟩
      · obtain ⟨y, hy, rfl⟩ := List.mem_map.1 hx
        obtain ⟨z, _, rfl⟩ := List.mem_map.1 hy
        rw [hf]; simp [PV.cells, CV.cells, hk]
      · rw [cells_flat hf]; exact scs_rep1 hwf')
  rw [e1] at hturn
  exact ⟨_, _, _, κ, rfl, ⟨_, rfl, d'.toList, hsorts, rfl, rfl⟩, hturn.1, ret⟩
instance : Inhabited Ent := ⟨⟨[], false, []⟩⟩
instance : Inhabited Mark := ⟨⟨[], 0, []⟩⟩
theorem ltS_not {x y z : Str} (h1 : ltS x y = false) (h2 : ltS y z = false) : ltS x z = false := by
  rcases ltS_f h1 with rfl | h3
  · exact h2
  · rcases ltS_f h2 with rfl | h4
    · exact ltS_asym h3
    · exact ltS_asym (ltS_trans h4 h3)
theorem swoS {α : Type} [Inhabited α] (key : α → Str) : Sort.SWO (ltOf fun x y : α => cmpS (key x) (key y)) := by
  have e : ∀ x y : α, ltOf (fun x y : α => cmpS (key x) (key y)) x y = ltS (key x) (key y) := fun x y => cmpS_lt _ _
  refine ⟨fun x => ?_, fun x y z h1 h2 => ?_, fun x y z h1 h2 => ?_⟩
  · rw [e]; exact ltS_irr _
  · rw [e] at *; exact ltS_trans h1 h2
  · rw [e] at *; exact ltS_not h1 h2
theorem sorts_ex {α : Type} {key : α → Str} {X : List α} : ∃ S, Sorts key X S := by
  refine ⟨X.mergeSort (fun a b => !ltS (key b) (key a)), List.mergeSort_perm _ _, ?_⟩
  have h := List.pairwise_mergeSort (le := fun a b : α => !ltS (key b) (key a)) (fun a b c h1 h2 => by
    simp only [Bool.not_eq_true'] at *; exact ltS_not h2 h1) (fun a b => by
    rcases ltS_tri (key a) (key b) with h | h | h
    · rw [h, ltS_irr]; rfl
    · rw [ltS_asym h]; rfl
    · rw [ltS_asym h]; simp) X
  exact h.imp fun h => by simpa using h
def c_impl_sortEnts : XC := (.r [.mv 2 0, .ex 3 (.opn 232 [(.t 2), (.k (.c (.sc (.func (.func 233) #[] #[]))))])])
theorem c_impl_sortEnts_eq : compF Tryz.prog [232] 155 = some (c_impl_sortEnts.ac, [], 4) := by kernel_rfl
theorem f_SortEnt (W0 : World) (id : Nat) (X : List Ent) (hX : X.length ≤ 1000000) : FunW Tryz.prog W0 232 [.own id X.length, .c (.sc (.func (.func 233) ⟨[]⟩ ⟨[]⟩))] [(id, .row (X.map eEnt) 3 59)] (Sorts Ent.path X) (fun _ => .c (.tup [])) (fun S => [(id, .row (S.map eEnt) 3 59)]) := by
  have eg : ∀ args w, (callFunc 233 args).run Tryz.prog w = .ok (.enter 233 args) w := enters_of Tryz.func233 (by kernel_rfl) rfl
  refine sort_fun (enc := vEnt) (lt := ltOf fun x y : Ent => cmpS x.path y.path) (fun _ => rfl) (fun _ => rfl) (by decide) (fun x y => cmpS_lt _ _) (fun p cap w => ?_) (fun b cap d w hH hb hd => ?_) X hX
  · exact AnyF.slices_SortFunc_none { Tryz.sortE with } p cap _ w
  · exact AnyQ.slices_SortFunc Tryz.sortE 3 Tryz.isAgg59 Tryz.sizeOf59 vEnt (fun _ => rfl) (fun x v hv => by simp [vEnt] at hv; rcases hv with rfl | rfl | rfl <;> rfl) (fun x y => cmpS x.path y.path) (swoS Ent.path) 233 #[] b 0 cap d w eg (fun _ _ _ _ x y => cls_sortEnts x y _) hH hb hd
theorem f_sortEnts_1 (W0 : World) (X : List Ent) (hX : X.length ≤ 1000000) : FunW Tryz.prog W0 155 [.own 1 X.length] [(1, .row (X.map eEnt) 3 59)] (Sorts Ent.path X) (fun _ => .tup []) (fun S => [(1, .row (S.map eEnt) 3 59)]) := by
  refine funW (c := c_impl_sortEnts) mixed c_impl_sortEnts_eq (by simp) rfl rfl fun hg => ?_
  refine dr ?_
  refine oW (f_SortEnt W0 1 X hX) rfl ⟨rfl, trivial⟩ rfl rfl sorts_ex fun S hS => ⟨rfl, ?_⟩
  refine dr ?_
  refine ⟨none, _, _, ?_, S, hS, rfl, rfl⟩
  refine dr ?_
  trivial
def c_impl_sortMarks : XC := (.r [.mv 2 0, .ex 3 (.opn 217 [(.t 2), (.k (.c (.sc (.func (.func 218) #[] #[]))))])])
theorem c_impl_sortMarks_eq : compF Tryz.prog [217] 148 = some (c_impl_sortMarks.ac, [], 4) := by kernel_rfl
theorem f_SortMark (W0 : World) (id : Nat) (X : List Mark) (hX : X.length ≤ 1000000) : FunW Tryz.prog W0 217 [.own id X.length, .c (.sc (.func (.func 218) ⟨[]⟩ ⟨[]⟩))] [(id, .row (X.map eMark) 3 49)] (Sorts Mark.path X) (fun _ => .c (.tup [])) (fun S => [(id, .row (S.map eMark) 3 49)]) := by
  have eg : ∀ args w, (callFunc 218 args).run Tryz.prog w = .ok (.enter 218 args) w := enters_of Tryz.func218 (by kernel_rfl) rfl
  refine sort_fun (enc := vMark) (lt := ltOf fun x y : Mark => cmpS x.path y.path) (fun _ => rfl) (fun _ => rfl) (by decide) (fun x y => cmpS_lt _ _) (fun p cap w => ?_) (fun b cap d w hH hb hd => ?_) X hX
  · exact AnyF.slices_SortFunc_none { Tryz.sortM with } p cap _ w
  · exact AnyQ.slices_SortFunc Tryz.sortM 3 Tryz.isAgg49 Tryz.sizeOf49 vMark (fun _ => rfl) (fun x v hv => by simp [vMark] at hv; rcases hv with rfl | rfl | rfl <;> rfl) (fun x y => cmpS x.path y.path) (swoS Mark.path) 218 #[] b 0 cap d w eg (fun _ _ _ _ x y => cls_sortMarks x y _) hH hb hd
theorem f_sortMarks_1 (W0 : World) (X : List Mark) (hX : X.length ≤ 1000000) : FunW Tryz.prog W0 148 [.own 1 X.length] [(1, .row (X.map eMark) 3 49)] (Sorts Mark.path X) (fun _ => .tup []) (fun S => [(1, .row (S.map eMark) 3 49)]) := by
  refine funW (c := c_impl_sortMarks) mixed c_impl_sortMarks_eq (by simp) rfl rfl fun hg => ?_
  refine dr ?_
  refine oW (f_SortMark W0 1 X hX) rfl ⟨rfl, trivial⟩ rfl rfl sorts_ex fun S hS => ⟨rfl, ?_⟩
  refine dr ?_
  refine ⟨none, _, _, ?_, S, hS, rfl, rfl⟩
  refine dr ?_
  trivial
end Go.Proofs.YthblflnfhdnpdaaGreatDoor

/- The texts Pb1, Pb2, Pb3, Pb8, Pb9, Pb4, Bm2, Pb5, Pb6, Pb7, Db1, Pc1, Pd1, Qb2, Db2, Db3, Dc1, Pd2, Pd3, Qb3, Qb4, Pd4, Pd5, Pd6, Pd7, joined; no condition. -/
import Derived.Test.YthblflnfhdnpdaaGreatDoorWcC

namespace Go.Proofs.YthblflnfhdnpdaaGreatDoor
set_option linter.unusedSimpArgs false
set_option linter.unusedVariables false
open Go Go.RowKit
def c_spec_l10Cut : XC := (.s (.r [.ex 4 (.asn (.k .nil) 1 9)]) (.s (.r [.ex 8 .bsl0, .ex 5 (.asn (.t 8) 1 9)]) (.s (.r [.ex 6 (.mv (.i 0))]) (.s (.s (.r [.ex 7 (.mv (.i 0))]) (.blk 0 (.loop (.s (.s (.r [.mv 9 7, .mv 10 0, .ex 11 (.len true (.t 10)), .ex 12 (.bin .leq (.t 9) (.t 11))]) (.cnd (.t 12) .skip (.exit 0))) (.s (.blk 1 (.s (.r [.mv 15 7, .mv 16 0, .ex 17 (.len true (.t 16)), .ex 18 (.bin .eql (.t 15) (.t 17)), .mv 19 18, .gf 20 (.mv (.t 0)) 19, .gf 21 (.mv (.t 7)) 19, .gf 22 (.idx (.t 20) (.t 21)) 19, .gf 23 (.mv (.t 1)) 19, .gf 24 (.bin .eql (.t 22) (.t 23)) 19, .ex 25 (.pick (.t 19) .y (.t 24))]) (.cnd (.t 25) (.s (.r [.mv 26 5, .mv 27 0, .mv 28 6, .mv 29 7, .ex 30 (.sls (.t 27) (.some (.t 28)) (.some (.t 29))), .ex 31 (.bsl 1 9 [(.t 30)]), .ex 32 (.app false 1 16 9 (.t 26) (.t 31)), .ex 5 (.asn (.t 32) 1 9)]) (.r [.mv 33 7, .ex 34 (.bin .add (.t 33) (.i 1)), .mv 6 34])) .skip))) (.r [.mv 13 7, .ex 14 (.bin .add (.t 13) (.i 1)), .mv 7 14])))))) (.s (.r [.mv 35 5, .ex 4 (.asn (.t 35) 1 9)]) .ret)))))
theorem c_spec_l10Cut_eq : compF Tryz.prog [] 279 = some (c_spec_l10Cut.ac, [(.t 4)], 36) := by kernel_rfl
theorem f_l10Cut (W0 : World) (s : Str) (c : UInt8) (hs : s.length ≤ 1000000) : Fn Tryz.prog W0 279 [CS s, CU c.toNat] (.c (eStrs (cut c s))) [] := by
  refine fnX (c := c_spec_l10Cut) mixed c_spec_l10Cut_eq (by simp) rfl fun hg => ?_
  refine dr ?_
  refine lp3 (fun (out : List Str) (fr k : Nat) => [(0, .c (CS s)), (1, .c (CU c.toNat)), (5, .own 80 out.length), (6, I fr), (7, I k)]) (fun out _ _ => [(80, .row (out.map CS) 1 9)])
    (fun out fr k => fr ≤ k ∧ k ≤ s.length + 1 ∧ (k ≤ s.length → c ∉ (s.take k).drop fr ∧ out ++ cut c (s.drop fr) = cut c s) ∧ (k = s.length + 1 → out = cut c s) ∧ out.length ≤ k) (fun _ _ k => s.length + 1 - k) [] 0 0 ⟨by simp, by simp, by simp, by simp, by simp⟩ ?_ ?_
  · refine dr ?_
    trivial
  rintro out fr k ⟨h1, h2, h3, h4, h5⟩
  refine dr ?_
  refine cP (fun h6 => ?_) (fun h6 => ?_)
  · obtain ⟨h7, h8⟩ := h3 (by omega)
    refine dr ?_
    refine cP (fun h9 => ?_) (fun h9 => ?_)
    · have hk : k = s.length := by omega
      refine dr ?_
      repeat (refine sBo fr k rfl rfl (by omega) (by omega) ?_; first | refine dr ?_ | exact dz)
      refine ⟨out ++ [(s.take k).drop fr], k + 1, k + 1, ⟨by omega, by omega, by omega, fun _ => ?_, by simp; omega⟩, by omega, ?_⟩
      · rw [← h8, cut_none (s := s.drop fr)]
        · rw [hk, List.take_length]
        · rw [hk, List.take_length] at h7; exact h7
      · refine dr ?_
        repeat (refine oB (by simp) ?_; first | refine dr ?_ | exact dz)
        trivial
    · have hk : k < s.length := by omega
      refine dr ?_
      refine cP (fun h10 => ?_) (fun h10 => ?_)
      · have e : s[k] = c := by
          have : s[k].toNat = c.toNat := by omega
          exact UInt8.toNat_inj.1 this
        refine dr ?_
        repeat (refine sBo fr k rfl rfl (by omega) (by omega) ?_; first | refine dr ?_ | exact dz)
        refine ⟨out ++ [(s.take k).drop fr], k + 1, k + 1, ⟨by omega, by omega, fun h => ⟨?_, ?_⟩, fun h => by omega, by simp; omega⟩, by omega, ?_⟩
        · rw [List.drop_of_length_le (by simp; omega)]; simp
        · have e2 : s.drop fr = (s.take k).drop fr ++ c :: s.drop (k + 1) := by
            rw [← e, ← List.drop_eq_getElem_cons hk]
            have : s.drop fr = (s.take k ++ s.drop k).drop fr := by rw [List.take_append_drop]
            rw [this, List.drop_append_of_le_length (by simp; omega)]
          rw [e2, cut_app _ h7] at h8
          rw [← h8]; simp
        · refine dr ?_
          repeat (refine oB (by simp) ?_; first | refine dr ?_ | exact dz)
          trivial
      · have e : s[k] ≠ c := by
          intro e; rw [e] at h10; exact h10 rfl
        refine dr ?_
        refine ⟨out, fr, k + 1, ⟨by omega, by omega, fun h => ⟨?_, h8⟩, fun h => ?_, by omega⟩, by omega, ?_⟩
        · rw [List.take_succ_eq_append_getElem hk, List.drop_append_of_le_length (by simp; omega)]
          simp only [List.mem_append, not_or, List.mem_singleton]
          exact ⟨h7, fun h => e h.symm⟩
        · omega
        · refine dr ?_
          trivial
  · have hk : k = s.length + 1 := by omega
    refine dr ?_
    repeat (refine oB (by simp) ?_; first | refine dr ?_ | exact dz)
    rw [h4 hk]; rfl
def c_spec_l1Names : XC := (.s (.r [.ex 2 (.asn (.k .nil) 1 9)]) (.s (.s (.r [.mv 3 0, .ex 4 (.len true (.t 3)), .ex 5 (.bin .lss (.t 4) (.i 2)), .mv 6 5, .gf 7 (.mv (.t 0)) 6, .gf 8 (.idx (.t 7) (.i 0)) 6, .gf 9 (.bin .neq (.t 8) (.u 47)) 6, .ex 10 (.pick (.t 6) .y (.t 9))]) (.cnd (.t 10) (.s (.r [.ex 11 .bsl0, .ex 2 (.asn (.t 11) 1 9)]) .ret) .skip)) (.s (.r [.mv 12 0, .ex 13 (.sls (.t 12) (.some (.i 1)) .none), .ex 14 (.call 279 [(.t 13), (.u 47)]), .ex 2 (.asn (.t 14) 1 9)]) .ret)))
theorem c_spec_l1Names_eq : compF Tryz.prog [] 246 = some (c_spec_l1Names.ac, [(.t 2)], 15) := by kernel_rfl
theorem f_l1Names (W0 : World) (s : Str) (hs : s.length ≤ 1000000) : Fn Tryz.prog W0 246 [CS s] (.c (eStrs (names s))) [] := by
  refine fnX (c := c_spec_l1Names) mixed c_spec_l1Names_eq (by simp) rfl fun hg => ?_
  refine dr ?_
  refine cP (fun h1 => ?_) (fun h1 => ?_)
  · refine dr ?_
    repeat (refine oB (by simp) ?_; first | refine dr ?_ | exact dz)
    rw [names, if_pos (.inl (by omega))]; rfl
  · have hl : 2 ≤ s.length := by omega
    refine dr ?_
    refine cP (fun h2 => ?_) (fun h2 => ?_)
    · refine dr ?_
      repeat (refine oB (by simp) ?_; first | refine dr ?_ | exact dz)
      have hc : s.head? ≠ some 47 := by
        cases s with
        | nil => simp at hl
        | cons b t =>
          show some b ≠ some 47
          intro e; cases e; exact h2 rfl
      have e : names s = [] := by rw [names, if_pos (.inr hc)]
      exact congrArg eStrs e.symm
    · have e : s.head? = some 47 := by
        cases s with
        | nil => simp at hl
        | cons b t =>
          have : b.toNat = 47 := by simp at h2; omega
          simp; exact UInt8.toNat_inj.1 (by simpa using this)
      refine dr ?_
      repeat ((first | refine sLo 1 rfl (by omega) ?_ | refine c0 (f_l10Cut W0 _ 47 (by simp; omega)) rfl ?_); first | refine dr ?_ | exact dz)
      intro hg1
      refine dr ?_
      repeat (refine oB (by simp) ?_; first | refine dr ?_ | exact dz)
      rw [names, if_neg (by simp [e]; omega), ← List.drop_one]
def c_spec_l1Name : XC := (.s (.r [.ex 2 (.mv .n)]) (.s (.s (.r [.ex 3 (.mv (.i 0))]) (.blk 0 (.loop (.s (.s (.r [.mv 4 3, .mv 5 0, .ex 6 (.len true (.t 5)), .ex 7 (.bin .lss (.t 4) (.t 6))]) (.cnd (.t 7) .skip (.exit 0))) (.s (.blk 1 (.s (.r [.mv 10 0, .mv 11 3, .ex 12 (.idx (.t 10) (.t 11)), .ex 13 (.bin .lss (.t 12) (.u 97)), .mv 14 13, .gf 15 (.mv (.t 0)) 14, .gf 16 (.mv (.t 3)) 14, .gf 17 (.idx (.t 15) (.t 16)) 14, .gf 18 (.bin .gtr (.t 17) (.u 122)) 14, .ex 19 (.pick (.t 14) .y (.t 18))]) (.cnd (.t 19) (.s (.r [.ex 2 (.mv .n)]) .ret) .skip))) (.r [.mv 8 3, .ex 9 (.bin .add (.t 8) (.i 1)), .mv 3 9])))))) (.s (.r [.mv 20 0, .ex 21 (.len true (.t 20)), .ex 22 (.bin .geq (.t 21) (.i 1)), .mv 23 22, .gt 24 (.mv (.t 0)) 23, .gt 25 (.len true (.t 24)) 23, .gt 26 (.bin .leq (.t 25) (.i 3)) 23, .ex 27 (.pick (.t 23) (.t 26) .n), .mv 2 27]) .ret)))
theorem c_spec_l1Name_eq : compF Tryz.prog [] 247 = some (c_spec_l1Name.ac, [(.t 2)], 28) := by kernel_rfl
theorem f_l1Name (W0 : World) (s : Str) : Fn Tryz.prog W0 247 [CS s] (.c (CB (nameOk s))) [] := by
  refine fnX (c := c_spec_l1Name) mixed c_spec_l1Name_eq (by simp) rfl fun hg => ?_
  have g1 := goodS (hg _ (by simp : CS s ∈ _))
  refine dr ?_
  refine lp (σ := Nat) (fun k => [(0, .c (CS s)), (3, I k)]) (fun _ => []) (fun k => k ≤ s.length ∧ (s.take k).all lower = true) (fun k => s.length - k) 0 ⟨by simp, by simp⟩ ?_ ?_
  · refine dr ?_
    trivial
  rintro k ⟨hk, ha⟩
  refine dr ?_
  refine cP (fun h1 => ?_) (fun h1 => ?_)
  · have hk' : k < s.length := by omega
    have no : lower s[k] = false → CB false = CB (nameOk s) := fun h => bF (by rw [nameOk, all_no hk' h]; rfl)
    refine dr ?_
    refine cP (fun h2 => ?_) (fun h2 => ?_)
    · refine dr ?_
      exact no (by simp [lower]; omega)
    · refine dr ?_
      refine cP (fun h3 => ?_) (fun h3 => ?_)
      · refine dr ?_
        exact no (by simp [lower]; omega)
      · refine dr ?_
        refine ⟨k + 1, ⟨by omega, take_all hk' ha (by simp [lower]; omega)⟩, by omega, ?_⟩
        refine dr ?_
        trivial
  · have : k = s.length := by omega
    subst this
    rw [List.take_length] at ha
    refine dr ?_
    refine cP (fun h2 => ?_) (fun h2 => ?_)
    · refine dr ?_
      refine congrArg CB ?_
      rw [nameOk, ha, leI_d, Bool.eq_iff_iff]; simp; omega
    · refine dr ?_
      exact bF (by rw [nameOk, ha]; simp; omega)
def c_spec_PathOk : XC := (.s (.r [.ex 2 (.mv .n)]) (.s (.s (.r [.mv 5 0, .ex 6 (.len true (.t 5)), .ex 7 (.bin .gtr (.t 6) (.i 12))]) (.cnd (.t 7) (.s (.r [.ex 2 (.mv .n)]) .ret) .skip)) (.s (.r [.mv 8 0, .ex 9 (.call 246 [(.t 8)]), .ex 3 (.asn (.t 9) 1 9)]) (.s (.s (.r [.ex 4 (.mv (.i 0))]) (.blk 0 (.loop (.s (.s (.r [.mv 10 4, .mv 11 3, .ex 12 (.len false (.t 11)), .ex 13 (.bin .lss (.t 10) (.t 12))]) (.cnd (.t 13) .skip (.exit 0))) (.s (.blk 1 (.s (.r [.mv 16 3, .mv 17 4, .ex 18 (.ia 1 (.t 16) (.t 17)), .ex 19 (.ld false 1 (.t 18)), .ex 20 (.call 247 [(.t 19)]), .ex 21 (.un .not (.t 20))]) (.cnd (.t 21) (.s (.r [.ex 2 (.mv .n)]) .ret) .skip))) (.r [.mv 14 4, .ex 15 (.bin .add (.t 14) (.i 1)), .mv 4 15])))))) (.s (.r [.mv 22 3, .ex 23 (.len false (.t 22)), .ex 24 (.bin .geq (.t 23) (.i 1)), .mv 25 24, .gt 26 (.mv (.t 3)) 25, .gt 27 (.len false (.t 26)) 25, .gt 28 (.bin .leq (.t 27) (.i 3)) 25, .ex 29 (.pick (.t 25) (.t 28) .n), .mv 2 29]) .ret)))))
theorem c_spec_PathOk_eq : compF Tryz.prog [] 175 = some (c_spec_PathOk.ac, [(.t 2)], 30) := by kernel_rfl
theorem f_spec_PathOk (W0 : World) (s : Str) : Fn Tryz.prog W0 175 [CS s] (.c (CB (pOk s))) [] := by
  refine fnX (c := c_spec_PathOk) mixed c_spec_PathOk_eq (by simp) rfl fun hg => ?_
  refine dr ?_
  refine cP (fun h1 => ?_) (fun h1 => ?_)
  · refine dr ?_
    exact bF (by simp [pOk]; omega)
  refine dr ?_
  repeat (refine c0 (f_l1Names W0 s (by omega)) rfl ?_; first | refine dr ?_ | exact dz)
  intro hg1
  have g1 := goodRow hg1
  refine dr ?_
  refine lp (σ := Nat) (fun k => [(3, .c (eStrs (names s))), (4, I k)]) (fun _ => []) (fun k => k ≤ (names s).length ∧ ((names s).take k).all nameOk = true) (fun k => (names s).length - k) 0 ⟨by simp, by simp⟩ ?_ ?_
  · refine dr ?_
    trivial
  rintro k ⟨hk, ha⟩
  refine dr ?_
  refine cP (fun h2 => ?_) (fun h2 => ?_)
  · refine dr ?_
    repeat (refine c0 (f_l1Name W0 _) rfl ?_; first | refine dr ?_ | exact dz)
    refine cP (fun h3 => ?_) (fun h3 => ?_)
    · refine dr ?_
      exact bF (by rw [pOk, all_no (by omega) h3]; simp)
    · refine dr ?_
      refine ⟨k + 1, ⟨by omega, take_all (by omega) ha h3⟩, by omega, ?_⟩
      refine dr ?_
      trivial
  · have : k = (names s).length := by omega
    subst this
    rw [List.take_length] at ha
    refine dr ?_
    refine cP (fun h3 => ?_) (fun h3 => ?_)
    · refine dr ?_
      refine congrArg CB ?_
      rw [pOk, ha, leI_d, Bool.eq_iff_iff]; simp; omega
    · refine dr ?_
      exact bF (by rw [pOk, ha]; simp; omega)
def c_spec_l1Slash : XC := (.s (.r [.ex 2 (.mv (.i 0))]) (.s (.r [.mv 4 0, .ex 5 (.len true (.t 4)), .ex 6 (.bin .sub (.t 5) (.i 1)), .mv 3 6]) (.s (.blk 0 (.loop (.s (.s (.r [.mv 7 3, .ex 8 (.bin .gtr (.t 7) (.i 0)), .mv 9 8, .gt 10 (.mv (.t 0)) 9, .gt 11 (.mv (.t 3)) 9, .gt 12 (.idx (.t 10) (.t 11)) 9, .gt 13 (.bin .neq (.t 12) (.u 47)) 9, .ex 14 (.pick (.t 9) (.t 13) .n)]) (.cnd (.t 14) .skip (.exit 0))) (.blk 1 (.r [.mv 15 3, .ex 16 (.bin .sub (.t 15) (.i 1)), .mv 3 16]))))) (.s (.r [.mv 17 3, .mv 2 17]) .ret))))
theorem c_spec_l1Slash_eq : compF Tryz.prog [] 243 = some (c_spec_l1Slash.ac, [(.t 2)], 18) := by kernel_rfl
theorem f_l1Slash (W0 : World) (a l : Str) (hl : (47 : UInt8) ∉ l) (h12 : (a ++ 47 :: l).length ≤ 12) : Fn Tryz.prog W0 243 [CS (a ++ 47 :: l)] (.c (CI a.length)) [] := by
  have hlen : (a ++ 47 :: l).length = a.length + l.length + 1 := by simp; omega
  have h47 : ∀ (h : a.length < (a ++ 47 :: l).length), (a ++ 47 :: l)[a.length] = 47 := fun h => by simp
  have hno : ∀ k (h : k < (a ++ 47 :: l).length), a.length < k → (a ++ 47 :: l)[k] ≠ 47 := fun k h hk e => by
    have hm : (a ++ 47 :: l)[k]? = some 47 := by rw [List.getElem?_eq_getElem h, e]
    rw [List.getElem?_append_right (by omega), show k - a.length = (k - a.length - 1) + 1 by omega, List.getElem?_cons_succ] at hm
    exact hl (List.mem_of_getElem? hm)
  generalize a ++ 47 :: l = s at *
  refine fnX (c := c_spec_l1Slash) mixed c_spec_l1Slash_eq (by simp) rfl fun hg => ?_
  refine dr ?_
  refine lp (σ := Nat) (fun k => [(0, .c (CS s)), (3, I k)]) (fun _ => []) (fun k => a.length ≤ k ∧ k < s.length) (fun k => k) (s.length - 1) ⟨by omega, by omega⟩ ?_ ?_
  · refine dr ?_
    trivial
  rintro k ⟨h1, h2⟩
  refine dr ?_
  refine cP (fun h3 => ?_) (fun h3 => ?_)
  · refine dr ?_
    refine cP (fun h4 => ?_) (fun h4 => ?_)
    · have hk : a.length < k := by
        rcases Nat.lt_or_ge a.length k with h | h
        · exact h
        · have e : k = a.length := by omega
          subst e
          rw [h47 h2] at h4
          simp at h4
      refine dr ?_
      refine ⟨k - 1, ⟨by omega, by omega⟩, by omega, ?_⟩
      refine dr ?_
      trivial
    · have hk : k = a.length := by
        have h4' : s[k] = 47 := by
          have : s[k].toNat = 47 := by omega
          exact UInt8.toNat_inj.1 (by simpa using this)
        rcases Nat.lt_or_ge a.length k with h | h
        · exact absurd h4' (hno k h2 h)
        · omega
      refine dr ?_
      rw [hk]
  · refine dr ?_
    have : k = a.length := by omega
    rw [this]
def c_spec_PathUp : XC := (.s (.r [.ex 2 (.mv (.s []))]) (.s (.s (.r [.mv 4 0, .ex 5 (.call 175 [(.t 4)]), .ex 6 (.un .not (.t 5))]) (.cnd (.t 6) (.s (.r [.ex 2 (.mv (.s []))]) .ret) .skip)) (.s (.r [.mv 7 0, .ex 8 (.call 243 [(.t 7)]), .mv 3 8]) (.s (.s (.r [.mv 9 3, .ex 10 (.bin .eql (.t 9) (.i 0))]) (.cnd (.t 10) (.s (.r [.ex 2 (.mv (.s [47]))]) .ret) .skip)) (.s (.r [.mv 11 0, .mv 12 3, .ex 13 (.sls (.t 11) .none (.some (.t 12))), .mv 2 13]) .ret)))))
theorem c_spec_PathUp_eq : compF Tryz.prog [] 167 = some (c_spec_PathUp.ac, [(.t 2)], 14) := by kernel_rfl
theorem f_spec_PathUp (W0 : World) (s : Str) : Fn Tryz.prog W0 167 [CS s] (.c (CS (pUp s))) [] := by
  refine fnX (c := c_spec_PathUp) mixed c_spec_PathUp_eq (by simp) rfl fun hg => ?_
  refine dr ?_
  repeat (refine c0 (f_spec_PathOk W0 s) rfl ?_; first | refine dr ?_ | exact dz)
  refine cP (fun h1 => ?_) (fun h1 => ?_)
  · refine dr ?_
    rw [show pUp s = [] by rw [pUp, h1]; rfl]
  obtain ⟨a, l, e, hl, _, _, _, _, _, hu⟩ := pOk_two h1
  have h12 := (pOk_len h1).2.1
  rw [hu]
  clear hu
  subst e
  refine dr ?_
  repeat (refine c0 (f_l1Slash W0 a l hl h12) rfl ?_; first | refine dr ?_ | exact dz)
  intro hg1
  refine dr ?_
  refine cP (fun h2 => ?_) (fun h2 => ?_)
  · refine dr ?_
    have : a = [] := List.length_eq_zero_iff.1 (by omega)
    rw [if_pos this]
  · refine dr ?_
    repeat (refine sHi a.length rfl (by simp) ?_; first | refine dr ?_ | exact dz)
    rw [if_neg (fun e => h2 (by simp [e])), List.take_left]
def c_spec_PathName : XC := (.s (.r [.ex 2 (.mv (.s []))]) (.s (.s (.r [.mv 3 0, .ex 4 (.call 175 [(.t 3)]), .ex 5 (.un .not (.t 4))]) (.cnd (.t 5) (.s (.r [.ex 2 (.mv (.s []))]) .ret) .skip)) (.s (.r [.mv 6 0, .mv 7 0, .ex 8 (.call 243 [(.t 7)]), .ex 9 (.bin .add (.t 8) (.i 1)), .ex 10 (.sls (.t 6) (.some (.t 9)) .none), .mv 2 10]) .ret)))
theorem c_spec_PathName_eq : compF Tryz.prog [] 309 = some (c_spec_PathName.ac, [(.t 2)], 11) := by kernel_rfl
theorem f_spec_PathName (W0 : World) (s : Str) : Fn Tryz.prog W0 309 [CS s] (.c (CS (pName s))) [] := by
  refine fnX (c := c_spec_PathName) mixed c_spec_PathName_eq (by simp) rfl fun hg => ?_
  refine dr ?_
  repeat (refine c0 (f_spec_PathOk W0 s) rfl ?_; first | refine dr ?_ | exact dz)
  refine cP (fun h1 => ?_) (fun h1 => ?_)
  · refine dr ?_
    rw [show pName s = [] by rw [pName, h1]; rfl]
  obtain ⟨a, l, e, hl, _, _, _, _, hn, _⟩ := pOk_two h1
  have h12 := (pOk_len h1).2.1
  rw [hn]
  clear hn
  subst e
  have hlen : (a ++ 47 :: l).length = a.length + l.length + 1 := by rw [List.length_append, List.length_cons]; omega
  refine dr ?_
  repeat ((first | refine c0 (f_l1Slash W0 a l hl h12) rfl ?_ | refine sLo (a.length + 1) rfl (by omega) ?_); first | refine dr ?_ | exact dz)
  intro hg1
  refine dr ?_
  have e2 : a ++ 47 :: l = (a ++ [47]) ++ l := by simp
  rw [e2, List.drop_left' (by simp)]
def c_spec_l1Under : XC := (.s (.r [.ex 4 (.mv .n)]) (.s (.s (.r [.mv 5 1, .ex 6 (.bin .eql (.t 5) (.s [47]))]) (.cnd (.t 6) (.s (.r [.ex 4 (.mv .y)]) .ret) .skip)) (.s (.r [.mv 7 0, .ex 8 (.len true (.t 7)), .mv 9 1, .ex 10 (.len true (.t 9)), .ex 11 (.bin .gtr (.t 8) (.t 10)), .mv 12 11, .gt 13 (.mv (.t 0)) 12, .gt 14 (.mv (.t 1)) 12, .gt 15 (.len true (.t 14)) 12, .gt 16 (.sls (.t 13) .none (.some (.t 15))) 12, .gt 17 (.mv (.t 1)) 12, .gt 18 (.bin .eql (.t 16) (.t 17)) 12, .ex 19 (.pick (.t 12) (.t 18) .n), .mv 20 19, .gt 21 (.mv (.t 0)) 20, .gt 22 (.mv (.t 1)) 20, .gt 23 (.len true (.t 22)) 20, .gt 24 (.idx (.t 21) (.t 23)) 20, .gt 25 (.bin .eql (.t 24) (.u 47)) 20, .ex 26 (.pick (.t 20) (.t 25) .n), .mv 4 26]) .ret)))
theorem c_spec_l1Under_eq : compF Tryz.prog [] 270 = some (c_spec_l1Under.ac, [(.t 4)], 27) := by kernel_rfl
theorem f_l1Under (W0 : World) (s d : Str) : Fn Tryz.prog W0 270 [CS s, CS d] (.c (CB (und s d))) [] := by
  refine fnX (c := c_spec_l1Under) mixed c_spec_l1Under_eq (by simp) rfl fun hg => ?_
  refine dr ?_
  refine cP (fun h1 => ?_) (fun h1 => ?_)
  · refine dr ?_
    exact bT (by simp [und, h1])
  have hnd : und s d = (d ++ [47]).isPrefixOf s := by simp [und, h1]
  rw [hnd]
  refine dr ?_
  refine cP (fun h2 => ?_) (fun h2 => ?_)
  rotate_left
  · refine dr ?_
    refine bF ?_
    rw [Bool.eq_false_iff]
    intro h
    have := (List.isPrefixOf_iff_prefix.1 h).length_le
    simp at this; omega
  refine dr ?_
  repeat (refine sHi d.length rfl (by omega) ?_; first | refine dr ?_ | exact dz)
  refine cP (fun h3 => ?_) (fun h3 => ?_)
  rotate_left
  · refine dr ?_
    refine bF ?_
    rw [Bool.eq_false_iff]
    intro h
    obtain ⟨r, hr⟩ := List.isPrefixOf_iff_prefix.1 h
    apply h3
    rw [← hr, List.append_assoc, List.take_left]
  refine dr ?_
  have hs : s = d ++ s[d.length] :: s.drop (d.length + 1) := by
    rw [← List.drop_eq_getElem_cons (by omega)]
    conv => lhs; rw [← List.take_append_drop d.length s, h3]
  refine congrArg CB ?_
  rw [eqI_d, Bool.eq_iff_iff, List.isPrefixOf_iff_prefix]
  simp only [beq_iff_eq]
  constructor
  · intro h
    have e : s[d.length] = 47 := by
      have : s[d.length].toNat = 47 := by omega
      exact UInt8.toNat_inj.1 (by simpa using this)
    rw [e] at hs
    exact ⟨s.drop (d.length + 1), by rw [hs]; simp⟩
  · rintro ⟨r, hr⟩
    have : s[d.length]? = some 47 := by rw [← hr]; simp
    have e : s[d.length] = 47 := by
      rw [List.getElem?_eq_getElem (by omega)] at this; exact Option.some.inj this
    rw [e]; rfl
def c_spec_PathMove : XC := (.s (.r [.ex 6 (.mv (.s [])), .ex 7 (.mv .n)]) (.s (.s (.r [.mv 9 0, .ex 10 (.call 175 [(.t 9)]), .ex 11 (.un .not (.t 10)), .mv 12 11, .gf 13 (.mv (.t 1)) 12, .gf 14 (.call 175 [(.t 13)]) 12, .gf 15 (.un .not (.t 14)) 12, .ex 16 (.pick (.t 12) .y (.t 15)), .mv 17 16, .gf 18 (.mv (.t 2)) 17, .gf 19 (.call 175 [(.t 18)]) 17, .gf 20 (.un .not (.t 19)) 17, .ex 21 (.pick (.t 17) .y (.t 20))]) (.cnd (.t 21) (.s (.r [.ex 6 (.mv (.s [])), .ex 7 (.mv .n)]) .ret) .skip)) (.s (.s (.r [.mv 22 0, .mv 23 1, .ex 24 (.bin .neq (.t 22) (.t 23)), .mv 25 24, .gt 26 (.mv (.t 0)) 25, .gt 27 (.mv (.t 1)) 25, .gt 28 (.call 270 [(.t 26), (.t 27)]) 25, .gt 29 (.un .not (.t 28)) 25, .ex 30 (.pick (.t 25) (.t 29) .n)]) (.cnd (.t 30) (.s (.r [.mv 31 0, .mv 6 31, .ex 7 (.mv .y)]) .ret) .skip)) (.s (.r [.mv 32 2, .mv 33 0, .mv 34 1, .ex 35 (.len true (.t 34)), .ex 36 (.sls (.t 33) (.some (.t 35)) .none), .ex 37 (.bin .add (.t 32) (.t 36)), .mv 8 37]) (.s (.s (.r [.mv 38 8, .ex 39 (.call 175 [(.t 38)]), .ex 40 (.un .not (.t 39))]) (.cnd (.t 40) (.s (.r [.ex 6 (.mv (.s [])), .ex 7 (.mv .n)]) .ret) .skip)) (.s (.r [.mv 41 8, .mv 6 41, .ex 7 (.mv .y)]) .ret))))))
theorem c_spec_PathMove_eq : compF Tryz.prog [] 277 = some (c_spec_PathMove.ac, [(.t 6), (.t 7)], 42) := by kernel_rfl
theorem f_spec_PathMove (W0 : World) (s f t : Str) : Fn Tryz.prog W0 277 [CS s, CS f, CS t] (.c (eOpt (pMove s f t))) [] := by
  refine fnX (c := c_spec_PathMove) mixed c_spec_PathMove_eq (by simp) rfl fun hg => ?_
  refine dr ?_
  repeat (refine c0 (f_spec_PathOk W0 s) rfl ?_; first | refine dr ?_ | exact dz)
  refine cP (fun h1 => ?_) (fun h1 => ?_)
  · refine dr ?_
    simp [pMove, h1, eOpt]
  refine dr ?_
  repeat (refine c0 (f_spec_PathOk W0 f) rfl ?_; first | refine dr ?_ | exact dz)
  refine cP (fun h2 => ?_) (fun h2 => ?_)
  · refine dr ?_
    simp [pMove, h2, eOpt]
  refine dr ?_
  repeat (refine c0 (f_spec_PathOk W0 t) rfl ?_; first | refine dr ?_ | exact dz)
  refine cP (fun h3 => ?_) (fun h3 => ?_)
  · refine dr ?_
    simp [pMove, h3, eOpt]
  have l1 := (pOk_len h1).2.1
  have l3 := (pOk_len h3).2.1
  have hm : pMove s f t = if (s != f && !und s f) = true then some s else if pOk (t ++ s.drop f.length) = true then some (t ++ s.drop f.length) else none := by rw [pMove, if_pos (by simp [h1, h2, h3])]
  have fin : f.length ≤ s.length → ((s != f && !und s f) = false) → True := fun _ _ => trivial
  refine dr ?_
  refine cP (fun h4 => ?_) (fun h4 => ?_)
  · refine dr ?_
    repeat (refine c0 (f_l1Under W0 s f) rfl ?_; first | refine dr ?_ | exact dz)
    refine cP (fun h5 => ?_) (fun h5 => ?_)
    · refine dr ?_
      rw [hm, if_pos (by simp [h4, h5])]; rfl
    · have hle : f.length ≤ s.length := by
        simp only [und, Bool.or_eq_true, beq_iff_eq] at h5
        rcases h5 with h5 | h5
        · have := pOk_len h2; rw [h5] at this; simp at this
        · have := (List.isPrefixOf_iff_prefix.1 h5).length_le
          simp at this; omega
      rw [hm, if_neg (by simp [h5])]
      refine dr ?_
      repeat ((first | refine sLo f.length rfl hle ?_ | refine oB (by simp; omega) ?_ | refine c0 (f_spec_PathOk W0 _) rfl ?_); first | refine dr ?_ | exact dz)
      refine cP (fun h6 => ?_) (fun h6 => ?_)
      · refine dr ?_
        rw [if_neg (by rw [h6]; simp)]; rfl
      · refine dr ?_
        rw [if_pos h6]; rfl
  · subst h4
    rw [hm, if_neg (by simp)]
    refine dr ?_
    repeat ((first | refine sLo s.length rfl (Nat.le_refl _) ?_ | refine oB (by simp; omega) ?_ | refine c0 (f_spec_PathOk W0 _) rfl ?_); first | refine dr ?_ | exact dz)
    refine cP (fun h6 => ?_) (fun h6 => ?_)
    · refine dr ?_
      rw [if_neg (by rw [h6]; simp)]; rfl
    · refine dr ?_
      rw [if_pos h6]; rfl
end Go.Proofs.YthblflnfhdnpdaaGreatDoor

namespace Go.Proofs.YthblflnfhdnpdaaGreatDoor
set_option linter.unusedSimpArgs false
set_option linter.unusedVariables false
open Go Go.RowKit
def c_spec_l2Data : XC := (.s (.r [.ex 2 (.mv .n)]) (.s (.s (.r [.ex 3 (.mv (.i 0))]) (.blk 0 (.loop (.s (.s (.r [.mv 4 3, .mv 5 0, .ex 6 (.len true (.t 5)), .ex 7 (.bin .lss (.t 4) (.t 6))]) (.cnd (.t 7) .skip (.exit 0))) (.s (.blk 1 (.s (.r [.mv 10 0, .mv 11 3, .ex 12 (.idx (.t 10) (.t 11)), .ex 13 (.bin .lss (.t 12) (.u 97)), .mv 14 13, .gf 15 (.mv (.t 0)) 14, .gf 16 (.mv (.t 3)) 14, .gf 17 (.idx (.t 15) (.t 16)) 14, .gf 18 (.bin .gtr (.t 17) (.u 122)) 14, .ex 19 (.pick (.t 14) .y (.t 18)), .mv 20 19, .gt 21 (.mv (.t 0)) 20, .gt 22 (.mv (.t 3)) 20, .gt 23 (.idx (.t 21) (.t 22)) 20, .gt 24 (.bin .lss (.t 23) (.u 48)) 20, .gt 25 (.mv (.t 24)) 20, .gf 26 (.mv (.t 0)) 25, .gf 27 (.mv (.t 3)) 25, .gf 28 (.idx (.t 26) (.t 27)) 25, .gf 29 (.bin .gtr (.t 28) (.u 57)) 25, .gt 30 (.pick (.t 25) .y (.t 29)) 20, .ex 31 (.pick (.t 20) (.t 30) .n)]) (.cnd (.t 31) (.s (.r [.ex 2 (.mv .n)]) .ret) .skip))) (.r [.mv 8 3, .ex 9 (.bin .add (.t 8) (.i 1)), .mv 3 9])))))) (.s (.r [.mv 32 0, .ex 33 (.len true (.t 32)), .ex 34 (.bin .leq (.t 33) (.i 6)), .mv 2 34]) .ret)))
theorem c_spec_l2Data_eq : compF Tryz.prog [] 220 = some (c_spec_l2Data.ac, [(.t 2)], 35) := by kernel_rfl
theorem f_l2Data (W0 : World) (s : Str) : Fn Tryz.prog W0 220 [CS s] (.c (CB (dataOk s))) [] := by
  refine fnX (c := c_spec_l2Data) mixed c_spec_l2Data_eq (by simp) rfl fun hg => ?_
  have g1 := goodS (hg _ (by simp : CS s ∈ _))
  refine dr ?_
  refine lp (σ := Nat) (fun k => [(0, .c (CS s)), (3, I k)]) (fun _ => []) (fun k => k ≤ s.length ∧ (s.take k).all alnum = true) (fun k => s.length - k) 0 ⟨by simp, by simp⟩ ?_ ?_
  · refine dr ?_
    trivial
  rintro k ⟨hk, ha⟩
  refine dr ?_
  refine cP (fun h1 => ?_) (fun h1 => ?_)
  · have hk' : k < s.length := by omega
    have no : alnum s[k] = false → CB false = CB (dataOk s) := fun h => bF (by rw [dataOk, all_no hk' h]; rfl)
    have yes : alnum s[k] = true → ∃ x', (x' ≤ s.length ∧ (s.take x').all alnum = true) ∧ x' = k + 1 := fun h => ⟨k + 1, ⟨by omega, take_all hk' ha h⟩, rfl⟩
    refine dr ?_
    refine cP (fun h2 => ?_) (fun h2 => ?_)
    · refine dr ?_
      refine cP (fun h3 => ?_) (fun h3 => ?_)
      · refine dr ?_
        exact no (by simp [alnum, lower]; omega)
      · refine dr ?_
        refine cP (fun h4 => ?_) (fun h4 => ?_)
        · refine dr ?_
          exact no (by simp [alnum, lower]; omega)
        · refine dr ?_
          refine ⟨k + 1, ⟨by omega, take_all hk' ha (by simp [alnum, lower]; omega)⟩, by omega, ?_⟩
          refine dr ?_
          trivial
    · refine dr ?_
      refine cP (fun h3 => ?_) (fun h3 => ?_)
      · refine dr ?_
        refine cP (fun h4 => ?_) (fun h4 => ?_)
        · refine dr ?_
          exact no (by simp [alnum, lower]; omega)
        · refine dr ?_
          refine cP (fun h5 => ?_) (fun h5 => ?_)
          · refine dr ?_
            exact no (by simp [alnum, lower]; omega)
          · refine dr ?_
            refine ⟨k + 1, ⟨by omega, take_all hk' ha (by simp [alnum, lower]; omega)⟩, by omega, ?_⟩
            refine dr ?_
            trivial
      · refine dr ?_
        refine ⟨k + 1, ⟨by omega, take_all hk' ha (by simp [alnum, lower]; omega)⟩, by omega, ?_⟩
        refine dr ?_
        trivial
  · have : k = s.length := by omega
    subst this
    rw [List.take_length] at ha
    refine dr ?_
    refine congrArg CB ?_
    rw [dataOk, ha, leI_d, Bool.eq_iff_iff]; simp; omega
def c_spec_l2Find : XC := (.s (.r [.ex 4 (.mv (.i 0))]) (.s (.s (.r [.ex 5 (.mv (.i 0))]) (.blk 0 (.loop (.s (.s (.r [.mv 6 5, .mv 7 0, .ex 8 (.len false (.t 7)), .ex 9 (.bin .lss (.t 6) (.t 8))]) (.cnd (.t 9) .skip (.exit 0))) (.s (.blk 1 (.s (.r [.mv 12 0, .mv 13 5, .ex 14 (.ia 3 (.t 12) (.t 13)), .ex 15 (.fa 0 (.t 14)), .ex 16 (.ld false 1 (.t 15)), .mv 17 1, .ex 18 (.bin .eql (.t 16) (.t 17))]) (.cnd (.t 18) (.s (.r [.mv 19 5, .mv 4 19]) .ret) .skip))) (.r [.mv 10 5, .ex 11 (.bin .add (.t 10) (.i 1)), .mv 5 11])))))) (.s (.r [.ex 4 (.mv (.k (.c (.sc (.int .i64 (.negSucc 0))))))]) .ret)))
theorem c_spec_l2Find_eq : compF Tryz.prog [] 242 = some (c_spec_l2Find.ac, [(.t 4)], 20) := by kernel_rfl
theorem f_l2Find (W0 : World) (t : List Ent) (p : Str) : Fn Tryz.prog W0 242 [eEnts t, CS p] (.c (CI (idx t p))) [] := by
  refine fnX (c := c_spec_l2Find) mixed c_spec_l2Find_eq (by simp) rfl fun hg => ?_
  have g1 := goodRow (hg _ (by simp : eEnts t ∈ _))
  refine dr ?_
  refine lp (σ := Nat) (fun k => [(0, .c (eEnts t)), (1, .c (CS p)), (5, I k)]) (fun _ => []) (fun k => k ≤ t.length ∧ ∀ i (h' : i < t.length), i < k → t[i].path ≠ p) (fun k => t.length - k) 0 ⟨by simp, by simp⟩ ?_ ?_
  · refine dr ?_
    trivial
  rintro k ⟨hk, ha⟩
  refine dr ?_
  refine cP (fun h1 => ?_) (fun h1 => ?_)
  · refine dr ?_
    refine cP (fun h2 => ?_) (fun h2 => ?_)
    · refine dr ?_
      rw [idx_of_first (by omega) h2 ha]
    · refine dr ?_
      refine ⟨k + 1, ⟨by omega, fun i h' hi => ?_⟩, by omega, ?_⟩
      · by_cases e : i = k
        · subst e; exact h2
        · exact ha i h' (by omega)
      · refine dr ?_
        trivial
  · refine dr ?_
    rw [idx_of_none fun i h' => ha i h' (by omega)]; rfl
def c_spec_l2Dir : XC := (.s (.r [.ex 4 (.mv .n)]) (.s (.s (.r [.mv 6 1, .ex 7 (.bin .eql (.t 6) (.s [47]))]) (.cnd (.t 7) (.s (.r [.ex 4 (.mv .y)]) .ret) .skip)) (.s (.r [.mv 8 0, .mv 9 1, .ex 10 (.call 242 [(.t 8), (.t 9)]), .mv 5 10]) (.s (.r [.mv 11 5, .ex 12 (.bin .geq (.t 11) (.i 0)), .mv 13 12, .gt 14 (.mv (.t 0)) 13, .gt 15 (.mv (.t 5)) 13, .gt 16 (.ia 3 (.t 14) (.t 15)) 13, .gt 17 (.fa 1 (.t 16)) 13, .gt 18 (.ld false 1 (.t 17)) 13, .ex 19 (.pick (.t 13) (.t 18) .n), .mv 4 19]) .ret))))
theorem c_spec_l2Dir_eq : compF Tryz.prog [] 166 = some (c_spec_l2Dir.ac, [(.t 4)], 20) := by kernel_rfl
theorem f_l2Dir (W0 : World) (t : List Ent) (p : Str) : Fn Tryz.prog W0 166 [eEnts t, CS p] (.c (CB (isDir t p))) [] := by
  refine fnX (c := c_spec_l2Dir) mixed c_spec_l2Dir_eq (by simp) rfl fun hg => ?_
  refine dr ?_
  refine cP (fun h1 => ?_) (fun h1 => ?_)
  · refine dr ?_
    exact bT (by simp [isDir, get, h1, rootE])
  refine dr ?_
  repeat (refine c0 (f_l2Find W0 t p) rfl ?_; first | refine dr ?_ | exact dz)
  intro hg1
  have hd : isDir t p = match find t p with | some e => e.dir | none => false := by unfold isDir get; rw [if_neg h1]; cases find t p <;> rfl
  rw [hd]
  rcases idx_cases t p with ⟨e1, e2, _⟩ | ⟨j, hj, e1, e2, _⟩
  · rw [e1, e2]
    refine dr ?_
    refine cP (fun h2 => ?_) (fun h2 => ?_)
    · omega
    · exact dz
  · rw [e1, e2]
    refine dr ?_
    refine cP (fun h2 => ?_) (fun h2 => ?_)
    · exact dz
    · omega
def c_spec_l2Get : XC := (.s (.r [.ex 4 (.alloc [(.c (.sc (.string ⟨#[]⟩))), (.c (.sc (.bool false))), (.c (.sc (.string ⟨#[]⟩)))]), .ex 5 (.mv .n)]) (.s (.s (.r [.mv 7 1, .ex 8 (.bin .eql (.t 7) (.s [47]))]) (.cnd (.t 8) (.s (.r [.ex 9 (.build [(.c (.sc (.string ⟨#[]⟩))), (.c (.sc (.bool false))), (.c (.sc (.string ⟨#[]⟩)))] [(0, (1, (.s [47]))), (1, (1, .y))]), .nu (.st 3 (.t 4) (.t 9)), .ex 5 (.mv .y)]) .ret) .skip)) (.s (.r [.mv 10 0, .mv 11 1, .ex 12 (.call 242 [(.t 10), (.t 11)]), .mv 6 12]) (.s (.s (.r [.mv 13 6, .ex 14 (.bin .lss (.t 13) (.i 0))]) (.cnd (.t 14) (.s (.r [.ex 15 (.build [(.c (.sc (.string ⟨#[]⟩))), (.c (.sc (.bool false))), (.c (.sc (.string ⟨#[]⟩)))] []), .nu (.st 3 (.t 4) (.t 15)), .ex 5 (.mv .n)]) .ret) .skip)) (.s (.r [.mv 16 0, .mv 17 6, .ex 18 (.ia 3 (.t 16) (.t 17)), .ex 19 (.ld true 3 (.t 18)), .nu (.st 3 (.t 4) (.t 19)), .ex 5 (.mv .y)]) .ret)))))
theorem c_spec_l2Get_eq : compF Tryz.prog [] 165 = some (c_spec_l2Get.ac, [(.cell 4 true 3), (.t 5)], 20) := by kernel_rfl
theorem f_l2Get (W0 : World) (t : List Ent) (p : Str) : Fn Tryz.prog W0 165 [eEnts t, CS p] (.c (eEntO (get t p))) [] := by
  refine fnX (c := c_spec_l2Get) mixed c_spec_l2Get_eq (by simp) rfl fun hg => ?_
  refine dr ?_
  refine cP (fun h1 => ?_) (fun h1 => ?_)
  · refine dr ?_
    rw [get, if_pos h1]; rfl
  rw [get, if_neg h1]
  refine dr ?_
  repeat (refine c0 (f_l2Find W0 t p) rfl ?_; first | refine dr ?_ | exact dz)
  intro hg1
  rcases idx_cases t p with ⟨e1, e2, _⟩ | ⟨j, hj, e1, e2, _⟩
  · rw [e1, e2]
    refine dr ?_
    refine cP (fun h2 => ?_) (fun h2 => ?_)
    · refine dr ?_
      rfl
    · omega
  · rw [e1, e2]
    refine dr ?_
    refine cP (fun h2 => ?_) (fun h2 => ?_)
    · omega
    · refine dr ?_
      rfl
def c_spec_TreeOk : XC := (.s (.r [.ex 2 (.mv .n)]) (.s (.s (.r [.mv 5 0, .ex 6 (.len false (.t 5)), .ex 7 (.bin .gtr (.t 6) (.i 16))]) (.cnd (.t 7) (.s (.r [.ex 2 (.mv .n)]) .ret) .skip)) (.s (.s (.r [.ex 3 (.mv (.i 0))]) (.blk 0 (.loop (.s (.s (.r [.mv 8 3, .mv 9 0, .ex 10 (.len false (.t 9)), .ex 11 (.bin .lss (.t 8) (.t 10))]) (.cnd (.t 11) .skip (.exit 0))) (.s (.blk 1 (.s (.r [.mv 14 0, .mv 15 3, .ex 16 (.ia 3 (.t 14) (.t 15)), .ex 17 (.ld true 3 (.t 16)), .ex 4 (.alloc [(.c (.sc (.string ⟨#[]⟩))), (.c (.sc (.bool false))), (.c (.sc (.string ⟨#[]⟩)))]), .nu (.st 3 (.t 4) (.t 17))]) (.s (.d [.ex 18 (.fa 0 (.t 4)), .ex 19 (.ld false 1 (.t 18)), .ex 20 (.call 175 [(.t 19)]), .ex 21 (.un .not (.t 20)), .mv 22 21, .gf 23 (.fa 2 (.t 4)) 22, .gf 24 (.ld false 1 (.t 23)) 22, .gf 25 (.call 220 [(.t 24)]) 22, .gf 26 (.un .not (.t 25)) 22, .ex 27 (.pick (.t 22) .y (.t 26)), .mv 28 27, .gf 29 (.fa 1 (.t 4)) 28, .gf 30 (.ld false 1 (.t 29)) 28, .gf 31 (.mv (.t 30)) 28, .gt 32 (.fa 2 (.t 4)) 31, .gt 33 (.ld false 1 (.t 32)) 31, .gt 34 (.bin .neq (.t 33) (.s [])) 31, .gf 35 (.pick (.t 31) (.t 34) .n) 28, .ex 36 (.pick (.t 28) .y (.t 35)), .mv 37 36, .gf 38 (.mv (.t 3)) 37, .gf 39 (.bin .gtr (.t 38) (.i 0)) 37, .gf 40 (.mv (.t 39)) 37, .gt 41 (.mv (.t 0)) 40, .gt 42 (.mv (.t 3)) 40, .gt 43 (.bin .sub (.t 42) (.i 1)) 40, .gt 44 (.ia 3 (.t 41) (.t 43)) 40, .gt 45 (.fa 0 (.t 44)) 40, .gt 46 (.ld false 1 (.t 45)) 40, .gt 47 (.fa 0 (.t 4)) 40, .gt 48 (.ld false 1 (.t 47)) 40, .gt 49 (.bin .geq (.t 46) (.t 48)) 40, .gf 50 (.pick (.t 40) (.t 49) .n) 37, .ex 51 (.pick (.t 37) .y (.t 50)), .mv 52 51, .gf 53 (.mv (.t 0)) 52, .gf 54 (.mv (.t 3)) 52, .gf 55 (.slr 3 (.t 53) .none (.some (.t 54))) 52, .gf 56 (.fa 0 (.t 4)) 52, .gf 57 (.ld false 1 (.t 56)) 52, .gf 58 (.call 167 [(.t 57)]) 52, .gf 59 (.call 166 [(.t 55), (.t 58)]) 52, .gf 60 (.un .not (.t 59)) 52, .ex 61 (.pick (.t 52) .y (.t 60))]) (.cnd (.t 61) (.s (.r [.ex 2 (.mv .n)]) .ret) .skip)))) (.r [.mv 12 3, .ex 13 (.bin .add (.t 12) (.i 1)), .mv 3 13])))))) (.s (.r [.ex 2 (.mv .y)]) .ret))))
theorem c_spec_TreeOk_eq : compF Tryz.prog [] 160 = some (c_spec_TreeOk.ac, [(.t 2)], 62) := by kernel_rfl
theorem f_spec_TreeOk (W0 : World) (t : List Ent) : Fn Tryz.prog W0 160 [eEnts t] (.c (CB (tOk t))) [] := by
  refine fnX (c := c_spec_TreeOk) mixed c_spec_TreeOk_eq (by simp) rfl fun hg => ?_
  have g1 := goodRow (hg _ (by simp : eEnts t ∈ _))
  refine dr ?_
  refine cP (fun h1 => ?_) (fun h1 => ?_)
  · refine dr ?_
    exact bF (by rw [tOk, Bool.and_eq_false_iff]; left; simp; omega)
  have hT : tOk t = okA [] t := by rw [tOk]; simp; omega
  rw [hT]
  refine dr ?_
  refine lp (σ := Nat) (fun k => [(0, .c (eEnts t)), (3, I k)]) (fun _ => []) (fun k => k ≤ t.length ∧ ∀ j (h : j < t.length), j < k → ok1 (t.take j) t[j] = true) (fun k => t.length - k) 0 ⟨by simp, by simp⟩ ?_ ?_
  · refine dr ?_
    trivial
  rintro k ⟨hk, ha⟩
  refine dr ?_
  refine cP (fun h2 => ?_) (fun h2 => ?_)
  rotate_left
  · refine dr ?_
    exact bT (okA0.2 fun j h => ha j h (by omega))
  have hk' : k < t.length := by omega
  have no : ok1 (t.take k) t[k] = false → CB false = CB (okA [] t) := fun h => bF (by
    rw [Bool.eq_false_iff]; intro e
    have := okA0.1 e k hk'
    rw [h] at this; cases this)
  refine dr ?_
  repeat (refine c0 (f_spec_PathOk W0 _) rfl ?_; first | refine dr ?_ | exact dz)
  refine cP (fun h3 => ?_) (fun h3 => ?_)
  · refine dr ?_
    exact no (by simp [ok1, h3])
  refine dr ?_
  repeat (refine c0 (f_l2Data W0 _) rfl ?_; first | refine dr ?_ | exact dz)
  refine cP (fun h4 => ?_) (fun h4 => ?_)
  · refine dr ?_
    exact no (by simp [ok1, h4])
  refine dr ?_
  refine cP (fun h5 => ?_) (fun h5 => ?_)
  · refine dr ?_
    refine cP (fun h6 => ?_) (fun h6 => ?_)
    · refine dr ?_
      exact no (by simp [ok1, h5, h6])
    · have h56 : (!(t[k].dir && t[k].data != [])) = true := by simp [h6]
      clear h5 h6
      refine dr ?_
      refine cP (fun h7 => ?_) (fun h7 => ?_)
      · have hl : (t.take k).getLast? = some t[k - 1] := by
          rw [List.getLast?_take, if_neg (by omega), List.getElem?_eq_getElem (by omega)]
          rfl
        refine dr ?_
        repeat (refine aM (j := k - 1) (by omega) (by omega) ?_; first | refine dr ?_ | exact dz)
        cases h8 : ltS t[k - 1].path t[k].path
        · refine dr ?_
          exact no (by simp [ok1, hl, h8])
        · refine dEr ?_
          repeat ((first | refine sHiM k rfl (by omega) ?_ | refine c0 (f_spec_PathUp W0 _) rfl ?_ | refine c0 (f_l2Dir W0 (t.take k) _) rfl ?_); first | refine dEr ?_ | exact dz)
          refine cP (fun h9 => ?_) (fun h9 => ?_)
          · refine dr ?_
            exact no (by simp [ok1, h9])
          · refine dr ?_
            refine ⟨k + 1, ⟨by omega, fun j h hj => ?_⟩, by omega, ?_⟩
            · by_cases e : j = k
              · subst e; rw [ok1, h3, h4, h56, h9, hl]; simp [h8]
              · exact ha j h (by omega)
            · refine dr ?_
              trivial
      · have hk0 : k = 0 := by omega
        subst hk0
        refine dEr ?_
        repeat ((first | refine sHiM 0 rfl (by omega) ?_ | refine c0 (f_spec_PathUp W0 _) rfl ?_ | refine c0 (f_l2Dir W0 (t.take 0) _) rfl ?_); first | refine dEr ?_ | exact dz)
        refine cP (fun h9 => ?_) (fun h9 => ?_)
        · refine dr ?_
          exact no (by simp only [ok1, h9, Bool.and_false])
        · refine dr ?_
          refine ⟨1, ⟨by omega, fun j h hj => ?_⟩, by omega, ?_⟩
          · have e : j = 0 := by omega
            subst e
            rw [ok1, h3, h4, h56, h9]; rfl
          · refine dr ?_
            trivial
  · have h56 : (!(t[k].dir && t[k].data != [])) = true := by simp [h5]
    clear h5
    refine dr ?_
    refine cP (fun h7 => ?_) (fun h7 => ?_)
    · have hl : (t.take k).getLast? = some t[k - 1] := by
        rw [List.getLast?_take, if_neg (by omega), List.getElem?_eq_getElem (by omega)]
        rfl
      refine dr ?_
      repeat (refine aM (j := k - 1) (by omega) (by omega) ?_; first | refine dr ?_ | exact dz)
      cases h8 : ltS t[k - 1].path t[k].path
      · refine dr ?_
        exact no (by simp [ok1, hl, h8])
      · refine dEr ?_
        repeat ((first | refine sHiM k rfl (by omega) ?_ | refine c0 (f_spec_PathUp W0 _) rfl ?_ | refine c0 (f_l2Dir W0 (t.take k) _) rfl ?_); first | refine dEr ?_ | exact dz)
        refine cP (fun h9 => ?_) (fun h9 => ?_)
        · refine dr ?_
          exact no (by simp [ok1, h9])
        · refine dr ?_
          refine ⟨k + 1, ⟨by omega, fun j h hj => ?_⟩, by omega, ?_⟩
          · by_cases e : j = k
            · subst e; rw [ok1, h3, h4, h56, h9, hl]; simp [h8]
            · exact ha j h (by omega)
          · refine dr ?_
            trivial
    · have hk0 : k = 0 := by omega
      subst hk0
      refine dEr ?_
      repeat ((first | refine sHiM 0 rfl (by omega) ?_ | refine c0 (f_spec_PathUp W0 _) rfl ?_ | refine c0 (f_l2Dir W0 (t.take 0) _) rfl ?_); first | refine dEr ?_ | exact dz)
      refine cP (fun h9 => ?_) (fun h9 => ?_)
      · refine dr ?_
        exact no (by simp only [ok1, h9, Bool.and_false])
      · refine dr ?_
        refine ⟨1, ⟨by omega, fun j h hj => ?_⟩, by omega, ?_⟩
        · have e : j = 0 := by omega
          subst e
          rw [ok1, h3, h4, h56, h9]; rfl
        · refine dr ?_
          trivial
end Go.Proofs.YthblflnfhdnpdaaGreatDoor

namespace Go.Proofs.YthblflnfhdnpdaaGreatDoor
set_option linter.unusedSimpArgs false
set_option linter.unusedVariables false
open Go Go.RowKit
def c_spec_l2Put : XC := (.s (.r [.ex 3 (.box (.t 1)), .ex 4 (.asn (.k .nil) 3 59)]) (.s (.r [.ex 7 .bsl0, .ex 5 (.asn (.t 7) 3 59)]) (.s (.r [.ex 6 (.mv (.i 0))]) (.s (.blk 0 (.loop (.s (.s (.d [.mv 8 6, .mv 9 0, .ex 10 (.len false (.t 9)), .ex 11 (.bin .lss (.t 8) (.t 10)), .mv 12 11, .gt 13 (.mv (.t 0)) 12, .gt 14 (.mv (.t 6)) 12, .gt 15 (.ia 3 (.t 13) (.t 14)) 12, .gt 16 (.fa 0 (.t 15)) 12, .gt 17 (.ld false 1 (.t 16)) 12, .gt 18 (.fa 0 (.t 3)) 12, .gt 19 (.ld false 1 (.t 18)) 12, .gt 20 (.bin .lss (.t 17) (.t 19)) 12, .ex 21 (.pick (.t 12) (.t 20) .n)]) (.cnd (.t 21) .skip (.exit 0))) (.blk 1 (.s (.r [.mv 22 5, .mv 23 0, .mv 24 6, .ex 25 (.ia 3 (.t 23) (.t 24)), .ex 26 (.ld true 3 (.t 25)), .ex 27 (.bsl 3 59 [(.t 26)]), .ex 28 (.app false 3 40 59 (.t 22) (.t 27)), .ex 5 (.asn (.t 28) 3 59)]) (.r [.mv 29 6, .ex 30 (.bin .add (.t 29) (.i 1)), .mv 6 30])))))) (.s (.r [.mv 31 5, .ex 32 (.ld true 3 (.t 3)), .ex 33 (.bsl 3 59 [(.t 32)]), .ex 34 (.app false 3 40 59 (.t 31) (.t 33)), .ex 5 (.asn (.t 34) 3 59)]) (.s (.s (.d [.mv 35 6, .mv 36 0, .ex 37 (.len false (.t 36)), .ex 38 (.bin .lss (.t 35) (.t 37)), .mv 39 38, .gt 40 (.mv (.t 0)) 39, .gt 41 (.mv (.t 6)) 39, .gt 42 (.ia 3 (.t 40) (.t 41)) 39, .gt 43 (.fa 0 (.t 42)) 39, .gt 44 (.ld false 1 (.t 43)) 39, .gt 45 (.fa 0 (.t 3)) 39, .gt 46 (.ld false 1 (.t 45)) 39, .gt 47 (.bin .eql (.t 44) (.t 46)) 39, .ex 48 (.pick (.t 39) (.t 47) .n)]) (.cnd (.t 48) (.r [.mv 49 6, .ex 50 (.bin .add (.t 49) (.i 1)), .mv 6 50]) .skip)) (.s (.r [.mv 51 5, .mv 52 0, .mv 53 6, .ex 54 (.slr 3 (.t 52) (.some (.t 53)) .none), .ex 55 (.app false 3 40 59 (.t 51) (.t 54)), .ex 4 (.asn (.t 55) 3 59)]) .ret)))))))
theorem c_spec_l2Put_eq : compF Tryz.prog [] 239 = some (c_spec_l2Put.ac, [(.t 4)], 56) := by kernel_rfl
theorem f_l2Put (W0 : World) (t : List Ent) (e : Ent) (ht : t.length ≤ 1000000) : Fn Tryz.prog W0 239 [eEnts t, eEnt e] (.c (eEnts (put t e))) [] := by
  refine fnX (c := c_spec_l2Put) mixed c_spec_l2Put_eq (by simp) rfl fun hg => ?_
  refine dr ?_
  refine lp (σ := Nat) (fun k => [(0, .c (eEnts t)), (3, .ptr 48 0), (5, .own 80 k), (6, I k)]) (fun k => [(48, .box [.c (CS e.path), (.c (CB e.dir)), .c (CS e.data)]), (80, .row ((t.take k).map eEnt) 3 59)]) (fun k => k ≤ t.length ∧ (t.take k).all (fun x => ltS x.path e.path) = true) (fun k => t.length - k) 0 ⟨by simp, by simp⟩ ?_ ?_
  · refine dr ?_
    trivial
  rintro k ⟨hk, ha⟩
  refine dr ?_
  refine cP (fun h1 => ?_) (fun h1 => ?_)
  · have hk' : k < t.length := by omega
    refine dr ?_
    refine cP (fun h2 => ?_) (fun h2 => ?_)
    · refine dr ?_
      repeat ((first | refine oB (by simp; omega) ?_ | refine oB (by simp) ?_); first | refine dr ?_ | exact dz)
      refine ⟨k + 1, ⟨by omega, take_all hk' ha h2⟩, by omega, ?_⟩
      refine dr ?_
      repeat ((first | refine oB (by simp; omega) ?_ | refine oB (tmn hk') ?_); first | refine dr ?_ | exact dz)
      trivial
    · refine dr ?_
      repeat ((first | refine oB (by simp; omega) ?_ | refine oB (by simp) ?_); first | refine dr ?_ | exact dz)
      refine cP (fun h3 => ?_) (fun h3 => ?_)
      rotate_left
      · omega
      refine dr ?_
      refine cP (fun h4 => ?_) (fun h4 => ?_)
      · refine dr ?_
        repeat ((first | refine sLoM (k + 1) (by omega) (by omega) ?_ | refine oB (by simp; omega) ?_ | refine oB (by simp) ?_); first | refine dr ?_ | exact dz)
        show _ = eEnts (putG _ t e)
        rw [put_at hk' ha h2 h4]; simp [eEnts]; rfl
      · refine dr ?_
        repeat ((first | refine sLoM k (by omega) (by omega) ?_ | refine oB (by simp; omega) ?_ | refine oB (by simp) ?_); first | refine dr ?_ | exact dz)
        show _ = eEnts (putG _ t e)
        rw [put_in hk' ha h2 h4]; simp [eEnts]; rfl
  · refine dr ?_
    repeat ((first | refine oB (by simp; omega) ?_ | refine oB (by simp) ?_); first | refine dr ?_ | exact dz)
    refine cP (fun h3 => ?_) (fun h3 => ?_)
    · omega
    refine dr ?_
    repeat ((first | refine sLoM k (by omega) (by omega) ?_ | refine oB (by simp; omega) ?_ | refine oB (by simp) ?_); first | refine dr ?_ | exact dz)
    show _ = eEnts (putG _ t e)
    rw [put_end (by omega) ha]
    have : k = t.length := by omega
    simp [eEnts, this]; rfl
def c_spec_l3Put : XC := (.s (.r [.ex 3 (.box (.t 1)), .ex 4 (.asn (.k .nil) 3 49)]) (.s (.r [.ex 7 .bsl0, .ex 5 (.asn (.t 7) 3 49)]) (.s (.r [.ex 6 (.mv (.i 0))]) (.s (.blk 0 (.loop (.s (.s (.d [.mv 8 6, .mv 9 0, .ex 10 (.len false (.t 9)), .ex 11 (.bin .lss (.t 8) (.t 10)), .mv 12 11, .gt 13 (.mv (.t 0)) 12, .gt 14 (.mv (.t 6)) 12, .gt 15 (.ia 3 (.t 13) (.t 14)) 12, .gt 16 (.fa 0 (.t 15)) 12, .gt 17 (.ld false 1 (.t 16)) 12, .gt 18 (.fa 0 (.t 3)) 12, .gt 19 (.ld false 1 (.t 18)) 12, .gt 20 (.bin .lss (.t 17) (.t 19)) 12, .ex 21 (.pick (.t 12) (.t 20) .n)]) (.cnd (.t 21) .skip (.exit 0))) (.blk 1 (.s (.r [.mv 22 5, .mv 23 0, .mv 24 6, .ex 25 (.ia 3 (.t 23) (.t 24)), .ex 26 (.ld true 3 (.t 25)), .ex 27 (.bsl 3 49 [(.t 26)]), .ex 28 (.app false 3 40 49 (.t 22) (.t 27)), .ex 5 (.asn (.t 28) 3 49)]) (.r [.mv 29 6, .ex 30 (.bin .add (.t 29) (.i 1)), .mv 6 30])))))) (.s (.r [.mv 31 5, .ex 32 (.ld true 3 (.t 3)), .ex 33 (.bsl 3 49 [(.t 32)]), .ex 34 (.app false 3 40 49 (.t 31) (.t 33)), .ex 5 (.asn (.t 34) 3 49)]) (.s (.s (.d [.mv 35 6, .mv 36 0, .ex 37 (.len false (.t 36)), .ex 38 (.bin .lss (.t 35) (.t 37)), .mv 39 38, .gt 40 (.mv (.t 0)) 39, .gt 41 (.mv (.t 6)) 39, .gt 42 (.ia 3 (.t 40) (.t 41)) 39, .gt 43 (.fa 0 (.t 42)) 39, .gt 44 (.ld false 1 (.t 43)) 39, .gt 45 (.fa 0 (.t 3)) 39, .gt 46 (.ld false 1 (.t 45)) 39, .gt 47 (.bin .eql (.t 44) (.t 46)) 39, .ex 48 (.pick (.t 39) (.t 47) .n)]) (.cnd (.t 48) (.r [.mv 49 6, .ex 50 (.bin .add (.t 49) (.i 1)), .mv 6 50]) .skip)) (.s (.r [.mv 51 5, .mv 52 0, .mv 53 6, .ex 54 (.slr 3 (.t 52) (.some (.t 53)) .none), .ex 55 (.app false 3 40 49 (.t 51) (.t 54)), .ex 4 (.asn (.t 55) 3 49)]) .ret)))))))
theorem c_spec_l3Put_eq : compF Tryz.prog [] 169 = some (c_spec_l3Put.ac, [(.t 4)], 56) := by kernel_rfl
theorem f_l3Put (W0 : World) (t : List Mark) (e : Mark) (ht : t.length ≤ 1000000) : Fn Tryz.prog W0 169 [eMarks t, eMark e] (.c (eMarks (lput t e))) [] := by
  refine fnX (c := c_spec_l3Put) mixed c_spec_l3Put_eq (by simp) rfl fun hg => ?_
  refine dr ?_
  refine lp (σ := Nat) (fun k => [(0, .c (eMarks t)), (3, .ptr 48 0), (5, .own 80 k), (6, I k)]) (fun k => [(48, .box [.c (CS e.path), (I e.kind), .c (CS e.data)]), (80, .row ((t.take k).map eMark) 3 49)]) (fun k => k ≤ t.length ∧ (t.take k).all (fun x => ltS x.path e.path) = true) (fun k => t.length - k) 0 ⟨by simp, by simp⟩ ?_ ?_
  · refine dr ?_
    trivial
  rintro k ⟨hk, ha⟩
  refine dr ?_
  refine cP (fun h1 => ?_) (fun h1 => ?_)
  · have hk' : k < t.length := by omega
    refine dr ?_
    refine cP (fun h2 => ?_) (fun h2 => ?_)
    · refine dr ?_
      repeat ((first | refine oB (by simp; omega) ?_ | refine oB (by simp) ?_); first | refine dr ?_ | exact dz)
      refine ⟨k + 1, ⟨by omega, take_all hk' ha h2⟩, by omega, ?_⟩
      refine dr ?_
      repeat ((first | refine oB (by simp; omega) ?_ | refine oB (tmn hk') ?_); first | refine dr ?_ | exact dz)
      trivial
    · refine dr ?_
      repeat ((first | refine oB (by simp; omega) ?_ | refine oB (by simp) ?_); first | refine dr ?_ | exact dz)
      refine cP (fun h3 => ?_) (fun h3 => ?_)
      rotate_left
      · omega
      refine dr ?_
      refine cP (fun h4 => ?_) (fun h4 => ?_)
      · refine dr ?_
        repeat ((first | refine sLoM (k + 1) (by omega) (by omega) ?_ | refine oB (by simp; omega) ?_ | refine oB (by simp) ?_); first | refine dr ?_ | exact dz)
        show _ = eMarks (putG _ t e)
        rw [put_at hk' ha h2 h4]; simp [eMarks]; rfl
      · refine dr ?_
        repeat ((first | refine sLoM k (by omega) (by omega) ?_ | refine oB (by simp; omega) ?_ | refine oB (by simp) ?_); first | refine dr ?_ | exact dz)
        show _ = eMarks (putG _ t e)
        rw [put_in hk' ha h2 h4]; simp [eMarks]; rfl
  · refine dr ?_
    repeat ((first | refine oB (by simp; omega) ?_ | refine oB (by simp) ?_); first | refine dr ?_ | exact dz)
    refine cP (fun h3 => ?_) (fun h3 => ?_)
    · omega
    refine dr ?_
    repeat ((first | refine sLoM k (by omega) (by omega) ?_ | refine oB (by simp; omega) ?_ | refine oB (by simp) ?_); first | refine dr ?_ | exact dz)
    show _ = eMarks (putG _ t e)
    rw [put_end (by omega) ha]
    have : k = t.length := by omega
    simp [eMarks, this]; rfl
def c_spec_l2Turned : XC := (.s (.r [.ex 4 (.asn (.k .nil) 1 9)]) (.s (.r [.mv 13 0, .ex 5 (.asn (.t 13) 3 59)]) (.s (.s (.r [.ex 6 (.mv (.i 0))]) (.blk 0 (.loop (.s (.s (.r [.mv 14 6, .mv 15 1, .ex 16 (.len false (.t 15)), .ex 17 (.bin .lss (.t 14) (.t 16))]) (.cnd (.t 17) .skip (.exit 0))) (.s (.blk 1 (.r [.mv 20 5, .mv 21 1, .mv 22 6, .ex 23 (.ia 3 (.t 21) (.t 22)), .ex 24 (.ld true 3 (.t 23)), .ex 25 (.call 239 [(.t 20), (.t 24)]), .ex 5 (.asn (.t 25) 3 59)])) (.r [.mv 18 6, .ex 19 (.bin .add (.t 18) (.i 1)), .mv 6 19])))))) (.s (.r [.ex 26 .bsl0, .ex 7 (.asn (.t 26) 1 9)]) (.s (.s (.r [.ex 8 (.mv (.i 0))]) (.blk 2 (.loop (.s (.s (.r [.mv 27 8, .mv 28 5, .ex 29 (.len false (.t 28)), .ex 30 (.bin .lss (.t 27) (.t 29))]) (.cnd (.t 30) .skip (.exit 2))) (.s (.blk 3 (.s (.r [.mv 34 0, .mv 35 5, .mv 36 8, .ex 37 (.ia 3 (.t 35) (.t 36)), .ex 38 (.fa 0 (.t 37)), .ex 39 (.ld false 1 (.t 38)), .ex 40 (.call 165 [(.t 34), (.t 39)]), .mv 33 40, .ex 41 (.ext (.t 33) 0), .ex 42 (.ext (.t 33) 1), .ex 9 (.alloc [(.c (.sc (.string ⟨#[]⟩))), (.c (.sc (.bool false))), (.c (.sc (.string ⟨#[]⟩)))]), .nu (.st 3 (.t 9) (.t 41)), .mv 10 42]) (.s (.r [.mv 44 1, .mv 45 5, .mv 46 8, .ex 47 (.ia 3 (.t 45) (.t 46)), .ex 48 (.fa 0 (.t 47)), .ex 49 (.ld false 1 (.t 48)), .ex 50 (.call 165 [(.t 44), (.t 49)]), .mv 43 50, .ex 51 (.ext (.t 43) 0), .ex 52 (.ext (.t 43) 1), .ex 11 (.alloc [(.c (.sc (.string ⟨#[]⟩))), (.c (.sc (.bool false))), (.c (.sc (.string ⟨#[]⟩)))]), .nu (.st 3 (.t 11) (.t 51)), .mv 12 52]) (.s (.r [.mv 53 10, .mv 54 12, .ex 55 (.bb true (.t 53) (.t 54)), .mv 56 55, .gf 57 (.ld true 3 (.t 9)) 56, .gf 58 (.ld true 3 (.t 11)) 56, .gf 59 (.beq true [.s, .b, .s] (.t 57) (.t 58)) 56, .ex 60 (.pick (.t 56) .y (.t 59))]) (.cnd (.t 60) (.r [.mv 61 7, .mv 62 5, .mv 63 8, .ex 64 (.ia 3 (.t 62) (.t 63)), .ex 65 (.fa 0 (.t 64)), .ex 66 (.ld false 1 (.t 65)), .ex 67 (.bsl 1 9 [(.t 66)]), .ex 68 (.app false 1 16 9 (.t 61) (.t 67)), .ex 7 (.asn (.t 68) 1 9)]) .skip))))) (.r [.mv 31 8, .ex 32 (.bin .add (.t 31) (.i 1)), .mv 8 32])))))) (.s (.r [.mv 69 7, .ex 4 (.asn (.t 69) 1 9)]) .ret))))))
theorem c_spec_l2Turned_eq : compF Tryz.prog [] 164 = some (c_spec_l2Turned.ac, [(.t 4)], 70) := by kernel_rfl
theorem f_l2Turned (W0 : World) (a b : List Ent) (ht : a.length + b.length ≤ 1000000) : Fn Tryz.prog W0 164 [eEnts a, eEnts b] (.c (eStrs (turned a b))) [] := by
  refine fnX (c := c_spec_l2Turned) mixed c_spec_l2Turned_eq (by simp) rfl fun hg => ?_
  refine dr ?_
  refine lp (σ := Nat) (fun k => [(0, .c (eEnts a)), (1, .c (eEnts b)), (5, .c (eEnts ((b.take k).foldl put a))), (6, I k)]) (fun _ => []) (fun k => k ≤ b.length) (fun k => b.length - k) 0 (by simp) ?_ ?_
  · refine dr ?_
    trivial
  intro k hk
  have hlk : ((b.take k).foldl put a).length ≤ a.length + b.length := fold_put_take b a k
  refine dr ?_
  refine cP (fun h1 => ?_) (fun h1 => ?_)
  · have hk' : k < b.length := by omega
    refine dr ?_
    repeat (refine c0 (f_l2Put W0 _ _ (by omega)) rfl ?_; first | refine dr ?_ | exact dz)
    intro hg1
    refine dr ?_
    refine ⟨k + 1, by omega, by omega, ?_⟩
    refine dr ?_
    repeat (refine oB (by rw [fold_next hk']) ?_; first | refine dr ?_ | exact dz)
    trivial
  have hkl : k = b.length := by omega
  subst hkl
  rw [List.take_length] at hlk ⊢
  have hB : b.foldl put a = both a b := rfl
  rw [hB] at hlk ⊢
  generalize hBB : both a b = B at *
  refine dr ?_
  refine lp (σ := Nat) (fun k => [(0, .c (eEnts a)), (1, .c (eEnts b)), (5, .c (eEnts B)), (8, I k), (7, .own 112 ((B.take k).filter (tudP a b)).length)]) (fun k => [(112, .row (((B.take k).filter (tudP a b)).map fun e => CS e.path) 1 9)]) (fun k => k ≤ B.length) (fun k => B.length - k) 0 (by simp) ?_ ?_
  · refine dr ?_
    trivial
  intro k hk
  have hfl := filt_le (q := tudP a b) (l := B) (k := k)
  refine dr ?_
  refine cP (fun h2 => ?_) (fun h2 => ?_)
  · have hk' : k < B.length := by omega
    refine dr ?_
    repeat ((first | refine c0 (f_l2Get W0 _ _) rfl ?_ | rw [eEntO_eq]); first | refine dr ?_ | exact dz)
    intro hg1
    refine dr ?_
    repeat ((first | refine c0 (f_l2Get W0 _ _) rfl ?_ | rw [eEntO_eq]); first | refine dr ?_ | exact dz)
    intro hg1
    refine dr ?_
    have hq : tudP a b B[k] = !(decide ((get a B[k].path).isSome = (get b B[k].path).isSome) && decide ((get a B[k].path).getD noE = (get b B[k].path).getD noE)) := by
      rw [tudP, Bool.eq_iff_iff]; simp [some_ne (d := noE)]
    refine cP (fun h3 => ?_) (fun h3 => ?_)
    · refine dr ?_
      repeat ((first | refine oB (by simp; omega) ?_ | refine oB (by simp) ?_); first | refine dr ?_ | exact dz)
      have hT : tudP a b B[k] = true := by rw [hq]; simp [h3]
      refine ⟨k + 1, by omega, by omega, ?_⟩
      refine dr ?_
      repeat (refine oB (by rw [filt_t hk' hT]; simp) ?_; first | refine dr ?_ | exact dz)
      trivial
    · refine dr ?_
      refine cP (fun h4 => ?_) (fun h4 => ?_)
      · refine dr ?_
        repeat ((first | refine oB (by simp; omega) ?_ | refine oB (by simp) ?_); first | refine dr ?_ | exact dz)
        have hT : tudP a b B[k] = true := by rw [hq, ← bqEnt, h4]; simp
        refine ⟨k + 1, by omega, by omega, ?_⟩
        refine dr ?_
        repeat (refine oB (by rw [filt_t hk' hT]; simp) ?_; first | refine dr ?_ | exact dz)
        trivial
      · refine dr ?_
        have hT : tudP a b B[k] = false := by rw [hq, ← bqEnt, h4]; simp [h3]
        refine ⟨k + 1, by omega, by omega, ?_⟩
        refine dr ?_
        repeat (refine oB (by rw [filt_f hk' hT]) ?_; first | refine dr ?_ | exact dz)
        trivial
  have hkl : k = B.length := by omega
  refine dr ?_
  repeat (refine oB (by simp) ?_; first | refine dr ?_ | exact dz)
  rw [turned, hBB, hkl, List.take_length]
  simp [eStrs]
end Go.Proofs.YthblflnfhdnpdaaGreatDoor

namespace Go.Proofs.YthblflnfhdnpdaaGreatDoor
set_option linter.unusedSimpArgs false
set_option linter.unusedVariables false
open Go Go.RowKit
def c_spec_OpOk : XC := (.s (.r [.ex 1 (.box (.t 0)), .ex 2 (.mv .n)]) (.s (.s (.r [.ex 3 (.fa 0 (.t 1)), .ex 4 (.ld false 1 (.t 3)), .ex 5 (.bin .lss (.t 4) (.i 1)), .mv 6 5, .gf 7 (.fa 0 (.t 1)) 6, .gf 8 (.ld false 1 (.t 7)) 6, .gf 9 (.bin .gtr (.t 8) (.i 5)) 6, .ex 10 (.pick (.t 6) .y (.t 9)), .mv 11 10, .gf 12 (.fa 1 (.t 1)) 11, .gf 13 (.ld false 1 (.t 12)) 11, .gf 14 (.call 175 [(.t 13)]) 11, .gf 15 (.un .not (.t 14)) 11, .ex 16 (.pick (.t 11) .y (.t 15))]) (.cnd (.t 16) (.s (.r [.ex 2 (.mv .n)]) .ret) .skip)) (.s (.s (.r [.ex 17 (.fa 0 (.t 1)), .ex 18 (.ld false 1 (.t 17)), .ex 19 (.bin .eql (.t 18) (.i 5))]) (.cnd (.t 19) (.s (.r [.ex 20 (.fa 2 (.t 1)), .ex 21 (.ld false 1 (.t 20)), .ex 22 (.call 175 [(.t 21)]), .mv 23 22, .gt 24 (.fa 3 (.t 1)) 23, .gt 25 (.ld false 1 (.t 24)) 23, .gt 26 (.bin .eql (.t 25) (.s [])) 23, .ex 27 (.pick (.t 23) (.t 26) .n), .mv 2 27]) .ret) .skip)) (.s (.r [.ex 28 (.fa 2 (.t 1)), .ex 29 (.ld false 1 (.t 28)), .ex 30 (.bin .eql (.t 29) (.s [])), .mv 31 30, .gt 32 (.fa 3 (.t 1)) 31, .gt 33 (.ld false 1 (.t 32)) 31, .gt 34 (.call 220 [(.t 33)]) 31, .ex 35 (.pick (.t 31) (.t 34) .n), .mv 36 35, .gt 37 (.fa 0 (.t 1)) 36, .gt 38 (.ld false 1 (.t 37)) 36, .gt 39 (.bin .eql (.t 38) (.i 2)) 36, .gt 40 (.mv (.t 39)) 36, .gf 41 (.fa 3 (.t 1)) 40, .gf 42 (.ld false 1 (.t 41)) 40, .gf 43 (.bin .eql (.t 42) (.s [])) 40, .gt 44 (.pick (.t 40) .y (.t 43)) 36, .ex 45 (.pick (.t 36) (.t 44) .n), .mv 2 45]) .ret))))
theorem c_spec_OpOk_eq : compF Tryz.prog [] 161 = some (c_spec_OpOk.ac, [(.t 2)], 46) := by kernel_rfl
theorem f_spec_OpOk (W0 : World) (op : Op) : Fn Tryz.prog W0 161 [eOp op] (.c (CB (opOkB op))) [] := by
  refine fnX (c := c_spec_OpOk) mixed c_spec_OpOk_eq (by simp) rfl fun hg => ?_
  refine dr ?_
  refine cP (fun h1 => ?_) (fun h1 => ?_)
  · refine dr ?_
    exact bF (by simp [opOkB]; omega)
  refine dr ?_
  refine cP (fun h2 => ?_) (fun h2 => ?_)
  · refine dr ?_
    exact bF (by simp [opOkB]; omega)
  refine dr ?_
  repeat (refine c0 (f_spec_PathOk W0 _) rfl ?_; first | refine dr ?_ | exact dz)
  refine cP (fun h3 => ?_) (fun h3 => ?_)
  · refine dr ?_
    exact bF (by simp [opOkB, h3])
  have hk : (decide (1 ≤ op.kind) && decide (op.kind ≤ 5)) = true := by simp; omega
  refine dr ?_
  refine cP (fun h4 => ?_) (fun h4 => ?_)
  · refine dEr ?_
    repeat (refine c0 (f_spec_PathOk W0 _) rfl ?_; first | refine dEr ?_ | exact dz)
    have e : opOkB op = (pOk op.dest && op.data == []) := by rw [opOkB, hk, h3, if_pos h4] <;> rfl
    rw [e]
    refine cP (fun h5 => ?_) (fun h5 => ?_)
    · refine dr ?_
      refine congrArg CB ?_
      rw [Bool.eq_iff_iff]; simp [h5, eqS_d]
    · refine dr ?_
      exact bF (by simp [h5])
  have e : opOkB op = (op.dest == [] && (dataOk op.data && (op.kind == 2 || op.data == []))) := by rw [opOkB, hk, h3, if_neg h4] <;> rfl
  rw [e]
  refine dr ?_
  refine cP (fun h5 => ?_) (fun h5 => ?_)
  · refine dEr ?_
    repeat (refine c0 (f_l2Data W0 _) rfl ?_; first | refine dEr ?_ | exact dz)
    refine cP (fun h6 => ?_) (fun h6 => ?_)
    · refine dr ?_
      refine cP (fun h7 => ?_) (fun h7 => ?_)
      · refine dr ?_
        exact bT (by simp [h5, h6, h7])
      · refine dr ?_
        refine congrArg CB ?_
        rw [Bool.eq_iff_iff]; simp [h5, h6, h7, eqS_d]
    · refine dr ?_
      exact bF (by simp [h6])
  · refine dr ?_
    exact bF (by simp [h5])
def c_spec_l2Kids : XC := (.s (.r [.ex 4 (.asn (.k .nil) 1 9)]) (.s (.r [.ex 7 .bsl0, .ex 5 (.asn (.t 7) 1 9)]) (.s (.s (.r [.ex 6 (.mv (.i 0))]) (.blk 0 (.loop (.s (.s (.r [.mv 8 6, .mv 9 0, .ex 10 (.len false (.t 9)), .ex 11 (.bin .lss (.t 8) (.t 10))]) (.cnd (.t 11) .skip (.exit 0))) (.s (.blk 1 (.s (.r [.mv 14 0, .mv 15 6, .ex 16 (.ia 3 (.t 14) (.t 15)), .ex 17 (.fa 0 (.t 16)), .ex 18 (.ld false 1 (.t 17)), .ex 19 (.call 167 [(.t 18)]), .mv 20 1, .ex 21 (.bin .eql (.t 19) (.t 20))]) (.cnd (.t 21) (.r [.mv 22 5, .mv 23 0, .mv 24 6, .ex 25 (.ia 3 (.t 23) (.t 24)), .ex 26 (.fa 0 (.t 25)), .ex 27 (.ld false 1 (.t 26)), .ex 28 (.call 309 [(.t 27)]), .ex 29 (.bsl 1 9 [(.t 28)]), .ex 30 (.app false 1 16 9 (.t 22) (.t 29)), .ex 5 (.asn (.t 30) 1 9)]) .skip))) (.r [.mv 12 6, .ex 13 (.bin .add (.t 12) (.i 1)), .mv 6 13])))))) (.s (.r [.mv 31 5, .ex 4 (.asn (.t 31) 1 9)]) .ret))))
theorem c_spec_l2Kids_eq : compF Tryz.prog [] 278 = some (c_spec_l2Kids.ac, [(.t 4)], 32) := by kernel_rfl
theorem f_l2Kids (W0 : World) (t : List Ent) (p : Str) (ht : t.length ≤ 1000000) : Fn Tryz.prog W0 278 [eEnts t, CS p] (.c (eStrs (kids t p))) [] := by
  refine fnX (c := c_spec_l2Kids) mixed c_spec_l2Kids_eq (by simp) rfl fun hg => ?_
  refine dr ?_
  refine lp2 (fun (k : Nat) (out : List Ent) => [(0, .c (eEnts t)), (1, .c (CS p)), (5, .own 80 out.length), (6, I k)]) (fun _ out => [(80, .row (out.map fun e => CS (pName e.path)) 1 9)]) (fun k out => k ≤ t.length ∧ out = (t.take k).filter (fun e => pUp e.path == p) ∧ out.length ≤ k) (fun k _ => t.length - k) 0 [] ⟨by simp, rfl, by simp⟩ ?_ ?_
  · refine dr ?_
    trivial
  rintro k out ⟨hk, ho, hle⟩
  refine dr ?_
  refine cP (fun h1 => ?_) (fun h1 => ?_)
  · have hk' : k < t.length := by omega
    refine dEr ?_
    repeat (refine c0 (f_spec_PathUp W0 _) rfl ?_; first | refine dEr ?_ | exact dz)
    refine cP (fun h2 => ?_) (fun h2 => ?_)
    · refine dEr ?_
      repeat ((first | refine c0 (f_spec_PathName W0 _) rfl ?_ | refine oB (by simp; omega) ?_ | refine oB (by simp) ?_); first | refine dEr ?_ | exact dz)
      refine ⟨k + 1, out ++ [t[k]], ⟨by omega, by rw [filt_t hk' (by simp [h2]), ho], by simp; omega⟩, by omega, ?_⟩
      refine dr ?_
      repeat (refine oB (by simp <;> rfl) ?_; first | refine dr ?_ | exact dz)
      trivial
    · refine dr ?_
      refine ⟨k + 1, out, ⟨by omega, by rw [filt_f hk' (by simp [h2]), ho], by omega⟩, by omega, ?_⟩
      refine dr ?_
      trivial
  have hkl : k = t.length := by omega
  rw [hkl, List.take_length] at ho
  refine dr ?_
  repeat (refine oB (by simp) ?_; first | refine dr ?_ | exact dz)
  rw [kids, ← ho]; simp [eStrs]
def c_spec_l2Up : XC := (.s (.r [.ex 4 (.mv (.i 0))]) (.s (.r [.mv 8 0, .mv 9 1, .ex 10 (.call 167 [(.t 9)]), .ex 11 (.call 165 [(.t 8), (.t 10)]), .mv 7 11, .ex 12 (.ext (.t 7) 0), .ex 13 (.ext (.t 7) 1), .ex 5 (.alloc [(.c (.sc (.string ⟨#[]⟩))), (.c (.sc (.bool false))), (.c (.sc (.string ⟨#[]⟩)))]), .nu (.st 3 (.t 5) (.t 12)), .mv 6 13]) (.s (.blk 0 (.s (.r [.mv 15 6, .ex 16 (.un .not (.t 15)), .mv 14 16]) (.cnd (.t 14) (.s (.r [.ex 4 (.mv (.i 2))]) .ret) (.s (.r [.ex 18 (.fa 1 (.t 5)), .ex 19 (.ld false 1 (.t 18)), .ex 20 (.un .not (.t 19)), .mv 17 20]) (.cnd (.t 17) (.s (.r [.ex 4 (.mv (.i 3))]) .ret) .skip))))) (.s (.r [.ex 4 (.mv (.i 0))]) .ret))))
theorem c_spec_l2Up_eq : compF Tryz.prog [] 276 = some (c_spec_l2Up.ac, [(.t 4)], 21) := by kernel_rfl
theorem f_l2Up (W0 : World) (t : List Ent) (p : Str) : Fn Tryz.prog W0 276 [eEnts t, CS p] (.c (CI (upC t p))) [] := by
  refine fnX (c := c_spec_l2Up) mixed c_spec_l2Up_eq (by simp) rfl fun hg => ?_
  have hc := f_l2Get W0 t (pUp p)
  cases hx : get t (pUp p) with
  | none =>
    rw [hx] at hc
    refine dEr ?_
    repeat ((first | refine c0 (f_spec_PathUp W0 _) rfl ?_ | refine c0 hc rfl ?_); first | refine dEr ?_ | exact dz)
    rw [upC, hx] <;> rfl
  | some e =>
    rw [hx] at hc
    refine dEr ?_
    repeat ((first | refine c0 (f_spec_PathUp W0 _) rfl ?_ | refine c0 hc rfl ?_); first | refine dEr ?_ | exact dz)
    refine cP (fun h1 => ?_) (fun h1 => ?_)
    · refine dr ?_
      rw [upC, hx]; exact congrArg CI (by simp [h1])
    · refine dr ?_
      rw [upC, hx]; exact congrArg CI (by simp [h1])
def c_spec_l2New : XC := (.s (.r [.ex 4 (.mv (.i 0))]) (.s (.r [.mv 8 0, .mv 9 1, .ex 10 (.call 276 [(.t 8), (.t 9)]), .mv 5 10]) (.s (.r [.mv 12 0, .mv 13 1, .ex 14 (.call 165 [(.t 12), (.t 13)]), .mv 11 14, .ex 15 (.ext (.t 11) 0), .ex 16 (.ext (.t 11) 1), .ex 6 (.alloc [(.c (.sc (.string ⟨#[]⟩))), (.c (.sc (.bool false))), (.c (.sc (.string ⟨#[]⟩)))]), .nu (.st 3 (.t 6) (.t 15)), .mv 7 16]) (.s (.blk 0 (.s (.r [.mv 18 5, .ex 19 (.bin .neq (.t 18) (.i 0)), .mv 17 19]) (.cnd (.t 17) (.s (.r [.mv 20 5, .mv 4 20]) .ret) (.s (.r [.mv 22 7, .mv 21 22]) (.cnd (.t 21) (.s (.r [.ex 4 (.mv (.i 4))]) .ret) (.s (.r [.mv 24 0, .ex 25 (.len false (.t 24)), .ex 26 (.bin .geq (.t 25) (.i 16)), .mv 23 26]) (.cnd (.t 23) (.s (.r [.ex 4 (.mv (.i 8))]) .ret) .skip))))))) (.s (.r [.ex 4 (.mv (.i 0))]) .ret)))))
theorem c_spec_l2New_eq : compF Tryz.prog [] 235 = some (c_spec_l2New.ac, [(.t 4)], 27) := by kernel_rfl
theorem f_l2New (W0 : World) (t : List Ent) (p : Str) : Fn Tryz.prog W0 235 [eEnts t, CS p] (.c (CI (newC t p))) [] := by
  refine fnX (c := c_spec_l2New) mixed c_spec_l2New_eq (by simp) rfl fun hg => ?_
  have hc := f_l2Get W0 t p
  rw [eEntO_eq] at hc
  refine dEr ?_
  repeat ((first | refine c0 (f_l2Up W0 _ _) rfl ?_ | refine c0 hc rfl ?_); first | refine dEr ?_ | exact dz)
  refine cP (fun h1 => ?_) (fun h1 => ?_)
  · refine dr ?_
    rw [newC, if_pos h1]
  have h1' : ¬ upC t p ≠ 0 := fun h => h h1
  refine dr ?_
  refine cP (fun h2 => ?_) (fun h2 => ?_)
  · refine dr ?_
    rw [newC, if_neg h1', if_pos h2] <;> rfl
  have h2' : ¬ (get t p).isSome = true := by simp [h2]
  refine dr ?_
  refine cP (fun h3 => ?_) (fun h3 => ?_)
  · refine dr ?_
    rw [newC, if_neg h1', if_neg h2', if_pos (by omega)] <;> rfl
  · refine dr ?_
    rw [newC, if_neg h1', if_neg h2', if_neg (by omega)] <;> rfl
def c_spec_l2PutCode : XC := (.s (.r [.ex 4 (.mv (.i 0))]) (.s (.r [.mv 8 0, .mv 9 1, .ex 10 (.call 235 [(.t 8), (.t 9)]), .mv 5 10]) (.s (.r [.mv 12 0, .mv 13 1, .ex 14 (.call 165 [(.t 12), (.t 13)]), .mv 11 14, .ex 15 (.ext (.t 11) 0), .ex 16 (.ext (.t 11) 1), .ex 6 (.alloc [(.c (.sc (.string ⟨#[]⟩))), (.c (.sc (.bool false))), (.c (.sc (.string ⟨#[]⟩)))]), .nu (.st 3 (.t 6) (.t 15)), .mv 7 16]) (.s (.s (.r [.mv 17 5, .ex 18 (.bin .eql (.t 17) (.i 4)), .mv 19 18, .gt 20 (.fa 1 (.t 6)) 19, .gt 21 (.ld false 1 (.t 20)) 19, .ex 22 (.pick (.t 19) (.t 21) .n)]) (.cnd (.t 22) (.s (.r [.ex 4 (.mv (.i 5))]) .ret) .skip)) (.s (.s (.r [.mv 23 5, .ex 24 (.bin .eql (.t 23) (.i 4))]) (.cnd (.t 24) (.s (.r [.ex 4 (.mv (.i 0))]) .ret) .skip)) (.s (.r [.mv 25 5, .mv 4 25]) .ret))))))
theorem c_spec_l2PutCode_eq : compF Tryz.prog [] 236 = some (c_spec_l2PutCode.ac, [(.t 4)], 26) := by kernel_rfl
theorem f_l2PutCode (W0 : World) (t : List Ent) (p : Str) : Fn Tryz.prog W0 236 [eEnts t, CS p] (.c (CI (putC t p))) [] := by
  refine fnX (c := c_spec_l2PutCode) mixed c_spec_l2PutCode_eq (by simp) rfl fun hg => ?_
  have hc := f_l2Get W0 t p
  rw [eEntO_eq] at hc
  refine dEr ?_
  repeat ((first | refine c0 (f_l2New W0 _ _) rfl ?_ | refine c0 hc rfl ?_); first | refine dEr ?_ | exact dz)
  refine cP (fun h1 => ?_) (fun h1 => ?_)
  · refine dr ?_
    refine cP (fun h2 => ?_) (fun h2 => ?_)
    · refine dr ?_
      rw [putC, if_pos h1, if_pos h2] <;> rfl
    · refine dr ?_
      refine cP (fun h3 => ?_) (fun h3 => ?_)
      · refine dr ?_
        rw [putC, if_pos h1, if_neg (by simp [h2])] <;> rfl
      · exact absurd h1 h3
  · refine dr ?_
    refine cP (fun h3 => ?_) (fun h3 => ?_)
    · exact absurd h3 h1
    · refine dr ?_
      rw [putC, if_neg h1]
def c_spec_l2OffCode : XC := (.s (.r [.ex 3 (.box (.t 1)), .ex 4 (.mv (.i 0))]) (.s (.r [.mv 8 0, .ex 9 (.fa 1 (.t 3)), .ex 10 (.ld false 1 (.t 9)), .ex 11 (.call 165 [(.t 8), (.t 10)]), .mv 7 11, .ex 12 (.ext (.t 7) 0), .ex 13 (.ext (.t 7) 1), .ex 5 (.alloc [(.c (.sc (.string ⟨#[]⟩))), (.c (.sc (.bool false))), (.c (.sc (.string ⟨#[]⟩)))]), .nu (.st 3 (.t 5) (.t 12)), .mv 6 13]) (.s (.blk 0 (.s (.r [.mv 15 6, .ex 16 (.un .not (.t 15)), .mv 14 16]) (.cnd (.t 14) (.s (.r [.ex 4 (.mv (.i 2))]) .ret) (.s (.r [.ex 18 (.fa 0 (.t 3)), .ex 19 (.ld false 1 (.t 18)), .ex 20 (.bin .eql (.t 19) (.i 3)), .mv 21 20, .gt 22 (.fa 1 (.t 5)) 21, .gt 23 (.ld false 1 (.t 22)) 21, .ex 24 (.pick (.t 21) (.t 23) .n), .mv 17 24]) (.cnd (.t 17) (.s (.r [.ex 4 (.mv (.i 5))]) .ret) (.s (.r [.ex 26 (.fa 0 (.t 3)), .ex 27 (.ld false 1 (.t 26)), .ex 28 (.bin .eql (.t 27) (.i 4)), .mv 29 28, .gt 30 (.fa 1 (.t 5)) 29, .gt 31 (.ld false 1 (.t 30)) 29, .gt 32 (.un .not (.t 31)) 29, .ex 33 (.pick (.t 29) (.t 32) .n), .mv 25 33]) (.cnd (.t 25) (.s (.r [.ex 4 (.mv (.i 3))]) .ret) (.s (.r [.mv 35 0, .ex 36 (.fa 1 (.t 3)), .ex 37 (.ld false 1 (.t 36)), .ex 38 (.call 278 [(.t 35), (.t 37)]), .ex 39 (.len false (.t 38)), .ex 40 (.bin .gtr (.t 39) (.i 0)), .mv 34 40]) (.cnd (.t 34) (.s (.r [.ex 4 (.mv (.i 6))]) .ret) .skip))))))))) (.s (.r [.ex 4 (.mv (.i 0))]) .ret))))
theorem c_spec_l2OffCode_eq : compF Tryz.prog [] 238 = some (c_spec_l2OffCode.ac, [(.t 4)], 41) := by kernel_rfl
theorem f_l2OffCode (W0 : World) (t : List Ent) (op : Op) (ht : t.length ≤ 1000000) : Fn Tryz.prog W0 238 [eEnts t, eOp op] (.c (CI (offC t op))) [] := by
  refine fnX (c := c_spec_l2OffCode) mixed c_spec_l2OffCode_eq (by simp) rfl fun hg => ?_
  have hc := f_l2Get W0 t op.path
  cases hx : get t op.path with
  | none =>
    rw [hx] at hc
    refine dEr ?_
    repeat (refine c0 hc rfl ?_; first | refine dEr ?_ | exact dz)
    rw [offC, hx] <;> rfl
  | some e =>
    rw [hx] at hc
    have e0 : offC t op = if op.kind = 3 ∧ e.dir = true then 5 else if op.kind = 4 ∧ e.dir = false then 3 else if 0 < (kids t op.path).length then 6 else 0 := by rw [offC, hx]
    rw [e0]
    have rest : ∀ {A : Prop}, A → A := fun a => a
    refine dEr ?_
    repeat (refine c0 hc rfl ?_; first | refine dEr ?_ | exact dz)
    refine cP (fun h1 => ?_) (fun h1 => ?_)
    · refine dr ?_
      refine cP (fun h2 => ?_) (fun h2 => ?_)
      · refine dr ?_
        rw [if_pos ⟨h1, h2⟩] <;> rfl
      · have n1 : ¬ (op.kind = 3 ∧ e.dir = true) := by simp [h2]
        have n2 : ¬ (op.kind = 4 ∧ e.dir = false) := by omega
        rw [if_neg n1, if_neg n2]
        refine dr ?_
        refine cP (fun h3 => ?_) (fun h3 => ?_)
        · omega
        · refine dEr ?_
          repeat (refine c0 (f_l2Kids W0 _ _ ht) rfl ?_; first | refine dEr ?_ | exact dz)
          refine cP (fun h4 => ?_) (fun h4 => ?_)
          · refine dr ?_
            rw [if_pos (by omega)] <;> rfl
          · refine dr ?_
            rw [if_neg (by omega)] <;> rfl
    · have n1 : ¬ (op.kind = 3 ∧ e.dir = true) := fun h => h1 h.1
      rw [if_neg n1]
      refine dr ?_
      refine cP (fun h3 => ?_) (fun h3 => ?_)
      · refine dr ?_
        refine cP (fun h2 => ?_) (fun h2 => ?_)
        · refine dr ?_
          rw [if_pos ⟨h3, by simpa using h2⟩] <;> rfl
        · rw [if_neg (fun h => by rw [h.2] at h2; simp at h2)]
          refine dEr ?_
          repeat (refine c0 (f_l2Kids W0 _ _ ht) rfl ?_; first | refine dEr ?_ | exact dz)
          refine cP (fun h4 => ?_) (fun h4 => ?_)
          · refine dr ?_
            rw [if_pos (by omega)] <;> rfl
          · refine dr ?_
            rw [if_neg (by omega)] <;> rfl
      · rw [if_neg (fun h => h3 h.1)]
        refine dEr ?_
        repeat (refine c0 (f_l2Kids W0 _ _ ht) rfl ?_; first | refine dEr ?_ | exact dz)
        refine cP (fun h4 => ?_) (fun h4 => ?_)
        · refine dr ?_
          rw [if_pos (by omega)] <;> rfl
        · refine dr ?_
          rw [if_neg (by omega)] <;> rfl
def c_spec_l2MoveCode : XC := (.s (.r [.ex 3 (.box (.t 1)), .ex 4 (.mv (.i 0))]) (.s (.r [.mv 14 0, .ex 15 (.fa 1 (.t 3)), .ex 16 (.ld false 1 (.t 15)), .ex 17 (.call 165 [(.t 14), (.t 16)]), .mv 13 17, .ex 18 (.ext (.t 13) 0), .ex 19 (.ext (.t 13) 1), .ex 5 (.alloc [(.c (.sc (.string ⟨#[]⟩))), (.c (.sc (.bool false))), (.c (.sc (.string ⟨#[]⟩)))]), .nu (.st 3 (.t 5) (.t 18)), .mv 6 19]) (.s (.r [.mv 20 0, .ex 21 (.fa 2 (.t 3)), .ex 22 (.ld false 1 (.t 21)), .ex 23 (.call 276 [(.t 20), (.t 22)]), .mv 7 23]) (.s (.r [.mv 25 0, .ex 26 (.fa 2 (.t 3)), .ex 27 (.ld false 1 (.t 26)), .ex 28 (.call 165 [(.t 25), (.t 27)]), .mv 24 28, .ex 29 (.ext (.t 24) 0), .ex 30 (.ext (.t 24) 1), .ex 8 (.alloc [(.c (.sc (.string ⟨#[]⟩))), (.c (.sc (.bool false))), (.c (.sc (.string ⟨#[]⟩)))]), .nu (.st 3 (.t 8) (.t 29)), .mv 9 30]) (.s (.blk 0 (.s (.r [.mv 32 6, .ex 33 (.un .not (.t 32)), .mv 31 33]) (.cnd (.t 31) (.s (.r [.ex 4 (.mv (.i 2))]) .ret) (.s (.r [.mv 35 7, .ex 36 (.bin .neq (.t 35) (.i 0)), .mv 34 36]) (.cnd (.t 34) (.s (.r [.mv 37 7, .mv 4 37]) .ret) (.s (.r [.mv 39 9, .mv 38 39]) (.cnd (.t 38) (.s (.r [.ex 4 (.mv (.i 4))]) .ret) (.s (.r [.ex 41 (.fa 2 (.t 3)), .ex 42 (.ld false 1 (.t 41)), .ex 43 (.fa 1 (.t 3)), .ex 44 (.ld false 1 (.t 43)), .ex 45 (.call 270 [(.t 42), (.t 44)]), .mv 40 45]) (.cnd (.t 40) (.s (.r [.ex 4 (.mv (.i 7))]) .ret) .skip))))))))) (.s (.s (.r [.ex 10 (.mv (.i 0))]) (.blk 1 (.loop (.s (.s (.r [.mv 46 10, .mv 47 0, .ex 48 (.len false (.t 47)), .ex 49 (.bin .lss (.t 46) (.t 48))]) (.cnd (.t 49) .skip (.exit 1))) (.s (.blk 2 (.s (.d [.mv 53 0, .mv 54 10, .ex 55 (.ia 3 (.t 53) (.t 54)), .ex 56 (.fa 0 (.t 55)), .ex 57 (.ld false 1 (.t 56)), .ex 58 (.fa 1 (.t 3)), .ex 59 (.ld false 1 (.t 58)), .ex 60 (.fa 2 (.t 3)), .ex 61 (.ld false 1 (.t 60)), .ex 62 (.call 277 [(.t 57), (.t 59), (.t 61)]), .mv 52 62, .ex 63 (.ext (.t 52) 0), .ex 64 (.ext (.t 52) 1), .mv 11 63, .mv 12 64]) (.s (.r [.mv 65 12, .ex 66 (.un .not (.t 65))]) (.cnd (.t 66) (.s (.r [.ex 4 (.mv (.i 8))]) .ret) .skip)))) (.r [.mv 50 10, .ex 51 (.bin .add (.t 50) (.i 1)), .mv 10 51])))))) (.s (.r [.ex 4 (.mv (.i 0))]) .ret)))))))
theorem c_spec_l2MoveCode_eq : compF Tryz.prog [] 237 = some (c_spec_l2MoveCode.ac, [(.t 4)], 67) := by kernel_rfl
theorem f_l2MoveCode (W0 : World) (t : List Ent) (op : Op) (ht : t.length ≤ 1000000) : Fn Tryz.prog W0 237 [eEnts t, eOp op] (.c (CI (movC t op))) [] := by
  refine fnX (c := c_spec_l2MoveCode) mixed c_spec_l2MoveCode_eq (by simp) rfl fun hg => ?_
  have hc := f_l2Get W0 t op.path
  rw [eEntO_eq] at hc
  have hc2 := f_l2Get W0 t op.dest
  rw [eEntO_eq] at hc2
  refine dEr ?_
  repeat ((first | refine c0 hc rfl ?_ | refine c0 hc2 rfl ?_ | refine c0 (f_l2Up W0 _ _) rfl ?_); first | refine dEr ?_ | exact dz)
  refine cP (fun h1 => ?_) (fun h1 => ?_)
  rotate_left
  · have h1' : (get t op.path).isSome = true := by simpa using h1
    refine dr ?_
    refine cP (fun h2 => ?_) (fun h2 => ?_)
    · refine dr ?_
      rw [movC, if_neg (by simp [h1']), if_pos h2]
    have h2' : ¬ upC t op.dest ≠ 0 := fun h => h h2
    refine dr ?_
    refine cP (fun h3 => ?_) (fun h3 => ?_)
    · refine dr ?_
      rw [movC, if_neg (by simp [h1']), if_neg h2', if_pos h3] <;> rfl
    refine dEr ?_
    repeat (refine c0 (f_l1Under W0 _ _) rfl ?_; first | refine dEr ?_ | exact dz)
    refine cP (fun h4 => ?_) (fun h4 => ?_)
    · refine dr ?_
      rw [movC, if_neg (by simp [h1']), if_neg h2', if_neg (by simp [h3]), if_pos h4] <;> rfl
    have e : movC t op = if t.all (fun e => (pMove e.path op.path op.dest).isSome) = true then 0 else 8 := by rw [movC, if_neg (by simp [h1']), if_neg h2', if_neg (by simp [h3]), if_neg (by simp [h4])]
    rw [e]
    refine dr ?_
    refine lp (σ := Nat) (fun k => [(0, .c (eEnts t)), (3, .ptr 48 0), (10, I k)]) (fun _ => [(48, .box [.c (CI op.kind), .c (CS op.path), .c (CS op.dest), .c (CS op.data)])]) (fun k => k ≤ t.length ∧ (t.take k).all (fun e => (pMove e.path op.path op.dest).isSome) = true) (fun k => t.length - k) 0 ⟨by simp, by simp⟩ ?_ ?_
    · refine dr ?_
      trivial
    rintro k ⟨hk, ha⟩
    refine dr ?_
    refine cP (fun h5 => ?_) (fun h5 => ?_)
    · have hk' : k < t.length := by omega
      have hp := f_spec_PathMove W0 t[k].path op.path op.dest
      rw [eOpt_eq] at hp
      refine dEr ?_
      repeat (refine c0 hp rfl ?_; first | refine dEr ?_ | exact dz)
      refine cP (fun h6 => ?_) (fun h6 => ?_)
      · refine dr ?_
        rw [if_neg (by rw [all_no hk' (by simpa using h6)]; simp)] <;> rfl
      · refine dr ?_
        refine ⟨k + 1, ⟨by omega, take_all hk' ha (by simpa using h6)⟩, by omega, ?_⟩
        refine dr ?_
        trivial
    · have hkl : k = t.length := by omega
      rw [hkl, List.take_length] at ha
      refine dr ?_
      rw [if_pos ha] <;> rfl
  · refine dr ?_
    rw [movC, if_pos (by simpa using h1)] <;> rfl
def c_spec_l2Code : XC := (.s (.r [.ex 3 (.box (.t 1)), .ex 4 (.mv (.i 0))]) (.s (.s (.r [.ex 5 (.fa 0 (.t 3)), .ex 6 (.ld false 1 (.t 5))]) (.blk 0 (.s (.r [.ex 8 (.bin .eql (.t 6) (.i 1)), .mv 7 8]) (.cnd (.t 7) (.s (.r [.mv 9 0, .ex 10 (.fa 1 (.t 3)), .ex 11 (.ld false 1 (.t 10)), .ex 12 (.call 235 [(.t 9), (.t 11)]), .mv 4 12]) .ret) (.s (.r [.ex 14 (.bin .eql (.t 6) (.i 2)), .mv 13 14]) (.cnd (.t 13) (.s (.r [.mv 15 0, .ex 16 (.fa 1 (.t 3)), .ex 17 (.ld false 1 (.t 16)), .ex 18 (.call 236 [(.t 15), (.t 17)]), .mv 4 18]) .ret) (.s (.r [.ex 20 (.bin .eql (.t 6) (.i 5)), .mv 19 20]) (.cnd (.t 19) (.s (.r [.mv 21 0, .ex 22 (.ld true 4 (.t 3)), .ex 23 (.call 237 [(.t 21), (.t 22)]), .mv 4 23]) .ret) .skip)))))))) (.s (.r [.mv 24 0, .ex 25 (.ld true 4 (.t 3)), .ex 26 (.call 238 [(.t 24), (.t 25)]), .mv 4 26]) .ret)))
theorem c_spec_l2Code_eq : compF Tryz.prog [] 162 = some (c_spec_l2Code.ac, [(.t 4)], 27) := by kernel_rfl
theorem f_l2Code (W0 : World) (t : List Ent) (op : Op) (ht : t.length ≤ 1000000) : Fn Tryz.prog W0 162 [eEnts t, eOp op] (.c (CI (codeT t op))) [] := by
  refine fnX (c := c_spec_l2Code) mixed c_spec_l2Code_eq (by simp) rfl fun hg => ?_
  refine dr ?_
  refine cP (fun h1 => ?_) (fun h1 => ?_)
  · refine dEr ?_
    repeat (refine c0 (f_l2New W0 _ _) rfl ?_; first | refine dEr ?_ | exact dz)
    rw [codeT, if_pos h1]
  refine dr ?_
  refine cP (fun h2 => ?_) (fun h2 => ?_)
  · refine dEr ?_
    repeat (refine c0 (f_l2PutCode W0 _ _) rfl ?_; first | refine dEr ?_ | exact dz)
    rw [codeT, if_neg h1, if_pos h2]
  refine dr ?_
  refine cP (fun h3 => ?_) (fun h3 => ?_)
  · refine dEr ?_
    repeat (refine c0 (f_l2MoveCode W0 _ op ht) rfl ?_; first | refine dEr ?_ | exact dz)
    rw [codeT, if_neg h1, if_neg h2, if_pos h3]
  refine dEr ?_
  repeat (refine c0 (f_l2OffCode W0 _ op ht) rfl ?_; first | refine dEr ?_ | exact dz)
  rw [codeT, if_neg h1, if_neg h2, if_neg h3]
end Go.Proofs.YthblflnfhdnpdaaGreatDoor

namespace Go.Proofs.YthblflnfhdnpdaaGreatDoor
set_option linter.unusedSimpArgs false
set_option linter.unusedVariables false
open Go Go.RowKit
def c_spec_l2Off : XC := (.s (.r [.ex 4 (.asn (.k .nil) 3 59)]) (.s (.r [.ex 7 .bsl0, .ex 5 (.asn (.t 7) 3 59)]) (.s (.s (.r [.ex 6 (.mv (.i 0))]) (.blk 0 (.loop (.s (.s (.r [.mv 8 6, .mv 9 0, .ex 10 (.len false (.t 9)), .ex 11 (.bin .lss (.t 8) (.t 10))]) (.cnd (.t 11) .skip (.exit 0))) (.s (.blk 1 (.s (.r [.mv 14 0, .mv 15 6, .ex 16 (.ia 3 (.t 14) (.t 15)), .ex 17 (.fa 0 (.t 16)), .ex 18 (.ld false 1 (.t 17)), .mv 19 1, .ex 20 (.bin .neq (.t 18) (.t 19))]) (.cnd (.t 20) (.r [.mv 21 5, .mv 22 0, .mv 23 6, .ex 24 (.ia 3 (.t 22) (.t 23)), .ex 25 (.ld true 3 (.t 24)), .ex 26 (.bsl 3 59 [(.t 25)]), .ex 27 (.app false 3 40 59 (.t 21) (.t 26)), .ex 5 (.asn (.t 27) 3 59)]) .skip))) (.r [.mv 12 6, .ex 13 (.bin .add (.t 12) (.i 1)), .mv 6 13])))))) (.s (.r [.mv 28 5, .ex 4 (.asn (.t 28) 3 59)]) .ret))))
theorem c_spec_l2Off_eq : compF Tryz.prog [] 241 = some (c_spec_l2Off.ac, [(.t 4)], 29) := by kernel_rfl
theorem f_l2Off (W0 : World) (t : List Ent) (p : Str) (ht : t.length ≤ 1000000) : Fn Tryz.prog W0 241 [eEnts t, CS p] (.c (eEnts (offT t p))) [] := by
  refine fnX (c := c_spec_l2Off) mixed c_spec_l2Off_eq (by simp) rfl fun hg => ?_
  refine dr ?_
  refine lp2 (fun (k : Nat) (out : List Ent) => [(0, .c (eEnts t)), (1, .c (CS p)), (5, .own 80 out.length), (6, I k)]) (fun _ out => [(80, .row (out.map eEnt) 3 59)]) (fun k out => k ≤ t.length ∧ out = (t.take k).filter (fun e => e.path != p) ∧ out.length ≤ k) (fun k _ => t.length - k) 0 [] ⟨by simp, rfl, by simp⟩ ?_ ?_
  · refine dr ?_
    trivial
  rintro k out ⟨hk, ho, hle⟩
  refine dr ?_
  refine cP (fun h1 => ?_) (fun h1 => ?_)
  · have hk' : k < t.length := by omega
    refine dr ?_
    refine cP (fun h2 => ?_) (fun h2 => ?_)
    · refine dr ?_
      repeat ((first | refine oB (by simp; omega) ?_ | refine oB (by simp) ?_); first | refine dr ?_ | exact dz)
      refine ⟨k + 1, out ++ [t[k]], ⟨by omega, by rw [filt_t hk' (by simp [h2]), ho], by simp; omega⟩, by omega, ?_⟩
      refine dr ?_
      repeat (refine oB (by simp <;> rfl) ?_; first | refine dr ?_ | exact dz)
      trivial
    · refine dr ?_
      refine ⟨k + 1, out, ⟨by omega, by rw [filt_f hk' (by simp [h2]), ho], by omega⟩, by omega, ?_⟩
      refine dr ?_
      trivial
  have hkl : k = t.length := by omega
  rw [hkl, List.take_length] at ho
  refine dr ?_
  repeat (refine oB (by simp) ?_; first | refine dr ?_ | exact dz)
  rw [offT, ← ho] <;> rfl
def c_spec_l2Move : XC := (.s (.r [.ex 6 (.asn (.k .nil) 3 59)]) (.s (.r [.ex 10 .bsl0, .ex 7 (.asn (.t 10) 3 59)]) (.s (.s (.r [.ex 8 (.mv (.i 0))]) (.blk 0 (.loop (.s (.s (.r [.mv 11 8, .mv 12 0, .ex 13 (.len false (.t 12)), .ex 14 (.bin .lss (.t 11) (.t 13))]) (.cnd (.t 14) .skip (.exit 0))) (.s (.blk 1 (.s (.r [.mv 17 0, .mv 18 8, .ex 19 (.ia 3 (.t 17) (.t 18)), .ex 20 (.ld true 3 (.t 19)), .ex 9 (.alloc [(.c (.sc (.string ⟨#[]⟩))), (.c (.sc (.bool false))), (.c (.sc (.string ⟨#[]⟩)))]), .nu (.st 3 (.t 9) (.t 20))]) (.s (.r [.ex 22 (.fa 0 (.t 9)), .ex 23 (.ld false 1 (.t 22)), .mv 24 1, .mv 25 2, .ex 26 (.call 277 [(.t 23), (.t 24), (.t 25)]), .mv 21 26, .ex 27 (.ext (.t 21) 0), .ex 28 (.ext (.t 21) 1), .ex 29 (.fa 0 (.t 9)), .nu (.st 1 (.t 29) (.t 27))]) (.r [.mv 30 7, .ex 31 (.ld true 3 (.t 9)), .ex 32 (.call 239 [(.t 30), (.t 31)]), .ex 7 (.asn (.t 32) 3 59)])))) (.r [.mv 15 8, .ex 16 (.bin .add (.t 15) (.i 1)), .mv 8 16])))))) (.s (.r [.mv 33 7, .ex 6 (.asn (.t 33) 3 59)]) .ret))))
theorem c_spec_l2Move_eq : compF Tryz.prog [] 240 = some (c_spec_l2Move.ac, [(.t 6)], 34) := by kernel_rfl
theorem f_l2Move (W0 : World) (t : List Ent) (f to : Str) (ht : t.length ≤ 1000000) : Fn Tryz.prog W0 240 [eEnts t, CS f, CS to] (.c (eEnts (movT t f to))) [] := by
  refine fnX (c := c_spec_l2Move) mixed c_spec_l2Move_eq (by simp) rfl fun hg => ?_
  refine dr ?_
  refine lz2 112 (fun (k : Nat) (out : List Ent) => [(0, .c (eEnts t)), (1, .c (CS f)), (2, .c (CS to)), (7, .c (eEnts out)), (8, I k)]) (fun _ _ => []) (fun k out => k ≤ t.length ∧ out = (t.take k).foldl (fun out e => put out (movE f to e)) [] ∧ out.length ≤ k) (fun k _ => t.length - k) 0 [] ⟨by simp, rfl, by simp⟩ ?_ ?_
  · refine dr ?_
    trivial
  rintro k out ⟨hk, ho, hle⟩
  refine dr ?_
  refine cP (fun h1 => ?_) (fun h1 => ?_)
  · have hk' : k < t.length := by omega
    have hn : (t.take (k + 1)).foldl (fun out e => put out (movE f to e)) [] = put out (movE f to t[k]) := by rw [fold_next hk', ← ho]
    have hpl : (put out (movE f to t[k])).length ≤ out.length + 1 := putG_len
    have hp := f_spec_PathMove W0 t[k].path f to
    rw [eOpt_eq] at hp
    refine dEr ?_
    repeat ((first | refine c0 hp rfl ?_ | refine c0 (f_l2Put W0 _ (movE f to t[k]) (by omega)) rfl ?_); first | refine dEr ?_ | exact dz)
    refine ⟨k + 1, _, ⟨by omega, hn.symm, by omega⟩, by omega, ?_⟩
    refine dr ?_
    trivial
  have hkl : k = t.length := by omega
  rw [hkl, List.take_length] at ho
  refine dr ?_
  rw [movT, ← ho]
def c_spec_l2Do : XC := (.s (.r [.ex 3 (.box (.t 1)), .ex 4 (.asn (.k .nil) 3 59)]) (.s (.s (.r [.ex 5 (.fa 0 (.t 3)), .ex 6 (.ld false 1 (.t 5))]) (.blk 0 (.s (.r [.ex 8 (.bin .eql (.t 6) (.i 1)), .mv 7 8]) (.cnd (.t 7) (.s (.r [.mv 9 0, .ex 10 (.fa 1 (.t 3)), .ex 11 (.ld false 1 (.t 10)), .ex 12 (.build [(.c (.sc (.string ⟨#[]⟩))), (.c (.sc (.bool false))), (.c (.sc (.string ⟨#[]⟩)))] [(0, (1, (.t 11))), (1, (1, .y))]), .ex 13 (.call 239 [(.t 9), (.t 12)]), .ex 4 (.asn (.t 13) 3 59)]) .ret) (.s (.r [.ex 15 (.bin .eql (.t 6) (.i 2)), .mv 14 15]) (.cnd (.t 14) (.s (.r [.mv 16 0, .ex 17 (.fa 1 (.t 3)), .ex 18 (.ld false 1 (.t 17)), .ex 19 (.fa 3 (.t 3)), .ex 20 (.ld false 1 (.t 19)), .ex 21 (.build [(.c (.sc (.string ⟨#[]⟩))), (.c (.sc (.bool false))), (.c (.sc (.string ⟨#[]⟩)))] [(0, (1, (.t 18))), (2, (1, (.t 20)))]), .ex 22 (.call 239 [(.t 16), (.t 21)]), .ex 4 (.asn (.t 22) 3 59)]) .ret) (.s (.r [.ex 24 (.bin .eql (.t 6) (.i 5)), .mv 23 24]) (.cnd (.t 23) (.s (.r [.mv 25 0, .ex 26 (.fa 1 (.t 3)), .ex 27 (.ld false 1 (.t 26)), .ex 28 (.fa 2 (.t 3)), .ex 29 (.ld false 1 (.t 28)), .ex 30 (.call 240 [(.t 25), (.t 27), (.t 29)]), .ex 4 (.asn (.t 30) 3 59)]) .ret) .skip)))))))) (.s (.r [.mv 31 0, .ex 32 (.fa 1 (.t 3)), .ex 33 (.ld false 1 (.t 32)), .ex 34 (.call 241 [(.t 31), (.t 33)]), .ex 4 (.asn (.t 34) 3 59)]) .ret)))
theorem c_spec_l2Do_eq : compF Tryz.prog [] 163 = some (c_spec_l2Do.ac, [(.t 4)], 35) := by kernel_rfl
theorem f_l2Do (W0 : World) (t : List Ent) (op : Op) (ht : t.length ≤ 100000) : Fn Tryz.prog W0 163 [eEnts t, eOp op] (.c (eEnts (doT t op))) [] := by
  refine fnX (c := c_spec_l2Do) mixed c_spec_l2Do_eq (by simp) rfl fun hg => ?_
  refine dr ?_
  refine cP (fun h1 => ?_) (fun h1 => ?_)
  · refine dEr ?_
    repeat (refine c0 (f_l2Put W0 _ ⟨op.path, true, []⟩ (by omega)) rfl ?_; first | refine dEr ?_ | exact dz)
    rw [doT, if_pos h1]
  refine dr ?_
  refine cP (fun h2 => ?_) (fun h2 => ?_)
  · refine dEr ?_
    repeat (refine c0 (f_l2Put W0 _ ⟨op.path, false, op.data⟩ (by omega)) rfl ?_; first | refine dEr ?_ | exact dz)
    rw [doT, if_neg h1, if_pos h2]
  refine dr ?_
  refine cP (fun h3 => ?_) (fun h3 => ?_)
  · refine dEr ?_
    repeat (refine c0 (f_l2Move W0 _ _ _ (by omega)) rfl ?_; first | refine dEr ?_ | exact dz)
    rw [doT, if_neg h1, if_neg h2, if_pos h3]
  refine dEr ?_
  repeat (refine c0 (f_l2Off W0 _ _ (by omega)) rfl ?_; first | refine dEr ?_ | exact dz)
  rw [doT, if_neg h1, if_neg h2, if_neg h3]
def c_spec_TreeDo : XC := (.s (.r [.ex 3 (.box (.t 1)), .ex 4 (.asn (.k .nil) 3 59), .ex 5 (.mv (.i 0))]) (.s (.s (.r [.mv 7 0, .ex 8 (.call 160 [(.t 7)]), .ex 9 (.un .not (.t 8))]) (.cnd (.t 9) (.s (.r [.ex 10 .bsl0, .ex 4 (.asn (.t 10) 3 59), .ex 5 (.mv (.i 1))]) .ret) .skip)) (.s (.s (.r [.ex 11 (.ld true 4 (.t 3)), .ex 12 (.call 161 [(.t 11)]), .ex 13 (.un .not (.t 12))]) (.cnd (.t 13) (.s (.r [.ex 14 .bsl0, .mv 15 0, .ex 16 (.app true 3 40 59 (.t 14) (.t 15)), .ex 4 (.asn (.t 16) 3 59), .ex 5 (.mv (.i 1))]) .ret) .skip)) (.s (.r [.mv 17 0, .ex 18 (.ld true 4 (.t 3)), .ex 19 (.call 162 [(.t 17), (.t 18)]), .mv 6 19]) (.s (.s (.r [.mv 20 6, .ex 21 (.bin .neq (.t 20) (.i 0))]) (.cnd (.t 21) (.s (.r [.ex 22 .bsl0, .mv 23 0, .ex 24 (.app true 3 40 59 (.t 22) (.t 23)), .mv 25 6, .ex 4 (.asn (.t 24) 3 59), .mv 5 25]) .ret) .skip)) (.s (.r [.mv 26 0, .ex 27 (.ld true 4 (.t 3)), .ex 28 (.call 163 [(.t 26), (.t 27)]), .mv 29 6, .ex 4 (.asn (.t 28) 3 59), .mv 5 29]) .ret))))))
theorem c_spec_TreeDo_eq : compF Tryz.prog [] 70 = some (c_spec_TreeDo.ac, [(.t 4), (.t 5)], 30) := by kernel_rfl
theorem f_spec_TreeDo (W0 : World) (t : List Ent) (op : Op) : Fn Tryz.prog W0 70 [eEnts t, eOp op] (.c (eTD (treeDo t op))) [] := by
  refine fnX (c := c_spec_TreeDo) mixed c_spec_TreeDo_eq (by simp) rfl fun hg => ?_
  refine dEr ?_
  repeat (refine c0 (f_spec_TreeOk W0 _) rfl ?_; first | refine dEr ?_ | exact dz)
  refine cP (fun h1 => ?_) (fun h1 => ?_)
  · refine dr ?_
    repeat (refine oB (by simp) ?_; first | refine dr ?_ | exact dz)
    rw [treeDo, if_neg (by simp [h1])] <;> rfl
  have hl := (tOk_at h1).1
  rw [treeDo, if_pos h1]
  refine dEr ?_
  repeat (refine c0 (f_spec_OpOk W0 op) rfl ?_; first | refine dEr ?_ | exact dz)
  refine cP (fun h2 => ?_) (fun h2 => ?_)
  · refine dr ?_
    repeat ((first | refine oB (by simp; omega) ?_ | refine oB (by simp) ?_); first | refine dr ?_ | exact dz)
    rw [if_neg (by simp [h2])] <;> rfl
  rw [if_pos h2]
  refine dEr ?_
  repeat (refine c0 (f_l2Code W0 t op (by omega)) rfl ?_; first | refine dEr ?_ | exact dz)
  refine cP (fun h3 => ?_) (fun h3 => ?_)
  · refine dr ?_
    repeat ((first | refine oB (by simp; omega) ?_ | refine oB (by simp) ?_); first | refine dr ?_ | exact dz)
    rw [if_neg h3] <;> rfl
  · refine dEr ?_
    repeat (refine c0 (f_l2Do W0 t op (by omega)) rfl ?_; first | refine dEr ?_ | exact dz)
    rw [if_pos h3, h3] <;> rfl
end Go.Proofs.YthblflnfhdnpdaaGreatDoor

namespace Go.Proofs.YthblflnfhdnpdaaGreatDoor
set_option linter.unusedSimpArgs false
set_option linter.unusedVariables false
open Go Go.RowKit
def c_spec_l3Find : XC := (.s (.r [.ex 4 (.mv (.i 0))]) (.s (.s (.r [.ex 5 (.mv (.i 0))]) (.blk 0 (.loop (.s (.s (.r [.mv 6 5, .mv 7 0, .ex 8 (.len false (.t 7)), .ex 9 (.bin .lss (.t 6) (.t 8))]) (.cnd (.t 9) .skip (.exit 0))) (.s (.blk 1 (.s (.r [.mv 12 0, .mv 13 5, .ex 14 (.ia 3 (.t 12) (.t 13)), .ex 15 (.fa 0 (.t 14)), .ex 16 (.ld false 1 (.t 15)), .mv 17 1, .ex 18 (.bin .eql (.t 16) (.t 17))]) (.cnd (.t 18) (.s (.r [.mv 19 5, .mv 4 19]) .ret) .skip))) (.r [.mv 10 5, .ex 11 (.bin .add (.t 10) (.i 1)), .mv 5 11])))))) (.s (.r [.ex 4 (.mv (.k (.c (.sc (.int .i64 (.negSucc 0))))))]) .ret)))
theorem c_spec_l3Find_eq : compF Tryz.prog [] 271 = some (c_spec_l3Find.ac, [(.t 4)], 20) := by kernel_rfl
theorem f_l3Find (W0 : World) (t : List Mark) (p : Str) : Fn Tryz.prog W0 271 [eMarks t, CS p] (.c (CI (midx t p))) [] := by
  refine fnX (c := c_spec_l3Find) mixed c_spec_l3Find_eq (by simp) rfl fun hg => ?_
  have g1 := goodRow (hg _ (by simp : eMarks t ∈ _))
  refine dr ?_
  refine lp (σ := Nat) (fun k => [(0, .c (eMarks t)), (1, .c (CS p)), (5, I k)]) (fun _ => []) (fun k => k ≤ t.length ∧ ∀ i (h' : i < t.length), i < k → t[i].path ≠ p) (fun k => t.length - k) 0 ⟨by simp, by simp⟩ ?_ ?_
  · refine dr ?_
    trivial
  rintro k ⟨hk, ha⟩
  refine dr ?_
  refine cP (fun h1 => ?_) (fun h1 => ?_)
  · refine dr ?_
    refine cP (fun h2 => ?_) (fun h2 => ?_)
    · refine dr ?_
      rw [midx_of_first (by omega) h2 ha]
    · refine dr ?_
      refine ⟨k + 1, ⟨by omega, fun i h' hi => ?_⟩, by omega, ?_⟩
      · by_cases e : i = k
        · subst e; exact h2
        · exact ha i h' (by omega)
      · refine dr ?_
        trivial
  · refine dr ?_
    rw [midx_of_none fun i h' => ha i h' (by omega)]; rfl
def c_spec_l3Kind : XC := (.s (.r [.ex 4 (.mv (.i 0))]) (.s (.r [.mv 6 0, .mv 7 1, .ex 8 (.call 271 [(.t 6), (.t 7)]), .mv 5 8]) (.s (.s (.r [.mv 9 5, .ex 10 (.bin .lss (.t 9) (.i 0))]) (.cnd (.t 10) (.s (.r [.ex 4 (.mv (.i 0))]) .ret) .skip)) (.s (.r [.mv 11 0, .mv 12 5, .ex 13 (.ia 3 (.t 11) (.t 12)), .ex 14 (.fa 1 (.t 13)), .ex 15 (.ld false 1 (.t 14)), .mv 4 15]) .ret))))
theorem c_spec_l3Kind_eq : compF Tryz.prog [] 224 = some (c_spec_l3Kind.ac, [(.t 4)], 16) := by kernel_rfl
theorem f_l3Kind (W0 : World) (t : List Mark) (p : Str) : Fn Tryz.prog W0 224 [eMarks t, CS p] (.c (CI (kind t p))) [] := by
  refine fnX (c := c_spec_l3Kind) mixed c_spec_l3Kind_eq (by simp) rfl fun hg => ?_
  refine dr ?_
  repeat (refine c0 (f_l3Find W0 t p) rfl ?_; first | refine dr ?_ | exact dz)
  intro hg1
  rcases midx_cases t p with ⟨e1, e2, _⟩ | ⟨j, hj, e1, e2, _⟩
  · rw [kind, e1, e2]
    refine dr ?_
    refine cP (fun h2 => ?_) (fun h2 => ?_)
    · exact dz
    · omega
  · rw [kind, e1, e2]
    refine dr ?_
    refine cP (fun h2 => ?_) (fun h2 => ?_)
    · omega
    · exact dz
def c_spec_l3Bare : XC := (.s (.r [.ex 4 (.mv .n)]) (.s (.s (.r [.ex 5 (.mv (.i 0))]) (.blk 0 (.loop (.s (.s (.r [.mv 6 5, .mv 7 0, .ex 8 (.len false (.t 7)), .ex 9 (.bin .lss (.t 6) (.t 8))]) (.cnd (.t 9) .skip (.exit 0))) (.s (.blk 1 (.s (.r [.mv 12 0, .mv 13 5, .ex 14 (.ia 3 (.t 12) (.t 13)), .ex 15 (.fa 1 (.t 14)), .ex 16 (.ld false 1 (.t 15)), .ex 17 (.bin .eql (.t 16) (.i 4)), .mv 18 17, .gt 19 (.mv (.t 1)) 18, .gt 20 (.mv (.t 0)) 18, .gt 21 (.mv (.t 5)) 18, .gt 22 (.ia 3 (.t 20) (.t 21)) 18, .gt 23 (.fa 0 (.t 22)) 18, .gt 24 (.ld false 1 (.t 23)) 18, .gt 25 (.call 270 [(.t 19), (.t 24)]) 18, .ex 26 (.pick (.t 18) (.t 25) .n)]) (.cnd (.t 26) (.s (.r [.ex 4 (.mv .y)]) .ret) .skip))) (.r [.mv 10 5, .ex 11 (.bin .add (.t 10) (.i 1)), .mv 5 11])))))) (.s (.r [.ex 4 (.mv .n)]) .ret)))
theorem c_spec_l3Bare_eq : compF Tryz.prog [] 222 = some (c_spec_l3Bare.ac, [(.t 4)], 27) := by kernel_rfl
theorem f_l3Bare (W0 : World) (t : List Mark) (p : Str) : Fn Tryz.prog W0 222 [eMarks t, CS p] (.c (CB (bare t p))) [] := by
  refine fnX (c := c_spec_l3Bare) mixed c_spec_l3Bare_eq (by simp) rfl fun hg => ?_
  have g1 := goodRow (hg _ (by simp : eMarks t ∈ _))
  refine dr ?_
  refine lp (σ := Nat) (fun k => [(0, .c (eMarks t)), (1, .c (CS p)), (5, I k)]) (fun _ => []) (fun k => k ≤ t.length ∧ bare (t.take k) p = false) (fun k => t.length - k) 0 ⟨by simp, by simp [bare]⟩ ?_ ?_
  · refine dr ?_
    trivial
  rintro k ⟨hk, ha⟩
  refine dr ?_
  refine cP (fun h1 => ?_) (fun h1 => ?_)
  · have hk' : k < t.length := by omega
    have no : (t[k].kind == 4 && und p t[k].path) = false → bare (t.take (k + 1)) p = false := fun h => by
      rw [bare] at ha ⊢
      rw [List.take_succ_eq_append_getElem hk', List.any_append, ha]; simpa using h
    have yes : (t[k].kind == 4 && und p t[k].path) = true → CB true = CB (bare t p) := fun h => bT (by
      rw [bare, List.any_eq_true]; exact ⟨t[k], List.getElem_mem hk', h⟩)
    refine dr ?_
    refine cP (fun h2 => ?_) (fun h2 => ?_)
    · refine dEr ?_
      repeat (refine c0 (f_l1Under W0 _ _) rfl ?_; first | refine dEr ?_ | exact dz)
      refine cP (fun h3 => ?_) (fun h3 => ?_)
      · refine dr ?_
        exact yes (by simp [h2, h3])
      · refine dr ?_
        refine ⟨k + 1, ⟨by omega, no (by simp [h3])⟩, by omega, ?_⟩
        refine dr ?_
        trivial
    · refine dr ?_
      refine ⟨k + 1, ⟨by omega, no (by simp [h2])⟩, by omega, ?_⟩
      refine dr ?_
      trivial
  · refine dr ?_
    have : k = t.length := by omega
    subst this
    rw [List.take_length] at ha
    rw [ha]
def c_spec_l3In : XC := (.s (.r [.ex 4 (.mv .n)]) (.s (.r [.mv 7 1, .ex 8 (.call 167 [(.t 7)]), .mv 5 8]) (.s (.r [.mv 9 0, .mv 10 5, .ex 11 (.call 224 [(.t 9), (.t 10)]), .mv 6 11]) (.s (.r [.mv 12 5, .ex 13 (.bin .eql (.t 12) (.s [47])), .mv 14 13, .gf 15 (.mv (.t 6)) 14, .gf 16 (.bin .eql (.t 15) (.i 2)) 14, .ex 17 (.pick (.t 14) .y (.t 16)), .mv 18 17, .gf 19 (.mv (.t 6)) 18, .gf 20 (.bin .eql (.t 19) (.i 4)) 18, .ex 21 (.pick (.t 18) .y (.t 20)), .mv 4 21]) .ret))))
theorem c_spec_l3In_eq : compF Tryz.prog [] 221 = some (c_spec_l3In.ac, [(.t 4)], 22) := by kernel_rfl
theorem f_l3In (W0 : World) (t : List Mark) (p : Str) : Fn Tryz.prog W0 221 [eMarks t, CS p] (.c (CB (inD t p))) [] := by
  refine fnX (c := c_spec_l3In) mixed c_spec_l3In_eq (by simp) rfl fun hg => ?_
  refine dr ?_
  repeat (refine c0 (f_spec_PathUp W0 _) rfl ?_; first | refine dr ?_ | exact dz)
  intro hg1
  refine dr ?_
  repeat (refine c0 (f_l3Kind W0 _ _) rfl ?_; first | refine dr ?_ | exact dz)
  intro hg1
  refine dr ?_
  refine cP (fun h1 => ?_) (fun h1 => ?_)
  · refine dr ?_
    exact bT (by simp [inD, h1])
  · refine dr ?_
    refine cP (fun h2 => ?_) (fun h2 => ?_)
    · refine dr ?_
      exact bT (by simp [inD, h2])
    · refine dr ?_
      refine congrArg CB ?_
      rw [Bool.eq_iff_iff]; simp [inD, h1, h2, eqI_d]
def c_spec_l3Hides : XC := (.s (.r [.ex 4 (.mv .n)]) (.s (.s (.r [.ex 5 (.mv (.i 0))]) (.blk 0 (.loop (.s (.s (.r [.mv 6 5, .mv 7 0, .ex 8 (.len false (.t 7)), .ex 9 (.bin .lss (.t 6) (.t 8))]) (.cnd (.t 9) .skip (.exit 0))) (.s (.blk 1 (.s (.r [.mv 12 0, .mv 13 5, .ex 14 (.ia 3 (.t 12) (.t 13)), .ex 15 (.fa 0 (.t 14)), .ex 16 (.ld false 1 (.t 15)), .mv 17 1, .ex 18 (.bin .eql (.t 16) (.t 17)), .mv 19 18, .gt 20 (.mv (.t 0)) 19, .gt 21 (.mv (.t 5)) 19, .gt 22 (.ia 3 (.t 20) (.t 21)) 19, .gt 23 (.fa 1 (.t 22)) 19, .gt 24 (.ld false 1 (.t 23)) 19, .gt 25 (.bin .neq (.t 24) (.i 2)) 19, .ex 26 (.pick (.t 19) (.t 25) .n), .mv 27 26, .gf 28 (.mv (.t 0)) 27, .gf 29 (.mv (.t 5)) 27, .gf 30 (.ia 3 (.t 28) (.t 29)) 27, .gf 31 (.fa 1 (.t 30)) 27, .gf 32 (.ld false 1 (.t 31)) 27, .gf 33 (.bin .neq (.t 32) (.i 2)) 27, .gf 34 (.mv (.t 33)) 27, .gt 35 (.mv (.t 1)) 34, .gt 36 (.mv (.t 0)) 34, .gt 37 (.mv (.t 5)) 34, .gt 38 (.ia 3 (.t 36) (.t 37)) 34, .gt 39 (.fa 0 (.t 38)) 34, .gt 40 (.ld false 1 (.t 39)) 34, .gt 41 (.call 270 [(.t 35), (.t 40)]) 34, .gf 42 (.pick (.t 34) (.t 41) .n) 27, .ex 43 (.pick (.t 27) .y (.t 42))]) (.cnd (.t 43) (.s (.r [.ex 4 (.mv .y)]) .ret) .skip))) (.r [.mv 10 5, .ex 11 (.bin .add (.t 10) (.i 1)), .mv 5 11])))))) (.s (.r [.ex 4 (.mv .n)]) .ret)))
theorem c_spec_l3Hides_eq : compF Tryz.prog [] 223 = some (c_spec_l3Hides.ac, [(.t 4)], 44) := by kernel_rfl
theorem f_l3Hides (W0 : World) (t : List Mark) (p : Str) : Fn Tryz.prog W0 223 [eMarks t, CS p] (.c (CB (hides t p))) [] := by
  refine fnX (c := c_spec_l3Hides) mixed c_spec_l3Hides_eq (by simp) rfl fun hg => ?_
  have g1 := goodRow (hg _ (by simp : eMarks t ∈ _))
  refine dr ?_
  refine lp (σ := Nat) (fun k => [(0, .c (eMarks t)), (1, .c (CS p)), (5, I k)]) (fun _ => []) (fun k => k ≤ t.length ∧ hides (t.take k) p = false) (fun k => t.length - k) 0 ⟨by simp, by simp [hides]⟩ ?_ ?_
  · refine dr ?_
    trivial
  rintro k ⟨hk, ha⟩
  refine dr ?_
  refine cP (fun h1 => ?_) (fun h1 => ?_)
  · have hk' : k < t.length := by omega
    have no : hidP p t[k] = false → hides (t.take (k + 1)) p = false := fun h => by
      rw [hides] at ha ⊢
      rw [List.take_succ_eq_append_getElem hk', List.any_append, ha]; simpa using h
    have yes : hidP p t[k] = true → CB true = CB (hides t p) := fun h => bT (by
      rw [hides, List.any_eq_true]; exact ⟨t[k], List.getElem_mem hk', h⟩)
    refine dr ?_
    have nx : hidP p t[k] = false → ∃ x', (x' ≤ t.length ∧ hides (t.take x') p = false) ∧ x' = k + 1 := fun h => ⟨k + 1, ⟨by omega, no h⟩, rfl⟩
    refine cP (fun h2 => ?_) (fun h2 => ?_)
    · refine dr ?_
      refine cP (fun h3 => ?_) (fun h3 => ?_)
      · refine dr ?_
        exact yes (by simp [hidP, h2, h3])
      · refine dr ?_
        refine cP (fun h4 => ?_) (fun h4 => ?_)
        · omega
        · refine dr ?_
          refine ⟨k + 1, ⟨by omega, no (by simp [hidP, h3])⟩, by omega, ?_⟩
          refine dr ?_
          trivial
    · refine dr ?_
      refine cP (fun h3 => ?_) (fun h3 => ?_)
      · refine dEr ?_
        repeat (refine c0 (f_l1Under W0 _ _) rfl ?_; first | refine dEr ?_ | exact dz)
        refine cP (fun h5 => ?_) (fun h5 => ?_)
        · refine dr ?_
          exact yes (by simp [hidP, h3, h5])
        · refine dr ?_
          refine ⟨k + 1, ⟨by omega, no (by simp [hidP, h2, h5])⟩, by omega, ?_⟩
          refine dr ?_
          trivial
      · refine dr ?_
        refine ⟨k + 1, ⟨by omega, no (by simp [hidP, h3])⟩, by omega, ?_⟩
        refine dr ?_
        trivial
  · refine dr ?_
    have : k = t.length := by omega
    subst this
    rw [List.take_length] at ha
    rw [ha]
def c_spec_LayerOk : XC := (.s (.r [.ex 2 (.mv .n)]) (.s (.s (.r [.ex 3 (.mv (.i 0))]) (.blk 0 (.loop (.s (.s (.r [.mv 5 3, .mv 6 0, .ex 7 (.len false (.t 6)), .ex 8 (.bin .lss (.t 5) (.t 7))]) (.cnd (.t 8) .skip (.exit 0))) (.s (.blk 1 (.s (.r [.mv 11 0, .mv 12 3, .ex 13 (.ia 3 (.t 11) (.t 12)), .ex 14 (.ld true 3 (.t 13)), .ex 4 (.alloc [(.c (.sc (.string ⟨#[]⟩))), (.c (.sc (.int .i64 0))), (.c (.sc (.string ⟨#[]⟩)))]), .nu (.st 3 (.t 4) (.t 14))]) (.s (.s (.r [.ex 15 (.fa 1 (.t 4)), .ex 16 (.ld false 1 (.t 15)), .ex 17 (.bin .lss (.t 16) (.i 1)), .mv 18 17, .gf 19 (.fa 1 (.t 4)) 18, .gf 20 (.ld false 1 (.t 19)) 18, .gf 21 (.bin .gtr (.t 20) (.i 4)) 18, .ex 22 (.pick (.t 18) .y (.t 21)), .mv 23 22, .gf 24 (.fa 0 (.t 4)) 23, .gf 25 (.ld false 1 (.t 24)) 23, .gf 26 (.call 175 [(.t 25)]) 23, .gf 27 (.un .not (.t 26)) 23, .ex 28 (.pick (.t 23) .y (.t 27)), .mv 29 28, .gf 30 (.fa 2 (.t 4)) 29, .gf 31 (.ld false 1 (.t 30)) 29, .gf 32 (.call 220 [(.t 31)]) 29, .gf 33 (.un .not (.t 32)) 29, .ex 34 (.pick (.t 29) .y (.t 33)), .mv 35 34, .gf 36 (.fa 1 (.t 4)) 35, .gf 37 (.ld false 1 (.t 36)) 35, .gf 38 (.bin .neq (.t 37) (.i 1)) 35, .gf 39 (.mv (.t 38)) 35, .gt 40 (.fa 2 (.t 4)) 39, .gt 41 (.ld false 1 (.t 40)) 39, .gt 42 (.bin .neq (.t 41) (.s [])) 39, .gf 43 (.pick (.t 39) (.t 42) .n) 35, .ex 44 (.pick (.t 35) .y (.t 43))]) (.cnd (.t 44) (.s (.r [.ex 2 (.mv .n)]) .ret) .skip)) (.s (.s (.d [.mv 45 3, .ex 46 (.bin .gtr (.t 45) (.i 0)), .mv 47 46, .gt 48 (.mv (.t 0)) 47, .gt 49 (.mv (.t 3)) 47, .gt 50 (.bin .sub (.t 49) (.i 1)) 47, .gt 51 (.ia 3 (.t 48) (.t 50)) 47, .gt 52 (.fa 0 (.t 51)) 47, .gt 53 (.ld false 1 (.t 52)) 47, .gt 54 (.fa 0 (.t 4)) 47, .gt 55 (.ld false 1 (.t 54)) 47, .gt 56 (.bin .geq (.t 53) (.t 55)) 47, .ex 57 (.pick (.t 47) (.t 56) .n), .mv 58 57, .gf 59 (.mv (.t 0)) 58, .gf 60 (.mv (.t 3)) 58, .gf 61 (.slr 3 (.t 59) .none (.some (.t 60))) 58, .gf 62 (.fa 0 (.t 4)) 58, .gf 63 (.ld false 1 (.t 62)) 58, .gf 64 (.call 221 [(.t 61), (.t 63)]) 58, .gf 65 (.un .not (.t 64)) 58, .ex 66 (.pick (.t 58) .y (.t 65))]) (.cnd (.t 66) (.s (.r [.ex 2 (.mv .n)]) .ret) .skip)) (.s (.d [.ex 67 (.fa 1 (.t 4)), .ex 68 (.ld false 1 (.t 67)), .ex 69 (.bin .gtr (.t 68) (.i 2)), .mv 70 69, .gt 71 (.mv (.t 0)) 70, .gt 72 (.mv (.t 3)) 70, .gt 73 (.slr 3 (.t 71) .none (.some (.t 72))) 70, .gt 74 (.fa 0 (.t 4)) 70, .gt 75 (.ld false 1 (.t 74)) 70, .gt 76 (.call 222 [(.t 73), (.t 75)]) 70, .ex 77 (.pick (.t 70) (.t 76) .n)]) (.cnd (.t 77) (.s (.r [.ex 2 (.mv .n)]) .ret) .skip)))))) (.r [.mv 9 3, .ex 10 (.bin .add (.t 9) (.i 1)), .mv 3 10])))))) (.s (.r [.mv 78 0, .ex 79 (.len false (.t 78)), .ex 80 (.bin .leq (.t 79) (.i 32)), .mv 2 80]) .ret)))
theorem c_spec_LayerOk_eq : compF Tryz.prog [] 149 = some (c_spec_LayerOk.ac, [(.t 2)], 81) := by kernel_rfl
theorem f_spec_LayerOk (W0 : World) (t : List Mark) : Fn Tryz.prog W0 149 [eMarks t] (.c (CB (lOk t))) [] := by
  refine fnX (c := c_spec_LayerOk) mixed c_spec_LayerOk_eq (by simp) rfl fun hg => ?_
  have g1 := goodRow (hg _ (by simp : eMarks t ∈ _))
  refine dr ?_
  refine lp (σ := Nat) (fun k => [(0, .c (eMarks t)), (3, I k)]) (fun _ => []) (fun k => k ≤ t.length ∧ ∀ j (h : j < t.length), j < k → mok1 (t.take j) t[j] = true) (fun k => t.length - k) 0 ⟨by simp, by simp⟩ ?_ ?_
  · refine dr ?_
    trivial
  rintro k ⟨hk, ha⟩
  refine dr ?_
  refine cP (fun h2 => ?_) (fun h2 => ?_)
  rotate_left
  · refine dr ?_
    refine congrArg CB ?_
    rw [lOk, mokA0.2 fun j h => ha j h (by omega), Bool.eq_iff_iff]; simp [leI_d]; omega
  have hk' : k < t.length := by omega
  have no : mok1 (t.take k) t[k] = false → CB false = CB (lOk t) := fun h => bF (by
    rw [lOk, Bool.and_eq_false_iff]; right
    rw [Bool.eq_false_iff]; intro e
    have := mokA0.1 e k hk'
    rw [h] at this; cases this)
  refine dr ?_
  refine cP (fun h3 => ?_) (fun h3 => ?_)
  · refine dr ?_
    exact no (by simp [mok1]; omega)
  refine dr ?_
  refine cP (fun h4 => ?_) (fun h4 => ?_)
  · refine dr ?_
    exact no (by simp [mok1]; omega)
  have h34 : (decide (1 ≤ t[k].kind) && decide (t[k].kind ≤ 4)) = true := by simp; omega
  refine dr ?_
  repeat (refine c0 (f_spec_PathOk W0 _) rfl ?_; first | refine dr ?_ | exact dz)
  refine cP (fun h5 => ?_) (fun h5 => ?_)
  · refine dr ?_
    exact no (by simp [mok1, h5])
  refine dr ?_
  repeat (refine c0 (f_l2Data W0 _) rfl ?_; first | refine dr ?_ | exact dz)
  refine cP (fun h6 => ?_) (fun h6 => ?_)
  · refine dr ?_
    exact no (by simp [mok1, h6])
  refine dr ?_
  refine cP (fun h70 => ?_) (fun h70 => ?_)
  · refine dr ?_
    refine cP (fun h71 => ?_) (fun h71 => ?_)
    · refine dr ?_
      exact no (by simp [mok1, h70, h71])
    · have h7 : (!(t[k].kind != 1 && t[k].data != [])) = true := by simp [h71]
      clear h71
      refine dr ?_
      refine cP (fun h8 => ?_) (fun h8 => ?_)
      · have hl : (t.take k).getLast? = some t[k - 1] := by
          rw [List.getLast?_take, if_neg (by omega), List.getElem?_eq_getElem (by omega)]
          rfl
        refine dr ?_
        repeat (refine aM (j := k - 1) (by omega) (by omega) ?_; first | refine dr ?_ | exact dz)
        cases hlt : ltS t[k - 1].path t[k].path
        · refine dr ?_
          exact no (by simp [mok1, mlast, hl, hlt])
        · have hlast : mlast (t.take k) t[k].path = true := by rw [mlast, hl]; exact hlt
          refine dEr ?_
          repeat ((first | refine sHiM k rfl (by omega) ?_ | refine c0 (f_l3In W0 (t.take k) _) rfl ?_); first | refine dEr ?_ | exact dz)
          refine cP (fun h9 => ?_) (fun h9 => ?_)
          · refine dr ?_
            exact no (by simp [mok1, h9])
          · refine dr ?_
            refine cP (fun h10 => ?_) (fun h10 => ?_)
            · refine dEr ?_
              repeat ((first | refine sHiM k rfl (by omega) ?_ | refine c0 (f_l3Bare W0 (t.take k) _) rfl ?_); first | refine dEr ?_ | exact dz)
              refine cP (fun h11 => ?_) (fun h11 => ?_)
              · refine dr ?_
                exact no (by simp [mok1, h10, h11])
              · refine dr ?_
                refine ⟨k + 1, ⟨by omega, fun j h hj => ?_⟩, by omega, ?_⟩
                · by_cases e : j = k
                  · subst e; rw [mok1, h34, h5, h6, h7, hlast, h9, h11]; simp
                  · exact ha j h (by omega)
                · refine dr ?_
                  trivial
            · refine dr ?_
              refine ⟨k + 1, ⟨by omega, fun j h hj => ?_⟩, by omega, ?_⟩
              · by_cases e : j = k
                · subst e; rw [mok1, h34, h5, h6, h7, hlast, h9]; simp; omega
                · exact ha j h (by omega)
              · refine dr ?_
                trivial
      · have hlast : mlast (t.take k) t[k].path = true := by
          have hk0 : k = 0 := by omega
          subst hk0; rfl
        refine dEr ?_
        repeat ((first | refine sHiM k rfl (by omega) ?_ | refine c0 (f_l3In W0 (t.take k) _) rfl ?_); first | refine dEr ?_ | exact dz)
        refine cP (fun h9 => ?_) (fun h9 => ?_)
        · refine dr ?_
          exact no (by simp [mok1, h9])
        · refine dr ?_
          refine cP (fun h10 => ?_) (fun h10 => ?_)
          · refine dEr ?_
            repeat ((first | refine sHiM k rfl (by omega) ?_ | refine c0 (f_l3Bare W0 (t.take k) _) rfl ?_); first | refine dEr ?_ | exact dz)
            refine cP (fun h11 => ?_) (fun h11 => ?_)
            · refine dr ?_
              exact no (by simp [mok1, h10, h11])
            · refine dr ?_
              refine ⟨k + 1, ⟨by omega, fun j h hj => ?_⟩, by omega, ?_⟩
              · by_cases e : j = k
                · subst e; rw [mok1, h34, h5, h6, h7, hlast, h9, h11]; simp
                · exact ha j h (by omega)
              · refine dr ?_
                trivial
          · refine dr ?_
            refine ⟨k + 1, ⟨by omega, fun j h hj => ?_⟩, by omega, ?_⟩
            · by_cases e : j = k
              · subst e; rw [mok1, h34, h5, h6, h7, hlast, h9]; simp; omega
              · exact ha j h (by omega)
            · refine dr ?_
              trivial
  · have h7 : (!(t[k].kind != 1 && t[k].data != [])) = true := by simp [h70]
    refine dr ?_
    refine cP (fun h8 => ?_) (fun h8 => ?_)
    · have hl : (t.take k).getLast? = some t[k - 1] := by
        rw [List.getLast?_take, if_neg (by omega), List.getElem?_eq_getElem (by omega)]
        rfl
      refine dr ?_
      repeat (refine aM (j := k - 1) (by omega) (by omega) ?_; first | refine dr ?_ | exact dz)
      cases hlt : ltS t[k - 1].path t[k].path
      · refine dr ?_
        exact no (by simp [mok1, mlast, hl, hlt])
      · have hlast : mlast (t.take k) t[k].path = true := by rw [mlast, hl]; exact hlt
        refine dEr ?_
        repeat ((first | refine sHiM k rfl (by omega) ?_ | refine c0 (f_l3In W0 (t.take k) _) rfl ?_); first | refine dEr ?_ | exact dz)
        refine cP (fun h9 => ?_) (fun h9 => ?_)
        · refine dr ?_
          exact no (by simp [mok1, h9])
        · refine dr ?_
          refine cP (fun h10 => ?_) (fun h10 => ?_)
          · refine dEr ?_
            repeat ((first | refine sHiM k rfl (by omega) ?_ | refine c0 (f_l3Bare W0 (t.take k) _) rfl ?_); first | refine dEr ?_ | exact dz)
            refine cP (fun h11 => ?_) (fun h11 => ?_)
            · refine dr ?_
              exact no (by simp [mok1, h10, h11])
            · refine dr ?_
              refine ⟨k + 1, ⟨by omega, fun j h hj => ?_⟩, by omega, ?_⟩
              · by_cases e : j = k
                · subst e; rw [mok1, h34, h5, h6, h7, hlast, h9, h11]; simp
                · exact ha j h (by omega)
              · refine dr ?_
                trivial
          · refine dr ?_
            refine ⟨k + 1, ⟨by omega, fun j h hj => ?_⟩, by omega, ?_⟩
            · by_cases e : j = k
              · subst e; rw [mok1, h34, h5, h6, h7, hlast, h9]; simp; omega
              · exact ha j h (by omega)
            · refine dr ?_
              trivial
    · have hlast : mlast (t.take k) t[k].path = true := by
        have hk0 : k = 0 := by omega
        subst hk0; rfl
      refine dEr ?_
      repeat ((first | refine sHiM k rfl (by omega) ?_ | refine c0 (f_l3In W0 (t.take k) _) rfl ?_); first | refine dEr ?_ | exact dz)
      refine cP (fun h9 => ?_) (fun h9 => ?_)
      · refine dr ?_
        exact no (by simp [mok1, h9])
      · refine dr ?_
        refine cP (fun h10 => ?_) (fun h10 => ?_)
        · refine dEr ?_
          repeat ((first | refine sHiM k rfl (by omega) ?_ | refine c0 (f_l3Bare W0 (t.take k) _) rfl ?_); first | refine dEr ?_ | exact dz)
          refine cP (fun h11 => ?_) (fun h11 => ?_)
          · refine dr ?_
            exact no (by simp [mok1, h10, h11])
          · refine dr ?_
            refine ⟨k + 1, ⟨by omega, fun j h hj => ?_⟩, by omega, ?_⟩
            · by_cases e : j = k
              · subst e; rw [mok1, h34, h5, h6, h7, hlast, h9, h11]; simp
              · exact ha j h (by omega)
            · refine dr ?_
              trivial
        · refine dr ?_
          refine ⟨k + 1, ⟨by omega, fun j h hj => ?_⟩, by omega, ?_⟩
          · by_cases e : j = k
            · subst e; rw [mok1, h34, h5, h6, h7, hlast, h9]; simp; omega
            · exact ha j h (by omega)
          · refine dr ?_
            trivial
end Go.Proofs.YthblflnfhdnpdaaGreatDoor

namespace Go.Proofs.YthblflnfhdnpdaaGreatDoor
set_option linter.unusedSimpArgs false
set_option linter.unusedVariables false
open Go Go.RowKit
def c_spec_LayerSame : XC := (.s (.r [.ex 4 (.mv .n)]) (.s (.s (.r [.mv 6 0, .ex 7 (.len false (.t 6)), .mv 8 1, .ex 9 (.len false (.t 8)), .ex 10 (.bin .neq (.t 7) (.t 9))]) (.cnd (.t 10) (.s (.r [.ex 4 (.mv .n)]) .ret) .skip)) (.s (.s (.r [.ex 5 (.mv (.i 0))]) (.blk 0 (.loop (.s (.s (.r [.mv 11 5, .mv 12 0, .ex 13 (.len false (.t 12)), .ex 14 (.bin .lss (.t 11) (.t 13))]) (.cnd (.t 14) .skip (.exit 0))) (.s (.blk 1 (.s (.d [.mv 17 0, .mv 18 5, .ex 19 (.ia 3 (.t 17) (.t 18)), .ex 20 (.ld true 3 (.t 19)), .mv 21 1, .mv 22 5, .ex 23 (.ia 3 (.t 21) (.t 22)), .ex 24 (.ld true 3 (.t 23)), .ex 25 (.beq true [.s, (.i .i64), .s] (.t 20) (.t 24))]) (.cnd (.t 25) (.s (.r [.ex 4 (.mv .n)]) .ret) .skip))) (.r [.mv 15 5, .ex 16 (.bin .add (.t 15) (.i 1)), .mv 5 16])))))) (.s (.r [.ex 4 (.mv .y)]) .ret))))
theorem c_spec_LayerSame_eq : compF Tryz.prog [] 73 = some (c_spec_LayerSame.ac, [(.t 4)], 26) := by kernel_rfl
theorem f_spec_LayerSame (W0 : World) (a b : List Mark) : Fn Tryz.prog W0 73 [eMarks a, eMarks b] (.c (CB (decide (a = b)))) [] := by
  refine fnX (c := c_spec_LayerSame) mixed c_spec_LayerSame_eq (by simp) rfl fun hg => ?_
  have g1 := goodRow (hg _ (by simp : eMarks a ∈ _))
  refine dr ?_
  refine cP (fun h1 => ?_) (fun h1 => ?_)
  · conv => whnf
    exact dF (ne_len (by omega))
  conv => whnf
  refine lp (σ := Nat) (fun k => [(0, .c (eMarks a)), (1, .c (eMarks b)), (5, I k)]) (fun _ => []) (fun k => k ≤ a.length ∧ a.take k = b.take k) (fun k => a.length - k) 0 ⟨by simp, by simp⟩ ?_ ?_
  · refine dr ?_
    trivial
  rintro k ⟨hk, he⟩
  refine dr ?_
  refine cP (fun h2 => ?_) (fun h2 => ?_)
  · refine dr ?_
    rw [bqMark]
    refine cP (fun h3 => ?_) (fun h3 => ?_)
    rotate_left
    · refine dr ?_
      refine ⟨k + 1, ⟨by omega, take_next (by omega) (by omega) he (by simpa using h3)⟩, by omega, ?_⟩
      refine dr ?_
      trivial
    · conv => whnf
      exact dF (ne_at (k := k) (by omega) (by omega) (by simpa using h3))
  · refine dr ?_
    have : k = a.length := by omega
    subst this
    exact dT (eq_of_takes (by omega) he)
def c_EqEnt : XC := (.s (.r [.ex 4 (.mv .n)]) (.s (.s (.r [.mv 6 0, .ex 7 (.len false (.t 6)), .mv 8 1, .ex 9 (.len false (.t 8)), .ex 10 (.bin .neq (.t 7) (.t 9))]) (.cnd (.t 10) (.s (.r [.ex 4 (.mv .n)]) .ret) .skip)) (.s (.s (.r [.mv 11 0, .ex 12 (.len false (.t 11)), .ex 13 (.mv (.i 0))]) (.blk 0 (.loop (.s (.r [.ex 14 (.bin .lss (.t 13) (.t 12))]) (.s (.cnd (.t 14) .skip (.exit 0)) (.s (.blk 1 (.s (.r [.mv 15 13, .mv 5 15]) (.s (.d [.mv 16 0, .mv 17 5, .ex 18 (.ia 3 (.t 16) (.t 17)), .ex 19 (.ld true 3 (.t 18)), .mv 20 1, .mv 21 5, .ex 22 (.ia 3 (.t 20) (.t 21)), .ex 23 (.ld true 3 (.t 22)), .ex 24 (.beq true [.s, .b, .s] (.t 19) (.t 23))]) (.cnd (.t 24) (.s (.r [.ex 4 (.mv .n)]) .ret) .skip)))) (.r [.ex 25 (.bin .add (.t 13) (.i 1)), .mv 13 25]))))))) (.s (.r [.ex 4 (.mv .y)]) .ret))))
theorem c_EqEnt_eq : compF Tryz.prog [] 75 = some (c_EqEnt.ac, [(.t 4)], 26) := by kernel_rfl
theorem f_EqEnt (W0 : World) (a b : List Ent) : Fn Tryz.prog W0 75 [eEnts a, eEnts b] (.c (CB (decide (a = b)))) [] := by
  refine fnX (c := c_EqEnt) mixed c_EqEnt_eq (by simp) rfl fun hg => ?_
  have g1 := goodRow (hg _ (by simp : eEnts a ∈ _))
  refine dr ?_
  refine cP (fun h1 => ?_) (fun h1 => ?_)
  · conv => whnf
    exact dF (ne_len (by omega))
  refine dr ?_
  refine lp (σ := Nat) (fun k => [(0, .c (eEnts a)), (1, .c (eEnts b)), (12, I a.length), (13, I k)]) (fun _ => []) (fun k => k ≤ a.length ∧ a.take k = b.take k) (fun k => a.length - k) 0 ⟨by simp, by simp⟩ ?_ ?_
  · refine dr ?_
    trivial
  rintro k ⟨hk, he⟩
  refine dr ?_
  refine cP (fun h2 => ?_) (fun h2 => ?_)
  · refine dr ?_
    rw [bqEnt]
    refine cP (fun h3 => ?_) (fun h3 => ?_)
    rotate_left
    · refine dr ?_
      refine ⟨k + 1, ⟨by omega, take_next (by omega) (by omega) he (by simpa using h3)⟩, by omega, ?_⟩
      refine dr ?_
      trivial
    · conv => whnf
      exact dF (ne_at (k := k) (by omega) (by omega) (by simpa using h3))
  · refine dr ?_
    have : k = a.length := by omega
    subst this
    exact dT (eq_of_takes (by omega) he)
def c_EqMark : XC := (.s (.r [.ex 4 (.mv .n)]) (.s (.s (.r [.mv 6 0, .ex 7 (.len false (.t 6)), .mv 8 1, .ex 9 (.len false (.t 8)), .ex 10 (.bin .neq (.t 7) (.t 9))]) (.cnd (.t 10) (.s (.r [.ex 4 (.mv .n)]) .ret) .skip)) (.s (.s (.r [.mv 11 0, .ex 12 (.len false (.t 11)), .ex 13 (.mv (.i 0))]) (.blk 0 (.loop (.s (.r [.ex 14 (.bin .lss (.t 13) (.t 12))]) (.s (.cnd (.t 14) .skip (.exit 0)) (.s (.blk 1 (.s (.r [.mv 15 13, .mv 5 15]) (.s (.d [.mv 16 0, .mv 17 5, .ex 18 (.ia 3 (.t 16) (.t 17)), .ex 19 (.ld true 3 (.t 18)), .mv 20 1, .mv 21 5, .ex 22 (.ia 3 (.t 20) (.t 21)), .ex 23 (.ld true 3 (.t 22)), .ex 24 (.beq true [.s, (.i .i64), .s] (.t 19) (.t 23))]) (.cnd (.t 24) (.s (.r [.ex 4 (.mv .n)]) .ret) .skip)))) (.r [.ex 25 (.bin .add (.t 13) (.i 1)), .mv 13 25]))))))) (.s (.r [.ex 4 (.mv .y)]) .ret))))
theorem c_EqMark_eq : compF Tryz.prog [] 76 = some (c_EqMark.ac, [(.t 4)], 26) := by kernel_rfl
theorem f_EqMark (W0 : World) (a b : List Mark) : Fn Tryz.prog W0 76 [eMarks a, eMarks b] (.c (CB (decide (a = b)))) [] := by
  refine fnX (c := c_EqMark) mixed c_EqMark_eq (by simp) rfl fun hg => ?_
  have g1 := goodRow (hg _ (by simp : eMarks a ∈ _))
  refine dr ?_
  refine cP (fun h1 => ?_) (fun h1 => ?_)
  · conv => whnf
    exact dF (ne_len (by omega))
  refine dr ?_
  refine lp (σ := Nat) (fun k => [(0, .c (eMarks a)), (1, .c (eMarks b)), (12, I a.length), (13, I k)]) (fun _ => []) (fun k => k ≤ a.length ∧ a.take k = b.take k) (fun k => a.length - k) 0 ⟨by simp, by simp⟩ ?_ ?_
  · refine dr ?_
    trivial
  rintro k ⟨hk, he⟩
  refine dr ?_
  refine cP (fun h2 => ?_) (fun h2 => ?_)
  · refine dr ?_
    rw [bqMark]
    refine cP (fun h3 => ?_) (fun h3 => ?_)
    rotate_left
    · refine dr ?_
      refine ⟨k + 1, ⟨by omega, take_next (by omega) (by omega) he (by simpa using h3)⟩, by omega, ?_⟩
      refine dr ?_
      trivial
    · conv => whnf
      exact dF (ne_at (k := k) (by omega) (by omega) (by simpa using h3))
  · refine dr ?_
    have : k = a.length := by omega
    subst this
    exact dT (eq_of_takes (by omega) he)
def c_EqHold : XC := (.s (.r [.ex 4 (.mv .n)]) (.s (.s (.r [.mv 6 0, .ex 7 (.len false (.t 6)), .mv 8 1, .ex 9 (.len false (.t 8)), .ex 10 (.bin .neq (.t 7) (.t 9))]) (.cnd (.t 10) (.s (.r [.ex 4 (.mv .n)]) .ret) .skip)) (.s (.s (.r [.mv 11 0, .ex 12 (.len false (.t 11)), .ex 13 (.mv (.i 0))]) (.blk 0 (.loop (.s (.r [.ex 14 (.bin .lss (.t 13) (.t 12))]) (.s (.cnd (.t 14) .skip (.exit 0)) (.s (.blk 1 (.s (.r [.mv 15 13, .mv 5 15]) (.s (.d [.mv 16 0, .mv 17 5, .ex 18 (.ia 7 (.t 16) (.t 17)), .ex 19 (.ld true 7 (.t 18)), .mv 20 1, .mv 21 5, .ex 22 (.ia 7 (.t 20) (.t 21)), .ex 23 (.ld true 7 (.t 22)), .ex 24 (.beq true [.s, .b, .s, .b, .s, (.i .i64), (.i .i64)] (.t 19) (.t 23))]) (.cnd (.t 24) (.s (.r [.ex 4 (.mv .n)]) .ret) .skip)))) (.r [.ex 25 (.bin .add (.t 13) (.i 1)), .mv 13 25]))))))) (.s (.r [.ex 4 (.mv .y)]) .ret))))
theorem c_EqHold_eq : compF Tryz.prog [] 79 = some (c_EqHold.ac, [(.t 4)], 26) := by kernel_rfl
theorem f_EqHold (W0 : World) (a b : List Hold) : Fn Tryz.prog W0 79 [eHolds a, eHolds b] (.c (CB (decide (a = b)))) [] := by
  refine fnX (c := c_EqHold) mixed c_EqHold_eq (by simp) rfl fun hg => ?_
  have g1 := goodRow (hg _ (by simp : eHolds a ∈ _))
  refine dr ?_
  refine cP (fun h1 => ?_) (fun h1 => ?_)
  · conv => whnf
    exact dF (ne_len (by omega))
  refine dr ?_
  refine lp (σ := Nat) (fun k => [(0, .c (eHolds a)), (1, .c (eHolds b)), (12, I a.length), (13, I k)]) (fun _ => []) (fun k => k ≤ a.length ∧ a.take k = b.take k) (fun k => a.length - k) 0 ⟨by simp, by simp⟩ ?_ ?_
  · refine dr ?_
    trivial
  rintro k ⟨hk, he⟩
  refine dr ?_
  refine cP (fun h2 => ?_) (fun h2 => ?_)
  · refine dr ?_
    rw [bqHold]
    refine cP (fun h3 => ?_) (fun h3 => ?_)
    rotate_left
    · refine dr ?_
      refine ⟨k + 1, ⟨by omega, take_next (by omega) (by omega) he (by simpa using h3)⟩, by omega, ?_⟩
      refine dr ?_
      trivial
    · conv => whnf
      exact dF (ne_at (k := k) (by omega) (by omega) (by simpa using h3))
  · refine dr ?_
    have : k = a.length := by omega
    subst this
    exact dT (eq_of_takes (by omega) he)
def c_EqLease : XC := (.s (.r [.ex 4 (.mv .n)]) (.s (.s (.r [.mv 6 0, .ex 7 (.len false (.t 6)), .mv 8 1, .ex 9 (.len false (.t 8)), .ex 10 (.bin .neq (.t 7) (.t 9))]) (.cnd (.t 10) (.s (.r [.ex 4 (.mv .n)]) .ret) .skip)) (.s (.s (.r [.mv 11 0, .ex 12 (.len false (.t 11)), .ex 13 (.mv (.i 0))]) (.blk 0 (.loop (.s (.r [.ex 14 (.bin .lss (.t 13) (.t 12))]) (.s (.cnd (.t 14) .skip (.exit 0)) (.s (.blk 1 (.s (.r [.mv 15 13, .mv 5 15]) (.s (.d [.mv 16 0, .mv 17 5, .ex 18 (.ia 4 (.t 16) (.t 17)), .ex 19 (.ld true 4 (.t 18)), .mv 20 1, .mv 21 5, .ex 22 (.ia 4 (.t 20) (.t 21)), .ex 23 (.ld true 4 (.t 22)), .ex 24 (.beq true [(.i .i64), .s, (.i .i64), (.i .i64)] (.t 19) (.t 23))]) (.cnd (.t 24) (.s (.r [.ex 4 (.mv .n)]) .ret) .skip)))) (.r [.ex 25 (.bin .add (.t 13) (.i 1)), .mv 13 25]))))))) (.s (.r [.ex 4 (.mv .y)]) .ret))))
theorem c_EqLease_eq : compF Tryz.prog [] 80 = some (c_EqLease.ac, [(.t 4)], 26) := by kernel_rfl
theorem f_EqLease (W0 : World) (a b : List Lease) : Fn Tryz.prog W0 80 [eLeases a, eLeases b] (.c (CB (decide (a = b)))) [] := by
  refine fnX (c := c_EqLease) mixed c_EqLease_eq (by simp) rfl fun hg => ?_
  have g1 := goodRow (hg _ (by simp : eLeases a ∈ _))
  refine dr ?_
  refine cP (fun h1 => ?_) (fun h1 => ?_)
  · conv => whnf
    exact dF (ne_len (by omega))
  refine dr ?_
  refine lp (σ := Nat) (fun k => [(0, .c (eLeases a)), (1, .c (eLeases b)), (12, I a.length), (13, I k)]) (fun _ => []) (fun k => k ≤ a.length ∧ a.take k = b.take k) (fun k => a.length - k) 0 ⟨by simp, by simp⟩ ?_ ?_
  · refine dr ?_
    trivial
  rintro k ⟨hk, he⟩
  refine dr ?_
  refine cP (fun h2 => ?_) (fun h2 => ?_)
  · refine dr ?_
    rw [bqLease]
    refine cP (fun h3 => ?_) (fun h3 => ?_)
    rotate_left
    · refine dr ?_
      refine ⟨k + 1, ⟨by omega, take_next (by omega) (by omega) he (by simpa using h3)⟩, by omega, ?_⟩
      refine dr ?_
      trivial
    · conv => whnf
      exact dF (ne_at (k := k) (by omega) (by omega) (by simpa using h3))
  · refine dr ?_
    have : k = a.length := by omega
    subst this
    exact dT (eq_of_takes (by omega) he)
def c_EqMsg : XC := (.s (.r [.ex 4 (.mv .n)]) (.s (.s (.r [.mv 6 0, .ex 7 (.len false (.t 6)), .mv 8 1, .ex 9 (.len false (.t 8)), .ex 10 (.bin .neq (.t 7) (.t 9))]) (.cnd (.t 10) (.s (.r [.ex 4 (.mv .n)]) .ret) .skip)) (.s (.s (.r [.mv 11 0, .ex 12 (.len false (.t 11)), .ex 13 (.mv (.i 0))]) (.blk 0 (.loop (.s (.r [.ex 14 (.bin .lss (.t 13) (.t 12))]) (.s (.cnd (.t 14) .skip (.exit 0)) (.s (.blk 1 (.s (.r [.mv 15 13, .mv 5 15]) (.s (.d [.mv 16 0, .mv 17 5, .ex 18 (.ia 9 (.t 16) (.t 17)), .ex 19 (.ld true 9 (.t 18)), .mv 20 1, .mv 21 5, .ex 22 (.ia 9 (.t 20) (.t 21)), .ex 23 (.ld true 9 (.t 22)), .ex 24 (.beq true [(.i .i64), (.i .i64), .s, .b, .s, .b, .s, (.i .i64), (.i .i64)] (.t 19) (.t 23))]) (.cnd (.t 24) (.s (.r [.ex 4 (.mv .n)]) .ret) .skip)))) (.r [.ex 25 (.bin .add (.t 13) (.i 1)), .mv 13 25]))))))) (.s (.r [.ex 4 (.mv .y)]) .ret))))
theorem c_EqMsg_eq : compF Tryz.prog [] 83 = some (c_EqMsg.ac, [(.t 4)], 26) := by kernel_rfl
theorem f_EqMsg (W0 : World) (a b : List Msg) : Fn Tryz.prog W0 83 [eMsgs a, eMsgs b] (.c (CB (decide (a = b)))) [] := by
  refine fnX (c := c_EqMsg) mixed c_EqMsg_eq (by simp) rfl fun hg => ?_
  have g1 := goodRow (hg _ (by simp : eMsgs a ∈ _))
  refine dr ?_
  refine cP (fun h1 => ?_) (fun h1 => ?_)
  · conv => whnf
    exact dF (ne_len (by omega))
  refine dr ?_
  refine lp (σ := Nat) (fun k => [(0, .c (eMsgs a)), (1, .c (eMsgs b)), (12, I a.length), (13, I k)]) (fun _ => []) (fun k => k ≤ a.length ∧ a.take k = b.take k) (fun k => a.length - k) 0 ⟨by simp, by simp⟩ ?_ ?_
  · refine dr ?_
    trivial
  rintro k ⟨hk, he⟩
  refine dr ?_
  refine cP (fun h2 => ?_) (fun h2 => ?_)
  · refine dr ?_
    rw [bqMsg]
    refine cP (fun h3 => ?_) (fun h3 => ?_)
    rotate_left
    · refine dr ?_
      refine ⟨k + 1, ⟨by omega, take_next (by omega) (by omega) he (by simpa using h3)⟩, by omega, ?_⟩
      refine dr ?_
      trivial
    · conv => whnf
      exact dF (ne_at (k := k) (by omega) (by omega) (by simpa using h3))
  · refine dr ?_
    have : k = a.length := by omega
    subst this
    exact dT (eq_of_takes (by omega) he)
def c_SEnt : XC := (.s (.r [.ex 4 (.mv .n)]) (.s (.r [.mv 5 0, .mv 6 1, .ex 7 (.call 75 [(.t 5), (.t 6)]), .mv 4 7]) .ret))
theorem c_SEnt_eq : compF Tryz.prog [] 23 = some (c_SEnt.ac, [(.t 4)], 8) := by kernel_rfl
theorem f_impl_EntsSame (W0 : World) (a b : List Ent) : Fn Tryz.prog W0 23 [eEnts a, eEnts b] (.c (CB (decide (a = b)))) [] := by
  refine fnX (c := c_SEnt) mixed c_SEnt_eq (by simp) rfl fun hg => ?_
  refine dr ?_
  repeat (refine c0 (f_EqEnt W0 a b) rfl ?_; first | refine dr ?_ | exact dz)
def c_SMark : XC := (.s (.r [.ex 4 (.mv .n)]) (.s (.r [.mv 5 0, .mv 6 1, .ex 7 (.call 76 [(.t 5), (.t 6)]), .mv 4 7]) .ret))
theorem c_SMark_eq : compF Tryz.prog [] 28 = some (c_SMark.ac, [(.t 4)], 8) := by kernel_rfl
theorem f_impl_MarksSame (W0 : World) (a b : List Mark) : Fn Tryz.prog W0 28 [eMarks a, eMarks b] (.c (CB (decide (a = b)))) [] := by
  refine fnX (c := c_SMark) mixed c_SMark_eq (by simp) rfl fun hg => ?_
  refine dr ?_
  repeat (refine c0 (f_EqMark W0 a b) rfl ?_; first | refine dr ?_ | exact dz)
def c_EqFM : XC := (.s (.r [.ex 6 (.mv .n)]) (.s (.s (.r [.mv 10 0, .ex 11 (.len false (.t 10)), .mv 12 1, .ex 13 (.len false (.t 12)), .ex 14 (.bin .neq (.t 11) (.t 13))]) (.cnd (.t 14) (.s (.r [.ex 6 (.mv .n)]) .ret) .skip)) (.s (.s (.r [.mv 15 0, .ex 16 (.len false (.t 15)), .ex 17 (.mv (.i 0))]) (.blk 0 (.loop (.s (.r [.ex 18 (.bin .lss (.t 17) (.t 16))]) (.s (.cnd (.t 18) .skip (.exit 0)) (.s (.blk 1 (.s (.r [.mv 19 17, .ex 20 (.ia 1 (.t 15) (.t 17)), .ex 21 (.ld false 1 (.t 20)), .mv 7 19, .ex 8 (.asn (.t 21) 3 49)]) (.s (.r [.mv 22 1, .mv 23 7, .ex 24 (.ia 1 (.t 22) (.t 23)), .ex 25 (.ld false 1 (.t 24)), .ex 9 (.asn (.t 25) 3 49)]) (.s (.r [.mv 26 2, .mv 27 8, .mv 28 9, .ex 29 (.callv (.t 26) [(.t 27), (.t 28)]), .ex 30 (.un .not (.t 29))]) (.cnd (.t 30) (.s (.r [.ex 6 (.mv .n)]) .ret) .skip))))) (.r [.ex 31 (.bin .add (.t 17) (.i 1)), .mv 17 31]))))))) (.s (.r [.ex 6 (.mv .y)]) .ret))))
theorem c_EqFM_eq : compF Tryz.prog [] 65 = some (c_EqFM.ac, [(.t 6)], 32) := by kernel_rfl
theorem f_EqFM (W0 : World) (a b : List (List Mark)) : Fn Tryz.prog W0 65 [eMarkss a, eMarkss b, .sc (.func (.func 28) #[] #[])] (.c (CB (decide (a = b)))) [] := by
  refine fnX (c := c_EqFM) mixed c_EqFM_eq (by simp) rfl fun hg => ?_
  have g1 := goodRow (hg _ (by simp : eMarkss a ∈ _))
  refine dr ?_
  refine cP (fun h1 => ?_) (fun h1 => ?_)
  · conv => whnf
    exact dF (ne_len (by omega))
  refine dr ?_
  refine lp (σ := Nat) (fun k => [(0, .c (eMarkss a)), (1, .c (eMarkss b)), (2, .c (.sc (.func (.func 28) #[] #[]))), (15, .c (eMarkss a)), (16, I a.length), (17, I k)]) (fun _ => []) (fun k => k ≤ a.length ∧ a.take k = b.take k) (fun k => a.length - k) 0 ⟨by simp, by simp⟩ ?_ ?_
  · refine dr ?_
    trivial
  rintro k ⟨hk, he⟩
  refine dr ?_
  refine cP (fun h2 => ?_) (fun h2 => ?_)
  · refine dr ?_
    repeat ((first | refine oB ⟨by kernel_rfl, by simp⟩ ?_ | refine c0 (f_impl_MarksSame W0 _ _) rfl ?_); first | refine dr ?_ | exact dz)
    refine cP (fun h3 => ?_) (fun h3 => ?_)
    rotate_left
    · refine dr ?_
      refine ⟨k + 1, ⟨by omega, take_next (by omega) (by omega) he (by simpa using h3)⟩, by omega, ?_⟩
      refine dr ?_
      trivial
    · conv => whnf
      exact dF (ne_at (k := k) (by omega) (by omega) (by simpa using h3))
  · refine dr ?_
    have : k = a.length := by omega
    subst this
    exact dT (eq_of_takes (by omega) he)
def c_impl_OverSame : XC := (.s (.r [.ex 2 (.box (.t 0)), .ex 3 (.box (.t 1)), .ex 4 (.mv .n)]) (.s (.r [.ex 5 (.fa 0 (.t 2)), .ex 6 (.ld false 1 (.t 5)), .ex 7 (.fa 0 (.t 3)), .ex 8 (.ld false 1 (.t 7)), .ex 9 (.call 23 [(.t 6), (.t 8)]), .mv 10 9, .gt 11 (.fa 1 (.t 2)) 10, .gt 12 (.ld false 1 (.t 11)) 10, .gt 13 (.fa 1 (.t 3)) 10, .gt 14 (.ld false 1 (.t 13)) 10, .gt 15 (.call 65 [(.t 12), (.t 14), (.k (.c (.sc (.func (.func 28) #[] #[]))))]) 10, .ex 16 (.pick (.t 10) (.t 15) .n), .mv 17 16, .gt 18 (.fa 2 (.t 2)) 17, .gt 19 (.ld false 1 (.t 18)) 17, .gt 20 (.fa 2 (.t 3)) 17, .gt 21 (.ld false 1 (.t 20)) 17, .gt 22 (.call 28 [(.t 19), (.t 21)]) 17, .ex 23 (.pick (.t 17) (.t 22) .n), .mv 4 23]) .ret))
theorem c_impl_OverSame_eq : compF Tryz.prog [] 16 = some (c_impl_OverSame.ac, [(.t 4)], 24) := by kernel_rfl
theorem f_impl_OverSame (W0 : World) (a b : Over) : Fn Tryz.prog W0 16 [eOver a, eOver b] (.c (CB (decide (a = b)))) [] := by
  refine fnX (c := c_impl_OverSame) mixed c_impl_OverSame_eq (by simp) rfl fun hg => ?_
  refine dr ?_
  repeat (refine c0 (f_impl_EntsSame W0 a.base b.base) rfl ?_; first | refine dr ?_ | exact dz)
  refine cP (fun h1 => ?_) (fun h1 => ?_)
  rotate_left
  · refine dr ?_
    exact dF fun e => by simp [e] at h1
  refine dr ?_
  repeat (refine c0 (f_EqFM W0 a.layers b.layers) rfl ?_; first | refine dr ?_ | exact dz)
  refine cP (fun h2 => ?_) (fun h2 => ?_)
  rotate_left
  · refine dr ?_
    exact dF fun e => by simp [e] at h2
  refine dr ?_
  repeat (refine c0 (f_impl_MarksSame W0 a.upper b.upper) rfl ?_; first | refine dr ?_ | exact dz)
  exact congrArg CB (by cases a; cases b; simp_all)
end Go.Proofs.YthblflnfhdnpdaaGreatDoor

namespace Go.Proofs.YthblflnfhdnpdaaGreatDoor
set_option linter.unusedSimpArgs false
set_option linter.unusedVariables false
open Go Go.RowKit
def c_spec_l3On : XC := (.s (.r [.ex 4 (.asn (.k .nil) 3 59)]) (.s (.r [.ex 8 .bsl0, .ex 5 (.asn (.t 8) 3 59)]) (.s (.s (.r [.ex 6 (.mv (.i 0))]) (.blk 0 (.loop (.s (.s (.r [.mv 9 6, .mv 10 1, .ex 11 (.len false (.t 10)), .ex 12 (.bin .lss (.t 9) (.t 11))]) (.cnd (.t 12) .skip (.exit 0))) (.s (.blk 1 (.s (.r [.mv 15 0, .mv 16 1, .mv 17 6, .ex 18 (.ia 3 (.t 16) (.t 17)), .ex 19 (.fa 0 (.t 18)), .ex 20 (.ld false 1 (.t 19)), .ex 21 (.call 223 [(.t 15), (.t 20)]), .ex 22 (.un .not (.t 21))]) (.cnd (.t 22) (.r [.mv 23 5, .mv 24 1, .mv 25 6, .ex 26 (.ia 3 (.t 24) (.t 25)), .ex 27 (.ld true 3 (.t 26)), .ex 28 (.bsl 3 59 [(.t 27)]), .ex 29 (.app false 3 40 59 (.t 23) (.t 28)), .ex 5 (.asn (.t 29) 3 59)]) .skip))) (.r [.mv 13 6, .ex 14 (.bin .add (.t 13) (.i 1)), .mv 6 14])))))) (.s (.s (.r [.ex 7 (.mv (.i 0))]) (.blk 2 (.loop (.s (.s (.r [.mv 30 7, .mv 31 0, .ex 32 (.len false (.t 31)), .ex 33 (.bin .lss (.t 30) (.t 32))]) (.cnd (.t 33) .skip (.exit 2))) (.s (.blk 3 (.s (.r [.mv 36 0, .mv 37 7, .ex 38 (.ia 3 (.t 36) (.t 37)), .ex 39 (.fa 1 (.t 38)), .ex 40 (.ld false 1 (.t 39))]) (.blk 4 (.s (.r [.ex 42 (.bin .eql (.t 40) (.i 1)), .mv 41 42]) (.cnd (.t 41) (.d [.mv 43 5, .mv 44 0, .mv 45 7, .ex 46 (.ia 3 (.t 44) (.t 45)), .ex 47 (.fa 0 (.t 46)), .ex 48 (.ld false 1 (.t 47)), .mv 49 0, .mv 50 7, .ex 51 (.ia 3 (.t 49) (.t 50)), .ex 52 (.fa 2 (.t 51)), .ex 53 (.ld false 1 (.t 52)), .ex 54 (.build [(.c (.sc (.string ⟨#[]⟩))), (.c (.sc (.bool false))), (.c (.sc (.string ⟨#[]⟩)))] [(0, (1, (.t 48))), (2, (1, (.t 53)))]), .ex 55 (.call 239 [(.t 43), (.t 54)]), .ex 5 (.asn (.t 55) 3 59)]) (.s (.s (.r [.ex 57 (.bin .eql (.t 40) (.i 2)), .mv 56 57]) (.cnd (.t 56) .skip (.r [.ex 58 (.bin .eql (.t 40) (.i 4)), .mv 56 58]))) (.cnd (.t 56) (.r [.mv 59 5, .mv 60 0, .mv 61 7, .ex 62 (.ia 3 (.t 60) (.t 61)), .ex 63 (.fa 0 (.t 62)), .ex 64 (.ld false 1 (.t 63)), .ex 65 (.build [(.c (.sc (.string ⟨#[]⟩))), (.c (.sc (.bool false))), (.c (.sc (.string ⟨#[]⟩)))] [(0, (1, (.t 64))), (1, (1, .y))]), .ex 66 (.call 239 [(.t 59), (.t 65)]), .ex 5 (.asn (.t 66) 3 59)]) .skip))))))) (.r [.mv 34 7, .ex 35 (.bin .add (.t 34) (.i 1)), .mv 7 35])))))) (.s (.r [.mv 67 5, .ex 4 (.asn (.t 67) 3 59)]) .ret)))))
theorem c_spec_l3On_eq : compF Tryz.prog [] 212 = some (c_spec_l3On.ac, [(.t 4)], 68) := by kernel_rfl
theorem f_l3On (W0 : World) (l : List Mark) (t : List Ent) (ht : t.length + l.length ≤ 1000000) : Fn Tryz.prog W0 212 [eMarks l, eEnts t] (.c (eEnts (onRaw l t))) [] := by
  refine fnX (c := c_spec_l3On) mixed c_spec_l3On_eq (by simp) rfl fun hg => ?_
  refine dr ?_
  refine lp (σ := Nat) (fun k => [(0, .c (eMarks l)), (1, .c (eEnts t)), (5, .own 80 ((t.take k).filter fun e => !hides l e.path).length), (6, I k)]) (fun k => [(80, .row (((t.take k).filter fun e => !hides l e.path).map eEnt) 3 59)]) (fun k => k ≤ t.length) (fun k => t.length - k) 0 (by simp) ?_ ?_
  · refine dr ?_
    trivial
  intro k hk
  have hfl := filt_le (q := fun e : Ent => !hides l e.path) (l := t) (k := k)
  refine dr ?_
  refine cP (fun h1 => ?_) (fun h1 => ?_)
  · have hk' : k < t.length := by omega
    refine dEr ?_
    repeat (refine c0 (f_l3Hides W0 _ _) rfl ?_; first | refine dEr ?_ | exact dz)
    refine cP (fun h2 => ?_) (fun h2 => ?_)
    · refine dr ?_
      repeat ((first | refine oB (by simp; omega) ?_ | refine oB (by simp) ?_); first | refine dr ?_ | exact dz)
      refine ⟨k + 1, by omega, by omega, ?_⟩
      refine dr ?_
      repeat (refine oB (by rw [filt_t hk' (by simp [h2])]; simp) ?_; first | refine dr ?_ | exact dz)
      trivial
    · refine dr ?_
      refine ⟨k + 1, by omega, by omega, ?_⟩
      refine dr ?_
      repeat (refine oB (by rw [filt_f hk' (by simp [h2])]) ?_; first | refine dr ?_ | exact dz)
      trivial
  have hkl : k = t.length := by omega
  subst hkl
  rw [List.take_length] at hfl ⊢
  have hR : onRaw l t = l.foldl onP (t.filter fun e => !hides l e.path) := rfl
  rw [hR]
  generalize (t.filter fun e => !hides l e.path) = t0 at *
  refine dr ?_
  refine lz (σ := Nat) 80 (fun k => [(0, .c (eMarks l)), (1, .c (eEnts t)), (5, .c (eEnts ((l.take k).foldl onP t0))), (7, I k)]) (fun _ => []) (fun k => k ≤ l.length) (fun k => l.length - k) 0 (by simp) ?_ ?_
  · refine dr ?_
    repeat (refine oB (by simp) ?_; first | refine dr ?_ | exact dz)
    trivial
  clear h1
  intro k hk
  have hlk := fold_on_len (l.take k) t0
  have hlk2 := List.length_take_le' k l
  refine dr ?_
  refine cP (fun h1 => ?_) (fun h1 => ?_)
  · have hk' : k < l.length := by omega
    refine dr ?_
    refine cP (fun h2 => ?_) (fun h2 => ?_)
    · refine dr ?_
      repeat (refine c0 (f_l2Put W0 _ ⟨_, _, _⟩ (by omega)) rfl ?_; first | refine dr ?_ | exact dz)
      intro hg1
      refine dr ?_
      refine ⟨k + 1, by omega, by omega, ?_⟩
      refine dr ?_
      repeat (refine oB (by rw [fold_next hk', onP, if_pos h2]) ?_; first | refine dr ?_ | exact dz)
      trivial
    · refine dr ?_
      refine cP (fun h3 => ?_) (fun h3 => ?_)
      · refine dr ?_
        refine cP (fun h30 => ?_) (fun h30 => ?_)
        rotate_left
        · omega
        refine dr ?_
        repeat (refine c0 (f_l2Put W0 _ ⟨_, _, _⟩ (by omega)) rfl ?_; first | refine dr ?_ | exact dz)
        intro hg1
        refine dr ?_
        refine ⟨k + 1, by omega, by omega, ?_⟩
        refine dr ?_
        repeat (refine oB (by rw [fold_next hk', onP, if_neg h2, if_pos (.inl h3)]) ?_; first | refine dr ?_ | exact dz)
        trivial
      · refine dr ?_
        refine cP (fun h4 => ?_) (fun h4 => ?_)
        · refine dr ?_
          repeat (refine c0 (f_l2Put W0 _ ⟨_, _, _⟩ (by omega)) rfl ?_; first | refine dr ?_ | exact dz)
          intro hg1
          refine dr ?_
          refine ⟨k + 1, by omega, by omega, ?_⟩
          refine dr ?_
          repeat (refine oB (by rw [fold_next hk', onP, if_neg h2, if_pos (.inr h4)]) ?_; first | refine dr ?_ | exact dz)
          trivial
        · refine dr ?_
          refine ⟨k + 1, by omega, by omega, ?_⟩
          refine dr ?_
          repeat (refine oB (by rw [fold_next hk', onP, if_neg h2, if_neg (by omega)]) ?_; first | refine dr ?_ | exact dz)
          trivial
  have hkl : k = l.length := by omega
  refine dr ?_
  rw [hkl, List.take_length]
def c_spec_LayerOn : XC := (.s (.r [.ex 4 (.asn (.k .nil) 3 59), .ex 5 (.mv .n)]) (.s (.s (.r [.mv 7 0, .ex 8 (.call 149 [(.t 7)]), .ex 9 (.un .not (.t 8)), .mv 10 9, .gf 11 (.mv (.t 1)) 10, .gf 12 (.call 160 [(.t 11)]) 10, .gf 13 (.un .not (.t 12)) 10, .ex 14 (.pick (.t 10) .y (.t 13))]) (.cnd (.t 14) (.s (.r [.ex 15 .bsl0, .ex 4 (.asn (.t 15) 3 59), .ex 5 (.mv .n)]) .ret) .skip)) (.s (.r [.mv 16 0, .mv 17 1, .ex 18 (.call 212 [(.t 16), (.t 17)]), .ex 6 (.asn (.t 18) 3 59)]) (.s (.s (.r [.mv 19 6, .ex 20 (.len false (.t 19)), .ex 21 (.bin .gtr (.t 20) (.i 16))]) (.cnd (.t 21) (.s (.r [.ex 22 .bsl0, .ex 4 (.asn (.t 22) 3 59), .ex 5 (.mv .n)]) .ret) .skip)) (.s (.r [.mv 23 6, .ex 4 (.asn (.t 23) 3 59), .ex 5 (.mv .y)]) .ret)))))
theorem c_spec_LayerOn_eq : compF Tryz.prog [] 138 = some (c_spec_LayerOn.ac, [(.t 4), (.t 5)], 24) := by kernel_rfl
theorem f_spec_LayerOn (W0 : World) (l : List Mark) (t : List Ent) : Fn Tryz.prog W0 138 [eMarks l, eEnts t] (.c (eEntsO (lOn l t))) [] := by
  refine fnX (c := c_spec_LayerOn) mixed c_spec_LayerOn_eq (by simp) rfl fun hg => ?_
  refine dr ?_
  repeat (refine c0 (f_spec_LayerOk W0 _) rfl ?_; first | refine dr ?_ | exact dz)
  refine cP (fun h1 => ?_) (fun h1 => ?_)
  · refine dEr ?_
    rw [lOn, if_neg (by simp [h1])]; rfl
  refine dEr ?_
  repeat (refine c0 (f_spec_TreeOk W0 _) rfl ?_; first | refine dEr ?_ | exact dz)
  refine cP (fun h2 => ?_) (fun h2 => ?_)
  · refine dr ?_
    rw [lOn, if_neg (by simp [h2])]; rfl
  have hl : l.length ≤ 32 := by simp only [lOk, Bool.and_eq_true, decide_eq_true_eq] at h1; exact h1.1
  have ht := (tOk_at h2).1
  refine dr ?_
  repeat (refine c0 (f_l3On W0 _ _ (by omega)) rfl ?_; first | refine dr ?_ | exact dz)
  intro hg2
  refine dr ?_
  rw [lOn, if_pos (by simp [h1, h2])]
  refine cP (fun h3 => ?_) (fun h3 => ?_)
  · refine dr ?_
    rw [if_neg (by omega)]; rfl
  · refine dr ?_
    rw [if_pos (by omega)]; rfl
def c_spec_l3Ups : XC := (.s (.r [.ex 4 (.asn (.k .nil) 3 49)]) (.s (.r [.mv 6 1, .ex 7 (.call 167 [(.t 6)]), .mv 5 7]) (.s (.s (.r [.mv 8 5, .ex 9 (.bin .eql (.t 8) (.s [47]))]) (.cnd (.t 9) (.s (.r [.mv 10 0, .ex 4 (.asn (.t 10) 3 49)]) .ret) .skip)) (.s (.s (.r [.mv 11 0, .mv 12 5, .ex 13 (.call 224 [(.t 11), (.t 12)]), .ex 14 (.bin .eql (.t 13) (.i 0))]) (.cnd (.t 14) (.r [.mv 15 0, .mv 16 5, .ex 17 (.build [(.c (.sc (.string ⟨#[]⟩))), (.c (.sc (.int .i64 0))), (.c (.sc (.string ⟨#[]⟩)))] [(0, (1, (.t 16))), (1, (1, (.i 2)))]), .ex 18 (.call 169 [(.t 15), (.t 17)]), .ex 0 (.asn (.t 18) 3 49)]) .skip)) (.s (.r [.mv 19 0, .mv 20 5, .ex 21 (.call 168 [(.t 19), (.t 20)]), .ex 4 (.asn (.t 21) 3 49)]) .ret)))))
theorem c_spec_l3Ups_eq : compF Tryz.prog [] 168 = some (c_spec_l3Ups.ac, [(.t 4)], 22) := by kernel_rfl
theorem f_l3Ups (W0 : World) : ∀ (n : Nat) (l : List Mark) (p : Str), pOk p = true → (names p).length ≤ n → l.length + n ≤ 1000000 → Fn Tryz.prog W0 168 [eMarks l, CS p] (.c (eMarks ((upsN n p).foldl upsP l))) []
  | 0, l, p, hp, hn, _ => by have := (pOk_names hp).1.1; omega
  | n + 1, l, p, hp, hn, hl => by
    refine fnX (c := c_spec_l3Ups) mixed c_spec_l3Ups_eq (by simp) rfl fun hg => ?_
    refine dr ?_
    repeat (refine c0 (f_spec_PathUp W0 _) rfl ?_; first | refine dr ?_ | exact dz)
    intro hg1
    rw [upsN]
    refine cP (fun h1 => ?_) (fun h1 => ?_)
    · refine dr ?_
      rw [if_pos h1]; rfl
    rw [if_neg h1]
    obtain ⟨u1, _, u2⟩ := pOk_up hp h1
    have e : ((pUp p :: upsN n (pUp p)).foldl upsP l) = (upsN n (pUp p)).foldl upsP (upsP l (pUp p)) := rfl
    rw [e, upsP]
    refine dr ?_
    repeat (refine c0 (f_l3Kind W0 _ _) rfl ?_; first | refine dr ?_ | exact dz)
    intro hg2
    refine cP (fun h2 => ?_) (fun h2 => ?_)
    · rw [if_pos h2]
      have hpl : (lput l ⟨pUp p, 2, []⟩).length ≤ l.length + 1 := putG_len
      refine dr ?_
      repeat (refine c0 (f_l3Put W0 _ ⟨pUp p, 2, []⟩ (by omega)) rfl ?_; first | refine dr ?_ | exact dz)
      intro hg3
      refine dr ?_
      repeat (refine c0 (f_l3Ups W0 n _ _ u1 (by omega) (by omega)) rfl ?_; first | refine dr ?_ | exact dz)
      intro hg4
      exact dz
    · rw [if_neg h2]
      refine dr ?_
      repeat (refine c0 (f_l3Ups W0 n _ _ u1 (by omega) (by omega)) rfl ?_; first | refine dr ?_ | exact dz)
      intro hg4
      exact dz
def c_spec_l3Diff : XC := (.s (.r [.ex 4 (.asn (.k .nil) 3 49)]) (.s (.r [.ex 11 .bsl0, .ex 5 (.asn (.t 11) 3 49)]) (.s (.r [.mv 12 0, .mv 13 1, .ex 14 (.call 164 [(.t 12), (.t 13)]), .ex 6 (.asn (.t 14) 1 9)]) (.s (.s (.r [.ex 7 (.mv (.i 0))]) (.blk 0 (.loop (.s (.s (.r [.mv 15 7, .mv 16 6, .ex 17 (.len false (.t 16)), .ex 18 (.bin .lss (.t 15) (.t 17))]) (.cnd (.t 18) .skip (.exit 0))) (.s (.blk 1 (.s (.r [.mv 22 1, .mv 23 6, .mv 24 7, .ex 25 (.ia 1 (.t 23) (.t 24)), .ex 26 (.ld false 1 (.t 25)), .ex 27 (.call 165 [(.t 22), (.t 26)]), .mv 21 27, .ex 28 (.ext (.t 21) 0), .ex 29 (.ext (.t 21) 1), .ex 8 (.alloc [(.c (.sc (.string ⟨#[]⟩))), (.c (.sc (.bool false))), (.c (.sc (.string ⟨#[]⟩)))]), .nu (.st 3 (.t 8) (.t 28)), .mv 9 29]) (.s (.r [.mv 30 6, .mv 31 7, .ex 32 (.ia 1 (.t 30) (.t 31)), .ex 33 (.ld false 1 (.t 32)), .ex 34 (.build [(.c (.sc (.string ⟨#[]⟩))), (.c (.sc (.int .i64 0))), (.c (.sc (.string ⟨#[]⟩)))] [(0, (1, (.t 33))), (1, (1, (.i 3)))]), .ex 10 (.alloc [(.c (.sc (.string ⟨#[]⟩))), (.c (.sc (.int .i64 0))), (.c (.sc (.string ⟨#[]⟩)))]), .nu (.st 3 (.t 10) (.t 34))]) (.s (.s (.r [.mv 35 9]) (.cnd (.t 35) (.d [.mv 36 6, .mv 37 7, .ex 38 (.ia 1 (.t 36) (.t 37)), .ex 39 (.ld false 1 (.t 38)), .ex 40 (.fa 2 (.t 8)), .ex 41 (.ld false 1 (.t 40)), .ex 42 (.build [(.c (.sc (.string ⟨#[]⟩))), (.c (.sc (.int .i64 0))), (.c (.sc (.string ⟨#[]⟩)))] [(0, (1, (.t 39))), (1, (1, (.i 1))), (2, (1, (.t 41)))]), .nu (.st 3 (.t 10) (.t 42))]) .skip)) (.s (.s (.r [.mv 43 9, .mv 44 43, .gt 45 (.fa 1 (.t 8)) 44, .gt 46 (.ld false 1 (.t 45)) 44, .ex 47 (.pick (.t 44) (.t 46) .n)]) (.cnd (.t 47) (.r [.ex 48 (.fa 1 (.t 10)), .nu (.st 1 (.t 48) (.i 2))]) .skip)) (.s (.r [.mv 49 9, .mv 50 49, .gf 51 (.mv (.t 1)) 50, .gf 52 (.mv (.t 6)) 50, .gf 53 (.mv (.t 7)) 50, .gf 54 (.ia 1 (.t 52) (.t 53)) 50, .gf 55 (.ld false 1 (.t 54)) 50, .gf 56 (.call 167 [(.t 55)]) 50, .gf 57 (.call 166 [(.t 51), (.t 56)]) 50, .ex 58 (.pick (.t 50) .y (.t 57))]) (.cnd (.t 58) (.d [.mv 59 5, .ex 60 (.ld true 3 (.t 10)), .ex 61 (.call 169 [(.t 59), (.t 60)]), .mv 62 6, .mv 63 7, .ex 64 (.ia 1 (.t 62) (.t 63)), .ex 65 (.ld false 1 (.t 64)), .ex 66 (.call 168 [(.t 61), (.t 65)]), .ex 5 (.asn (.t 66) 3 49)]) .skip))))))) (.r [.mv 19 7, .ex 20 (.bin .add (.t 19) (.i 1)), .mv 7 20])))))) (.s (.r [.mv 67 5, .ex 4 (.asn (.t 67) 3 49)]) .ret)))))
theorem c_spec_l3Diff_eq : compF Tryz.prog [] 74 = some (c_spec_l3Diff.ac, [(.t 4)], 68) := by kernel_rfl
theorem f_l3Diff (W0 : World) (a b : List Ent) (ha : tOk a = true) (hb : tOk b = true) : Fn Tryz.prog W0 74 [eEnts a, eEnts b] (.c (eMarks (diff a b))) [] := by
  have la := (tOk_at ha).1
  have lb := (tOk_at hb).1
  have lt := turned_len (a := a) (b := b)
  have hok : ∀ p ∈ turned a b, pOk p = true := fun p hp => turned_ok ha hb hp
  refine fnX (c := c_spec_l3Diff) mixed c_spec_l3Diff_eq (by simp) rfl fun hg => ?_
  refine dr ?_
  repeat (refine c0 (f_l2Turned W0 _ _ (by omega)) rfl ?_; first | refine dr ?_ | exact dz)
  intro hg1
  rw [diff]
  generalize turned a b = L at *
  refine dr ?_
  refine lz (σ := Nat) 80 (fun k => [(1, .c (eEnts b)), (6, .c (eStrs L)), (5, .c (eMarks ((L.take k).foldl (difP b) []))), (7, I k)]) (fun _ => []) (fun k => k ≤ L.length) (fun k => L.length - k) 0 (by simp) ?_ ?_
  · refine dr ?_
    trivial
  intro k hk
  have hlk := fold_dif_len (b := b) (L.take k) []
  have hlk2 := List.length_take_le' k L
  simp only [List.length_nil] at hlk
  refine dr ?_
  refine cP (fun h1 => ?_) (fun h1 => ?_)
  · have hk' : k < L.length := by omega
    have hp := hok _ (List.getElem_mem hk')
    have hc := f_l2Get W0 b L[k]
    have hn := (pOk_names hp).1.2
    have hpl : ∀ m, (lput ((L.take k).foldl (difP b) []) m).length ≤ ((L.take k).foldl (difP b) []).length + 1 := fun m => putG_len
    cases hx : get b L[k] with
    | none =>
      rw [hx] at hc
      refine dr ?_
      repeat (refine c0 hc rfl ?_; first | refine dr ?_ | exact dz)
      intro hg2
      refine dr ?_
      repeat ((first | refine c0 (f_spec_PathUp W0 _) rfl ?_ | refine c0 (f_l2Dir W0 _ _) rfl ?_); first | refine dr ?_ | exact dz)
      intro hg3
      refine cP (fun h2 => ?_) (fun h2 => ?_)
      · refine dEr ?_
        repeat ((first | refine c0 (f_l3Put W0 _ ⟨L[k], 3, []⟩ (by omega)) rfl ?_ | refine c0 (f_l3Ups W0 3 _ _ hp hn (by have := hpl ⟨L[k], 3, []⟩; omega)) rfl ?_); first | refine dEr ?_ | exact dz)
        refine ⟨k + 1, by omega, by omega, ?_⟩
        refine dr ?_
        repeat (refine oB (by rw [fold_next hk', difP, difM, hx]; simp only [if_pos h2]; rfl) ?_; first | refine dr ?_ | exact dz)
        trivial
      · refine dr ?_
        refine ⟨k + 1, by omega, by omega, ?_⟩
        refine dr ?_
        repeat (refine oB (by rw [fold_next hk', difP, difM, hx]; simp [h2]) ?_; first | refine dr ?_ | exact dz)
        trivial
    | some e =>
      rw [hx] at hc
      refine dr ?_
      repeat (refine c0 hc rfl ?_; first | refine dr ?_ | exact dz)
      intro hg2
      refine dr ?_
      refine cP (fun h2 => ?_) (fun h2 => ?_)
      · refine dEr ?_
        repeat ((first | refine c0 (f_l3Put W0 _ ⟨L[k], 2, e.data⟩ (by omega)) rfl ?_ | refine c0 (f_l3Ups W0 3 _ _ hp hn (by have := hpl ⟨L[k], 2, e.data⟩; omega)) rfl ?_); first | refine dEr ?_ | exact dz)
        refine ⟨k + 1, by omega, by omega, ?_⟩
        refine dr ?_
        repeat (refine oB (by rw [fold_next hk', difP, difM, hx]; simp only [if_pos h2]; rfl) ?_; first | refine dr ?_ | exact dz)
        trivial
      · refine dEr ?_
        repeat ((first | refine c0 (f_l3Put W0 _ ⟨L[k], 1, e.data⟩ (by omega)) rfl ?_ | refine c0 (f_l3Ups W0 3 _ _ hp hn (by have := hpl ⟨L[k], 1, e.data⟩; omega)) rfl ?_); first | refine dEr ?_ | exact dz)
        refine ⟨k + 1, by omega, by omega, ?_⟩
        refine dr ?_
        repeat (refine oB (by rw [fold_next hk', difP, difM, hx]; simp [h2]; rfl) ?_; first | refine dr ?_ | exact dz)
        trivial
  have hkl : k = L.length := by omega
  refine dr ?_
  rw [hkl, List.take_length]
end Go.Proofs.YthblflnfhdnpdaaGreatDoor

namespace Go.Proofs.YthblflnfhdnpdaaGreatDoor
set_option linter.unusedSimpArgs false
set_option linter.unusedVariables false
open Go Go.RowKit
def c_spec_l4Lower : XC := (.s (.r [.ex 1 (.box (.t 0)), .ex 2 (.asn (.k .nil) 3 59), .ex 3 (.mv .n)]) (.s (.r [.ex 7 (.fa 0 (.t 1)), .ex 8 (.ld false 1 (.t 7)), .ex 4 (.asn (.t 8) 3 59)]) (.s (.s (.r [.mv 9 4, .ex 10 (.call 160 [(.t 9)]), .ex 11 (.un .not (.t 10)), .mv 12 11, .gf 13 (.fa 1 (.t 1)) 12, .gf 14 (.ld false 1 (.t 13)) 12, .gf 15 (.len false (.t 14)) 12, .gf 16 (.bin .gtr (.t 15) (.i 4)) 12, .ex 17 (.pick (.t 12) .y (.t 16))]) (.cnd (.t 17) (.s (.r [.ex 18 .bsl0, .ex 2 (.asn (.t 18) 3 59), .ex 3 (.mv .n)]) .ret) .skip)) (.s (.s (.r [.ex 5 (.mv (.i 0))]) (.blk 0 (.loop (.s (.s (.r [.mv 19 5, .ex 20 (.fa 1 (.t 1)), .ex 21 (.ld false 1 (.t 20)), .ex 22 (.len false (.t 21)), .ex 23 (.bin .lss (.t 19) (.t 22))]) (.cnd (.t 23) .skip (.exit 0))) (.s (.blk 1 (.s (.r [.ex 6 (.mv .n)]) (.s (.r [.ex 27 (.fa 1 (.t 1)), .ex 28 (.ld false 1 (.t 27)), .mv 29 5, .ex 30 (.ia 1 (.t 28) (.t 29)), .ex 31 (.ld false 1 (.t 30)), .mv 32 4, .ex 33 (.call 138 [(.t 31), (.t 32)]), .mv 26 33, .ex 34 (.ext (.t 26) 0), .ex 35 (.ext (.t 26) 1), .ex 4 (.asn (.t 34) 3 59), .mv 6 35]) (.s (.r [.mv 36 6, .ex 37 (.un .not (.t 36))]) (.cnd (.t 37) (.s (.r [.ex 38 .bsl0, .ex 2 (.asn (.t 38) 3 59), .ex 3 (.mv .n)]) .ret) .skip))))) (.r [.mv 24 5, .ex 25 (.bin .add (.t 24) (.i 1)), .mv 5 25])))))) (.s (.r [.ex 39 .bsl0, .mv 40 4, .ex 41 (.app true 3 40 59 (.t 39) (.t 40)), .ex 2 (.asn (.t 41) 3 59), .ex 3 (.mv .y)]) .ret)))))
theorem c_spec_l4Lower_eq : compF Tryz.prog [] 72 = some (c_spec_l4Lower.ac, [(.t 2), (.t 3)], 42) := by kernel_rfl
theorem f_l4Lower (W0 : World) (o : Over) : Fn Tryz.prog W0 72 [eOver o] (.c (eEntsO (lower4 o))) [] := by
  refine fnX (c := c_spec_l4Lower) mixed c_spec_l4Lower_eq (by simp) rfl fun hg => ?_
  refine dEr ?_
  repeat (refine c0 (f_spec_TreeOk W0 _) rfl ?_; first | refine dEr ?_ | exact dz)
  refine cP (fun h1 => ?_) (fun h1 => ?_)
  · refine dr ?_
    rw [lower4, if_neg (by simp [h1])]; rfl
  refine dr ?_
  refine cP (fun h2 => ?_) (fun h2 => ?_)
  · refine dr ?_
    rw [lower4, if_neg (by omega)]; rfl
  rw [lower4, if_pos ⟨h1, by omega⟩]
  refine dr ?_
  refine lp2 (fun (k : Nat) (t : List Ent) => [(1, .ptr 16 0), (4, .c (eEnts t)), (5, I k)]) (fun _ _ => [(16, .box [.c (eEnts o.base), .c (eMarkss o.layers), .c (eMarks o.upper)])]) (fun k t => k ≤ o.layers.length ∧ lowerA (o.layers.take k) o.base = some t ∧ tOk t = true) (fun k _ => o.layers.length - k) 0 o.base ⟨by simp, rfl, h1⟩ ?_ ?_
  · refine dr ?_
    trivial
  rintro k t ⟨hk, ha, ht⟩
  refine dr ?_
  refine cP (fun h3 => ?_) (fun h3 => ?_)
  · have hk' : k < o.layers.length := by omega
    have hn : lowerA (o.layers.take (k + 1)) o.base = lOn o.layers[k] t := by
      rw [List.take_succ_eq_append_getElem hk', lowerA_app, ha]
      simp only [lowerA]
      cases lOn o.layers[k] t <;> rfl
    have hc := f_spec_LayerOn W0 o.layers[k] t
    cases hx : lOn o.layers[k] t with
    | none =>
      rw [hx] at hc
      refine dr ?_
      repeat (refine c0 hc rfl ?_; first | refine dr ?_ | exact dz)
      intro hg1
      refine dr ?_
      have : lowerA o.layers o.base = none := by
        have e : o.layers = o.layers.take (k + 1) ++ o.layers.drop (k + 1) := by rw [List.take_append_drop]
        rw [e, lowerA_app, hn, hx]
      rw [this]; rfl
    | some t' =>
      rw [hx] at hc
      refine dr ?_
      repeat (refine c0 hc rfl ?_; first | refine dr ?_ | exact dz)
      intro hg1
      refine dr ?_
      refine ⟨k + 1, t', ⟨by omega, by rw [hn, hx], lOn_tOk hx⟩, by omega, ?_⟩
      refine dr ?_
      trivial
  have hkl : k = o.layers.length := by omega
  rw [hkl, List.take_length] at ha
  have hl := (tOk_at ht).1
  refine dr ?_
  repeat (refine oB (by simp; omega) ?_; first | refine dr ?_ | exact dz)
  rw [ha]; rfl
def c_spec_l4View : XC := (.s (.r [.ex 1 (.box (.t 0)), .ex 2 (.asn (.k .nil) 3 59), .ex 3 (.mv .n)]) (.s (.r [.ex 7 (.ld true 3 (.t 1)), .ex 8 (.call 72 [(.t 7)]), .mv 6 8, .ex 9 (.ext (.t 6) 0), .ex 10 (.ext (.t 6) 1), .ex 4 (.asn (.t 9) 3 59), .mv 5 10]) (.s (.s (.r [.mv 11 5, .ex 12 (.un .not (.t 11))]) (.cnd (.t 12) (.s (.r [.ex 13 .bsl0, .ex 2 (.asn (.t 13) 3 59), .ex 3 (.mv .n)]) .ret) .skip)) (.s (.r [.ex 14 (.fa 2 (.t 1)), .ex 15 (.ld false 1 (.t 14)), .mv 16 4, .ex 17 (.call 138 [(.t 15), (.t 16)]), .ex 18 (.ext (.t 17) 0), .ex 19 (.ext (.t 17) 1), .ex 2 (.asn (.t 18) 3 59), .mv 3 19]) .ret))))
theorem c_spec_l4View_eq : compF Tryz.prog [] 57 = some (c_spec_l4View.ac, [(.t 2), (.t 3)], 20) := by kernel_rfl
theorem f_l4View (W0 : World) (o : Over) : Fn Tryz.prog W0 57 [eOver o] (.c (eEntsO (view4 o))) [] := by
  refine fnX (c := c_spec_l4View) mixed c_spec_l4View_eq (by simp) rfl fun hg => ?_
  have hc := f_l4Lower W0 o
  cases hx : lower4 o with
  | none =>
    rw [hx] at hc
    refine dr ?_
    repeat (refine c0 hc rfl ?_; first | refine dr ?_ | exact dz)
    intro hg1
    refine dr ?_
    rw [view4, hx]; rfl
  | some t =>
    rw [hx] at hc
    have hv : view4 o = lOn o.upper t := by rw [view4, hx]
    have hc2 := f_spec_LayerOn W0 o.upper t
    rw [hv]
    cases hy : lOn o.upper t with
    | none =>
      rw [hy] at hc2
      refine dr ?_
      repeat (refine c0 hc rfl ?_; first | refine dr ?_ | exact dz)
      intro hg1
      refine dr ?_
      repeat (refine c0 hc2 rfl ?_; first | refine dr ?_ | exact dz)
      intro hg2
      refine dr ?_
      rfl
    | some x =>
      rw [hy] at hc2
      refine dr ?_
      repeat (refine c0 hc rfl ?_; first | refine dr ?_ | exact dz)
      intro hg1
      refine dr ?_
      repeat (refine c0 hc2 rfl ?_; first | refine dr ?_ | exact dz)
      intro hg2
      refine dr ?_
      rfl
def c_spec_OverOk : XC := (.s (.r [.ex 1 (.box (.t 0)), .ex 2 (.mv .n)]) (.s (.r [.ex 8 (.ld true 3 (.t 1)), .ex 9 (.call 72 [(.t 8)]), .mv 7 9, .ex 10 (.ext (.t 7) 0), .ex 11 (.ext (.t 7) 1), .ex 3 (.asn (.t 10) 3 59), .mv 4 11]) (.s (.r [.ex 13 (.ld true 3 (.t 1)), .ex 14 (.call 57 [(.t 13)]), .mv 12 14, .ex 15 (.ext (.t 12) 0), .ex 16 (.ext (.t 12) 1), .ex 5 (.asn (.t 15) 3 59), .mv 6 16]) (.s (.d [.mv 17 4, .mv 18 17, .gt 19 (.mv (.t 6)) 18, .ex 20 (.pick (.t 18) (.t 19) .n), .mv 21 20, .gt 22 (.fa 2 (.t 1)) 21, .gt 23 (.ld false 1 (.t 22)) 21, .gt 24 (.mv (.t 3)) 21, .gt 25 (.mv (.t 5)) 21, .gt 26 (.call 74 [(.t 24), (.t 25)]) 21, .gt 27 (.call 73 [(.t 23), (.t 26)]) 21, .ex 28 (.pick (.t 21) (.t 27) .n), .mv 2 28]) .ret))))
theorem c_spec_OverOk_eq : compF Tryz.prog [] 21 = some (c_spec_OverOk.ac, [(.t 2)], 29) := by kernel_rfl
theorem f_spec_OverOk (W0 : World) (o : Over) : Fn Tryz.prog W0 21 [eOver o] (.c (CB (oOk o))) [] := by
  refine fnX (c := c_spec_OverOk) mixed c_spec_OverOk_eq (by simp) rfl fun hg => ?_
  have hc := f_l4Lower W0 o
  have hc2 := f_l4View W0 o
  cases hx : lower4 o with
  | none =>
    have hv : view4 o = none := by rw [view4, hx]
    rw [hx] at hc
    rw [hv] at hc2
    refine dr ?_
    repeat (refine c0 hc rfl ?_; first | refine dr ?_ | exact dz)
    intro hg1
    refine dr ?_
    repeat (refine c0 hc2 rfl ?_; first | refine dr ?_ | exact dz)
    intro hg2
    refine dr ?_
    rw [oOk, hx]
  | some t =>
    rw [hx] at hc
    cases hy : view4 o with
    | none =>
      rw [hy] at hc2
      refine dr ?_
      repeat (refine c0 hc rfl ?_; first | refine dr ?_ | exact dz)
      intro hg1
      refine dr ?_
      repeat (refine c0 hc2 rfl ?_; first | refine dr ?_ | exact dz)
      intro hg2
      refine dr ?_
      rw [oOk, hx, hy]
    | some x =>
      rw [hy] at hc2
      refine dr ?_
      repeat (refine c0 hc rfl ?_; first | refine dr ?_ | exact dz)
      intro hg1
      refine dr ?_
      repeat (refine c0 hc2 rfl ?_; first | refine dr ?_ | exact dz)
      intro hg2
      refine dr ?_
      repeat ((first | refine c0 (f_l3Diff W0 t x (lower4_tOk hx) (view4_tOk hy)) rfl ?_ | refine c0 (f_spec_LayerSame W0 _ _) rfl ?_); first | refine dr ?_ | exact dz)
      intro hg3
      refine dr ?_
      rw [oOk, hx, hy]
end Go.Proofs.YthblflnfhdnpdaaGreatDoor

namespace Go.Proofs.YthblflnfhdnpdaaGreatDoor
set_option linter.unusedSimpArgs false
set_option linter.unusedVariables false
open Go Go.RowKit
def c_spec_l3Both : XC := (.s (.r [.ex 4 (.mv (.i 0))]) (.s (.s (.r [.mv 5 0, .ex 6 (.bin .eql (.t 5) (.i 2)), .mv 7 6, .gt 8 (.mv (.t 1)) 7, .gt 9 (.bin .neq (.t 8) (.i 0)) 7, .ex 10 (.pick (.t 7) (.t 9) .n), .mv 11 10, .gt 12 (.mv (.t 1)) 11, .gt 13 (.bin .neq (.t 12) (.i 2)) 11, .ex 14 (.pick (.t 11) (.t 13) .n)]) (.cnd (.t 14) (.s (.r [.ex 4 (.mv (.i 4))]) .ret) .skip)) (.s (.r [.mv 15 0, .mv 4 15]) .ret)))
theorem c_spec_l3Both_eq : compF Tryz.prog [] 225 = some (c_spec_l3Both.ac, [(.t 4)], 16) := by kernel_rfl
theorem f_l3Both (W0 : World) (a b : Int) : Fn Tryz.prog W0 225 [CI a, CI b] (.c (CI (bothK a b))) [] := by
  refine fnX (c := c_spec_l3Both) mixed c_spec_l3Both_eq (by simp) rfl fun hg => ?_
  refine dr ?_
  refine cP (fun h1 => ?_) (fun h1 => ?_)
  · refine dr ?_
    refine cP (fun h2 => ?_) (fun h2 => ?_)
    · refine dr ?_
      refine cP (fun h3 => ?_) (fun h3 => ?_)
      · refine dr ?_
        exact congrArg CI (by rw [bothK, if_pos ⟨h1, h2, h3⟩])
      · refine dr ?_
        exact congrArg CI (by rw [bothK, if_neg (fun h => h.2.2 h3)])
    · refine dr ?_
      exact congrArg CI (by rw [bothK, if_neg (fun h => h.2.1 h2)])
  · refine dr ?_
    exact congrArg CI (by rw [bothK, if_neg (fun h => h1 h.1)])
def c_spec_l3Tidy : XC := (.s (.r [.ex 2 (.asn (.k .nil) 3 49)]) (.s (.r [.ex 6 .bsl0, .ex 3 (.asn (.t 6) 3 49)]) (.s (.s (.r [.ex 4 (.mv (.i 0))]) (.blk 0 (.loop (.s (.s (.r [.mv 7 4, .mv 8 0, .ex 9 (.len false (.t 8)), .ex 10 (.bin .lss (.t 7) (.t 9))]) (.cnd (.t 10) .skip (.exit 0))) (.s (.blk 1 (.s (.r [.mv 13 0, .mv 14 4, .ex 15 (.ia 3 (.t 13) (.t 14)), .ex 16 (.ld true 3 (.t 15)), .ex 5 (.alloc [(.c (.sc (.string ⟨#[]⟩))), (.c (.sc (.int .i64 0))), (.c (.sc (.string ⟨#[]⟩)))]), .nu (.st 3 (.t 5) (.t 16))]) (.s (.s (.r [.mv 17 3, .ex 18 (.fa 0 (.t 5)), .ex 19 (.ld false 1 (.t 18)), .ex 20 (.call 222 [(.t 17), (.t 19)])]) (.cnd (.t 20) (.s (.s (.r [.ex 21 (.fa 1 (.t 5)), .ex 22 (.ld false 1 (.t 21)), .ex 23 (.bin .eql (.t 22) (.i 3))]) (.cnd (.t 23) (.exit 1) .skip)) (.s (.r [.ex 24 (.fa 1 (.t 5)), .ex 25 (.ld false 1 (.t 24)), .ex 26 (.bin .eql (.t 25) (.i 4))]) (.cnd (.t 26) (.r [.ex 27 (.fa 1 (.t 5)), .nu (.st 1 (.t 27) (.i 2))]) .skip))) .skip)) (.r [.mv 28 3, .ex 29 (.ld true 3 (.t 5)), .ex 30 (.bsl 3 49 [(.t 29)]), .ex 31 (.app false 3 40 49 (.t 28) (.t 30)), .ex 3 (.asn (.t 31) 3 49)])))) (.r [.mv 11 4, .ex 12 (.bin .add (.t 11) (.i 1)), .mv 4 12])))))) (.s (.r [.mv 32 3, .ex 2 (.asn (.t 32) 3 49)]) .ret))))
theorem c_spec_l3Tidy_eq : compF Tryz.prog [] 150 = some (c_spec_l3Tidy.ac, [(.t 2)], 33) := by kernel_rfl
theorem tidyF_len {out : List Mark} {m : Mark} : (tidyF out m).length ≤ out.length + 1 := by
  unfold tidyF; split
  · split <;> simp
  · simp
theorem f_l3Tidy (W0 : World) (l : List Mark) (hl : l.length ≤ 1000000) : Fn Tryz.prog W0 150 [eMarks l] (.c (eMarks (l.foldl tidyF []))) [] := by
  refine fnX (c := c_spec_l3Tidy) mixed c_spec_l3Tidy_eq (by simp) rfl fun hg => ?_
  refine dr ?_
  refine lp2 (fun (k : Nat) (out : List Mark) => [(0, .c (eMarks l)), (3, .own 48 out.length), (4, I k)]) (fun _ out => [(48, .row (out.map eMark) 3 49)]) (fun k out => k ≤ l.length ∧ out = (l.take k).foldl tidyF [] ∧ out.length ≤ k) (fun k _ => l.length - k) 0 [] ⟨by simp, rfl, by simp⟩ ?_ ?_
  · refine dr ?_
    trivial
  rintro k out ⟨hk, ho, hle⟩
  refine dr ?_
  refine cP (fun h1 => ?_) (fun h1 => ?_)
  · have hk' : k < l.length := by omega
    have hn : (l.take (k + 1)).foldl tidyF [] = tidyF out l[k] := by rw [fold_next hk', ← ho]
    have hn2 : (tidyF out l[k]).length ≤ k + 1 := by have := tidyF_len (out := out) (m := l[k]); omega
    refine dr ?_
    repeat (refine c0 (f_l3Bare W0 out _) rfl ?_; first | refine dr ?_ | exact dz)
    refine cP (fun h2 => ?_) (fun h2 => ?_)
    · refine dr ?_
      refine cP (fun h3 => ?_) (fun h3 => ?_)
      · refine dr ?_
        have e : tidyF out l[k] = out := by rw [tidyF, if_pos h2, if_pos h3]
        refine ⟨k + 1, out, ⟨by omega, by rw [hn, e], by omega⟩, by omega, ?_⟩
        refine dr ?_
        trivial
      · refine dr ?_
        refine cP (fun h4 => ?_) (fun h4 => ?_)
        · refine dr ?_
          repeat ((first | refine oB (by simp; omega) ?_ | refine oB (by simp) ?_); first | refine dr ?_ | exact dz)
          have e : tidyF out l[k] = out ++ [⟨l[k].path, 2, l[k].data⟩] := by rw [tidyF, if_pos h2, if_neg h3, if_pos h4]
          refine ⟨k + 1, out ++ [⟨l[k].path, 2, l[k].data⟩], ⟨by omega, by rw [hn, e], by simp; omega⟩, by omega, ?_⟩
          refine dr ?_
          repeat (refine oB (by simp <;> rfl) ?_; first | refine dr ?_ | exact dz)
          trivial
        · refine dr ?_
          repeat ((first | refine oB (by simp; omega) ?_ | refine oB (by simp) ?_); first | refine dr ?_ | exact dz)
          have e : tidyF out l[k] = out ++ [l[k]] := by rw [tidyF, if_pos h2, if_neg h3, if_neg h4]
          refine ⟨k + 1, out ++ [l[k]], ⟨by omega, by rw [hn, e], by simp; omega⟩, by omega, ?_⟩
          refine dr ?_
          repeat (refine oB (by simp <;> rfl) ?_; first | refine dr ?_ | exact dz)
          trivial
    · refine dr ?_
      repeat ((first | refine oB (by simp; omega) ?_ | refine oB (by simp) ?_); first | refine dr ?_ | exact dz)
      have e : tidyF out l[k] = out ++ [l[k]] := by rw [tidyF, if_neg (by simp [h2])]
      refine ⟨k + 1, out ++ [l[k]], ⟨by omega, by rw [hn, e], by simp; omega⟩, by omega, ?_⟩
      refine dr ?_
      repeat (refine oB (by simp <;> rfl) ?_; first | refine dr ?_ | exact dz)
      trivial
  have hkl : k = l.length := by omega
  rw [hkl, List.take_length] at ho
  refine dr ?_
  repeat (refine oB (by simp) ?_; first | refine dr ?_ | exact dz)
  rw [ho]; rfl
def c_spec_l3Join : XC := (.s (.r [.ex 4 (.asn (.k .nil) 3 49)]) (.s (.r [.ex 9 .bsl0, .ex 5 (.asn (.t 9) 3 49)]) (.s (.s (.r [.ex 6 (.mv (.i 0))]) (.blk 0 (.loop (.s (.s (.r [.mv 10 6, .mv 11 1, .ex 12 (.len false (.t 11)), .ex 13 (.bin .lss (.t 10) (.t 12))]) (.cnd (.t 13) .skip (.exit 0))) (.s (.blk 1 (.s (.r [.mv 16 0, .mv 17 1, .mv 18 6, .ex 19 (.ia 3 (.t 17) (.t 18)), .ex 20 (.fa 0 (.t 19)), .ex 21 (.ld false 1 (.t 20)), .ex 22 (.call 223 [(.t 16), (.t 21)]), .ex 23 (.un .not (.t 22)), .mv 24 23, .gt 25 (.mv (.t 0)) 24, .gt 26 (.mv (.t 1)) 24, .gt 27 (.mv (.t 6)) 24, .gt 28 (.ia 3 (.t 26) (.t 27)) 24, .gt 29 (.fa 0 (.t 28)) 24, .gt 30 (.ld false 1 (.t 29)) 24, .gt 31 (.call 224 [(.t 25), (.t 30)]) 24, .gt 32 (.bin .eql (.t 31) (.i 0)) 24, .ex 33 (.pick (.t 24) (.t 32) .n)]) (.cnd (.t 33) (.r [.mv 34 5, .mv 35 1, .mv 36 6, .ex 37 (.ia 3 (.t 35) (.t 36)), .ex 38 (.ld true 3 (.t 37)), .ex 39 (.call 169 [(.t 34), (.t 38)]), .ex 5 (.asn (.t 39) 3 49)]) .skip))) (.r [.mv 14 6, .ex 15 (.bin .add (.t 14) (.i 1)), .mv 6 15])))))) (.s (.s (.r [.ex 7 (.mv (.i 0))]) (.blk 2 (.loop (.s (.s (.r [.mv 40 7, .mv 41 0, .ex 42 (.len false (.t 41)), .ex 43 (.bin .lss (.t 40) (.t 42))]) (.cnd (.t 43) .skip (.exit 2))) (.s (.blk 3 (.s (.r [.mv 46 0, .mv 47 7, .ex 48 (.ia 3 (.t 46) (.t 47)), .ex 49 (.ld true 3 (.t 48)), .ex 8 (.alloc [(.c (.sc (.string ⟨#[]⟩))), (.c (.sc (.int .i64 0))), (.c (.sc (.string ⟨#[]⟩)))]), .nu (.st 3 (.t 8) (.t 49))]) (.s (.d [.ex 50 (.fa 1 (.t 8)), .ex 51 (.ld false 1 (.t 50)), .mv 52 1, .ex 53 (.fa 0 (.t 8)), .ex 54 (.ld false 1 (.t 53)), .ex 55 (.call 224 [(.t 52), (.t 54)]), .ex 56 (.call 225 [(.t 51), (.t 55)]), .ex 57 (.fa 1 (.t 8)), .nu (.st 1 (.t 57) (.t 56))]) (.r [.mv 58 5, .ex 59 (.ld true 3 (.t 8)), .ex 60 (.call 169 [(.t 58), (.t 59)]), .ex 5 (.asn (.t 60) 3 49)])))) (.r [.mv 44 7, .ex 45 (.bin .add (.t 44) (.i 1)), .mv 7 45])))))) (.s (.r [.mv 61 5, .ex 4 (.asn (.t 61) 3 49)]) .ret)))))
theorem c_spec_l3Join_eq : compF Tryz.prog [] 151 = some (c_spec_l3Join.ac, [(.t 4)], 62) := by kernel_rfl
theorem f_l3Join (W0 : World) (a b : List Mark) (hl : a.length + b.length ≤ 1000000) : Fn Tryz.prog W0 151 [eMarks a, eMarks b] (.c (eMarks (join0 a b))) [] := by
  refine fnX (c := c_spec_l3Join) mixed c_spec_l3Join_eq (by simp) rfl fun hg => ?_
  refine dr ?_
  refine lz2 80 (fun (k : Nat) (out : List Mark) => [(0, .c (eMarks a)), (1, .c (eMarks b)), (5, .c (eMarks out)), (6, I k)]) (fun _ _ => []) (fun k out => k ≤ b.length ∧ out = ((b.take k).filter (joinB a)).foldl lput [] ∧ out.length ≤ k) (fun k _ => b.length - k) 0 [] ⟨by simp, rfl, by simp⟩ ?_ ?_
  · refine dr ?_
    trivial
  rintro k out ⟨hk, ho, hle⟩
  refine dr ?_
  refine cP (fun h1 => ?_) (fun h1 => ?_)
  · have hk' : k < b.length := by omega
    have no : joinB a b[k] = false → out = ((b.take (k + 1)).filter (joinB a)).foldl lput [] := fun h => by rw [filt_f hk' h, ho]
    have yes : joinB a b[k] = true → lput out b[k] = ((b.take (k + 1)).filter (joinB a)).foldl lput [] := fun h => by rw [filt_t hk' h, List.foldl_append, ← ho]; rfl
    refine dEr ?_
    repeat (refine c0 (f_l3Hides W0 _ _) rfl ?_; first | refine dEr ?_ | exact dz)
    refine cP (fun h2 => ?_) (fun h2 => ?_)
    · refine dEr ?_
      repeat (refine c0 (f_l3Kind W0 _ _) rfl ?_; first | refine dEr ?_ | exact dz)
      refine cP (fun h3 => ?_) (fun h3 => ?_)
      · have hpl : (lput out b[k]).length ≤ out.length + 1 := putG_len
        refine dEr ?_
        repeat (refine c0 (f_l3Put W0 _ b[k] (by omega)) rfl ?_; first | refine dEr ?_ | exact dz)
        refine ⟨k + 1, lput out b[k], ⟨by omega, yes (by simp [joinB, h2, h3]), by omega⟩, by omega, ?_⟩
        refine dr ?_
        trivial
      · refine dr ?_
        refine ⟨k + 1, out, ⟨by omega, no (by simp [joinB, h3]), by omega⟩, by omega, ?_⟩
        refine dr ?_
        trivial
    · refine dr ?_
      refine ⟨k + 1, out, ⟨by omega, no (by simp [joinB, h2]), by omega⟩, by omega, ?_⟩
      refine dr ?_
      trivial
  have hkl : k = b.length := by omega
  rw [hkl, List.take_length] at ho
  have hj : join0 a b = (a.map (joinM b)).foldl lput out := by rw [join0, ho]
  rw [hj]
  have hob : out.length ≤ b.length := by omega
  clear ho hk hle hj h1 hkl
  generalize hoo : out = o0 at *
  refine dr ?_
  refine lp2 (fun (k : Nat) (out : List Mark) => [(0, .c (eMarks a)), (1, .c (eMarks b)), (5, .c (eMarks out)), (7, I k)]) (fun _ _ => []) (fun k out => k ≤ a.length ∧ out = ((a.take k).map (joinM b)).foldl lput o0 ∧ out.length ≤ o0.length + k) (fun k _ => a.length - k) 0 o0 ⟨by simp, rfl, by simp⟩ ?_ ?_
  · refine dr ?_
    trivial
  clear hoo
  rintro k out ⟨hk, ho, hle⟩
  refine dr ?_
  refine cP (fun h1 => ?_) (fun h1 => ?_)
  · have hk' : k < a.length := by omega
    have hn : ((a.take (k + 1)).map (joinM b)).foldl lput o0 = lput out (joinM b a[k]) := by
      rw [List.take_succ_eq_append_getElem hk', List.map_append, List.foldl_append, ← ho]; rfl
    have hpl : (lput out (joinM b a[k])).length ≤ out.length + 1 := putG_len
    refine dEr ?_
    repeat ((first | refine c0 (f_l3Kind W0 _ _) rfl ?_ | refine c0 (f_l3Both W0 _ _) rfl ?_ | refine c0 (f_l3Put W0 _ (joinM b a[k]) (by omega)) rfl ?_); first | refine dEr ?_ | exact dz)
    refine ⟨k + 1, _, ⟨by omega, hn.symm, by omega⟩, by omega, ?_⟩
    refine dr ?_
    trivial
  have hkl : k = a.length := by omega
  rw [hkl, List.take_length] at ho
  refine dr ?_
  rw [ho]
def c_spec_LayerJoin : XC := (.s (.r [.ex 4 (.asn (.k .nil) 3 49), .ex 5 (.mv .n)]) (.s (.s (.r [.mv 7 0, .ex 8 (.call 149 [(.t 7)]), .ex 9 (.un .not (.t 8)), .mv 10 9, .gf 11 (.mv (.t 1)) 10, .gf 12 (.call 149 [(.t 11)]) 10, .gf 13 (.un .not (.t 12)) 10, .ex 14 (.pick (.t 10) .y (.t 13))]) (.cnd (.t 14) (.s (.r [.ex 15 .bsl0, .ex 4 (.asn (.t 15) 3 49), .ex 5 (.mv .n)]) .ret) .skip)) (.s (.r [.mv 16 0, .mv 17 1, .ex 18 (.call 151 [(.t 16), (.t 17)]), .ex 19 (.call 150 [(.t 18)]), .ex 6 (.asn (.t 19) 3 49)]) (.s (.s (.r [.mv 20 6, .ex 21 (.len false (.t 20)), .ex 22 (.bin .gtr (.t 21) (.i 32))]) (.cnd (.t 22) (.s (.r [.ex 23 .bsl0, .ex 4 (.asn (.t 23) 3 49), .ex 5 (.mv .n)]) .ret) .skip)) (.s (.r [.mv 24 6, .ex 4 (.asn (.t 24) 3 49), .ex 5 (.mv .y)]) .ret)))))
theorem c_spec_LayerJoin_eq : compF Tryz.prog [] 64 = some (c_spec_LayerJoin.ac, [(.t 4), (.t 5)], 25) := by kernel_rfl
theorem f_spec_LayerJoin (W0 : World) (a b : List Mark) : Fn Tryz.prog W0 64 [eMarks a, eMarks b] (.c (eMarksO (lJoin a b))) [] := by
  refine fnX (c := c_spec_LayerJoin) mixed c_spec_LayerJoin_eq (by simp) rfl fun hg => ?_
  refine dEr ?_
  repeat (refine c0 (f_spec_LayerOk W0 _) rfl ?_; first | refine dEr ?_ | exact dz)
  refine cP (fun h1 => ?_) (fun h1 => ?_)
  · refine dEr ?_
    rw [lJoin, if_neg (by simp [h1])]; rfl
  refine dEr ?_
  repeat (refine c0 (f_spec_LayerOk W0 _) rfl ?_; first | refine dEr ?_ | exact dz)
  refine cP (fun h2 => ?_) (fun h2 => ?_)
  · refine dr ?_
    rw [lJoin, if_neg (by simp [h2])]; rfl
  have ga := LG.of h1
  have gb := LG.of h2
  have hla := (lOk_iff.1 h1).1
  have hlb := (lOk_iff.1 h2).1
  have hjl : (join0 a b).length ≤ 1000000 := by
    have e1 : (join0 a b).length ≤ ((b.filter (joinB a)).foldl lput []).length + (a.map (joinM b)).length := fold_put_len (key := Mark.path) (a.map (joinM b)) ((b.filter (joinB a)).foldl lput [])
    have e2 : ((b.filter (joinB a)).foldl lput []).length ≤ 0 + (b.filter (joinB a)).length := fold_put_len (key := Mark.path) (b.filter (joinB a)) []
    have e3 := List.length_filter_le (joinB a) b
    rw [List.length_map] at e1
    omega
  have hc := f_l3Tidy W0 (join0 a b) hjl
  rw [tidy_fold_all (join0_LG ga gb)] at hc
  have e : lJoin a b = if (joinL a b).length ≤ 32 then some (joinL a b) else none := by rw [lJoin, if_pos (by simp [h1, h2])]
  rw [e]
  unfold joinL at *
  refine dr ?_
  repeat ((first | refine c0 (f_l3Join W0 _ _ (by omega)) rfl ?_ | refine c0 hc rfl ?_); first | refine dr ?_ | exact dz)
  intro hg3 hg4
  refine dr ?_
  refine cP (fun h3 => ?_) (fun h3 => ?_)
  · refine dr ?_
    rw [if_neg (by omega)]; rfl
  · refine dr ?_
    rw [if_pos (by omega)]; rfl
end Go.Proofs.YthblflnfhdnpdaaGreatDoor

namespace Go.Proofs.YthblflnfhdnpdaaGreatDoor
set_option linter.unusedSimpArgs false
set_option linter.unusedVariables false
open Go Go.RowKit
theorem aCode {k : Int} {s : Str} {K : CV → Prop} (h1 : 0 ≤ k) (h2 : k < s.length) (h : ∀ n : Int, 0 ≤ n → n ≤ 255 → K (CU n)) : AtX k (s.map fun b => CU b.toNat) K := by
  have hk : k.toNat < s.length := by omega
  refine ⟨k.toNat, by omega, _, ?_, h (s[k.toNat].toNat : Int) (by omega) ?_⟩
  · rw [List.getElem?_map, List.getElem?_eq_getElem hk]; rfl
  · have := UInt8.toNat_lt s[k.toNat]; omega
theorem aX {α : Type} {f : α → CV} {L : List α} {k : Int} {K : CV → Prop} (h1 : 0 ≤ k) (h2 : k < L.length) (h : ∀ x ∈ L, K (f x)) : AtX k (L.map f) K := by
  have hk : k.toNat < L.length := by omega
  exact ⟨k.toNat, by omega, _, by rw [List.getElem?_map, List.getElem?_eq_getElem hk]; rfl, h _ (List.getElem_mem hk)⟩
theorem xor_nn {a b : Int} (ha : 0 ≤ a) (ha2 : a < 4611686018427387904) (hb : 0 ≤ b) (hb2 : b < 4611686018427387904) : 0 ≤ IntKind.wrap .i64 ((BitVec.ofInt (IntKind.bits .i64) a ^^^ BitVec.ofInt (IntKind.bits .i64) b).toNat : Int) := by
  have e : ∀ x : Int, 0 ≤ x → x < 4611686018427387904 → (BitVec.ofInt 64 x).toNat = x.toNat := fun x h1 h2 => by
    rw [BitVec.toNat_ofInt]; omega
  show 0 ≤ IntKind.wrap .i64 ((BitVec.ofInt 64 a ^^^ BitVec.ofInt 64 b).toNat : Int)
  rw [BitVec.toNat_xor, e a ha ha2, e b hb hb2]
  have h : a.toNat ^^^ b.toNat < 2 ^ 62 := Nat.xor_lt_two_pow (by omega) (by omega)
  rw [wrap_i64 (by omega)]
  omega
theorem lset {α : Type} {f : α → CV} {t : List α} {k : Nat} {x : CV} : ((t.map f).set k x).length = t.length := by simp
theorem rset {α : Type} {f : α → CV} {t : List α} {k : Nat} {x : α} {y : CV} (e : f x = y := by rfl) : PV.c (.row ((t.map f).set k y)) = .c (.row ((t.set k x).map f)) := by rw [List.map_set, e]
theorem lapp {α : Type} {f : α → CV} {t : List α} {x : CV} : (t.map f ++ [x]).length = t.length + 1 := by simp
theorem rapp {α : Type} {f : α → CV} {t : List α} {x : α} : PV.c (.row (t.map f ++ [f x])) = .c (.row ((t ++ [x]).map f)) := by rw [List.map_append]; rfl
theorem retI {k0 : List Nat} {m : XM} {ok : Int → Prop} {M : Int → XM} {x : Int} (h : ok x) (hk : KeepX k0 none [(0, .c (CI x))] m [(0, .c (CI x))] (M x)) : RetX k0 (.c (CI x)) m (fun r mx => ∃ a, ok a ∧ r = .c (CI a) ∧ mx = M a) := ⟨none, _, _, hk, x, h, rfl, rfl⟩
theorem cutp2 {k0 : List Nat} {a : (Fr → XM → Prop) → Fr → XM → Prop} {b : Fr → XM → Prop} {F : Fr} {m : XM} {α β : Type} (fr : α → β → Fr) (mm : α → β → XM) (inv : α → β → Prop)
    (ha : a (fun F' m' => ∃ x y, inv x y ∧ KeepX k0 none F' m' (fr x y) (mm x y)) F m) (hb : ∀ x y, inv x y → b (fr x y) (mm x y)) : CutX k0 a b F m :=
  ⟨α × β, fun x => fr x.1 x.2, fun x => mm x.1 x.2, fun x => inv x.1 x.2, none, fun F' m' => ∃ x y, inv x y ∧ KeepX k0 none F' m' (fr x y) (mm x y), ha, fun _ _ ⟨x, y, h⟩ => ⟨(x, y), h⟩, fun x h => hb x.1 x.2 h⟩
theorem lz3 {k0 : List Nat} {body : (Fr → XM → Prop) → Fr → XM → Prop} {F : Fr} {m : XM} {α β γ : Type} (z : Nat) (fr : α → β → γ → Fr) (mm : α → β → γ → XM) (inv : α → β → γ → Prop) (me : α → β → γ → Nat) (a0 : α) (b0 : β) (c0 : γ) (h0 : inv a0 b0 c0) (hk : KeepX k0 (some z) F m (fr a0 b0 c0) (mm a0 b0 c0))
    (hb : ∀ a b c, inv a b c → body (fun F' m' => ∃ a' b' c', inv a' b' c' ∧ me a' b' c' < me a b c ∧ KeepX k0 none F' m' (fr a' b' c') (mm a' b' c')) (fr a b c) (mm a b c)) : LoopX k0 body F m :=
  ⟨α × β × γ, fun x => fr x.1 x.2.1 x.2.2, fun x => mm x.1 x.2.1 x.2.2, fun x => inv x.1 x.2.1 x.2.2, fun x => me x.1 x.2.1 x.2.2, some z, none, fun x F' m' => ∃ a' b' c', inv a' b' c' ∧ me a' b' c' < me x.1 x.2.1 x.2.2 ∧ KeepX k0 none F' m' (fr a' b' c') (mm a' b' c'),
    ⟨(a0, b0, c0), h0, hk⟩, fun _ _ _ ⟨a, b, c, h⟩ => ⟨(a, b, c), h⟩, fun x h => hb x.1 x.2.1 x.2.2 h⟩
abbrev Rd (s : Str) (p : Int) : XM := [(1, .box [.c (eCode s), .c (CI p)])]
def c_pick : XC := (.s (.r [.ex 4 (.mv (.i 0))]) (.s (.r [.mv 7 0, .mv 8 0, .ex 9 (.nck (.t 8)), .ex 10 (.fa 1 (.t 9)), .ex 11 (.ld false 1 (.t 10)), .ex 12 (.bin .add (.t 11) (.i 1)), .ex 13 (.nck (.t 7)), .ex 14 (.fa 1 (.t 13)), .nu (.st 1 (.t 14) (.t 12))]) (.s (.s (.r [.mv 15 1, .ex 16 (.bin .lss (.t 15) (.i 1)), .mv 17 16, .gf 18 (.mv (.t 0)) 17, .gf 19 (.nck (.t 18)) 17, .gf 20 (.fa 0 (.t 19)) 17, .gf 21 (.ld false 1 (.t 20)) 17, .gf 22 (.len false (.t 21)) 17, .gf 23 (.bin .eql (.t 22) (.i 0)) 17, .ex 24 (.pick (.t 17) .y (.t 23))]) (.cnd (.t 24) (.s (.r [.ex 4 (.mv (.i 0))]) .ret) .skip)) (.s (.r [.mv 25 0, .ex 26 (.nck (.t 25)), .ex 27 (.fa 1 (.t 26)), .ex 28 (.ld false 1 (.t 27)), .ex 29 (.bin .sub (.t 28) (.i 1)), .mv 5 29]) (.s (.s (.r [.mv 30 5, .mv 31 0, .ex 32 (.nck (.t 31)), .ex 33 (.fa 0 (.t 32)), .ex 34 (.ld false 1 (.t 33)), .ex 35 (.len false (.t 34)), .ex 36 (.bin .lss (.t 30) (.t 35))]) (.cnd (.t 36) (.s (.r [.mv 37 0, .ex 38 (.nck (.t 37)), .ex 39 (.fa 0 (.t 38)), .ex 40 (.ld false 1 (.t 39)), .mv 41 5, .ex 42 (.ia 1 (.t 40) (.t 41)), .ex 43 (.ld false 1 (.t 42)), .ex 44 (.conv .i64 (.t 43)), .mv 45 1, .ex 46 (.bin .rem (.t 44) (.t 45)), .mv 4 46]) .ret) .skip)) (.s (.d [.mv 47 0, .ex 48 (.nck (.t 47)), .ex 49 (.fa 0 (.t 48)), .ex 50 (.ld false 1 (.t 49)), .mv 51 5, .mv 52 0, .ex 53 (.nck (.t 52)), .ex 54 (.fa 0 (.t 53)), .ex 55 (.ld false 1 (.t 54)), .ex 56 (.len false (.t 55)), .ex 57 (.bin .rem (.t 51) (.t 56)), .ex 58 (.ia 1 (.t 50) (.t 57)), .ex 59 (.ld false 1 (.t 58)), .ex 60 (.conv .i64 (.t 59)), .ex 61 (.bin .mul (.t 60) (.i 131)), .mv 62 0, .ex 63 (.nck (.t 62)), .ex 64 (.fa 0 (.t 63)), .ex 65 (.ld false 1 (.t 64)), .mv 66 5, .ex 67 (.bin .mul (.t 66) (.i 7)), .ex 68 (.bin .add (.t 67) (.i 3)), .mv 69 0, .ex 70 (.nck (.t 69)), .ex 71 (.fa 0 (.t 70)), .ex 72 (.ld false 1 (.t 71)), .ex 73 (.len false (.t 72)), .ex 74 (.bin .rem (.t 68) (.t 73)), .ex 75 (.ia 1 (.t 65) (.t 74)), .ex 76 (.ld false 1 (.t 75)), .ex 77 (.conv .i64 (.t 76)), .ex 78 (.bin .mul (.t 77) (.i 1117)), .ex 79 (.bin .add (.t 61) (.t 78)), .mv 80 5, .ex 81 (.bin .mul (.t 80) (.i 29)), .ex 82 (.bin .add (.t 79) (.t 81)), .mv 83 5, .mv 84 0, .ex 85 (.nck (.t 84)), .ex 86 (.fa 0 (.t 85)), .ex 87 (.ld false 1 (.t 86)), .ex 88 (.len false (.t 87)), .ex 89 (.bin .quo (.t 83) (.t 88)), .ex 90 (.bin .mul (.t 89) (.i 53)), .ex 91 (.bin .add (.t 82) (.t 90)), .mv 6 91]) (.s (.r [.mv 92 6, .mv 93 6, .ex 94 (.bin .quo (.t 93) (.i 64)), .ex 95 (.bin .xor (.t 92) (.t 94)), .mv 6 95]) (.s (.r [.mv 96 6, .mv 97 1, .ex 98 (.bin .rem (.t 96) (.t 97)), .mv 4 98]) .ret))))))))
theorem c_pick_eq : compF Tryz.prog [] 55 = some (c_pick.ac, [(.t 4)], 99) := by kernel_rfl
theorem f_pick (W0 : World) (s : Str) (p n : Int) (hs : s.length ≤ 2000) (hp : 0 ≤ p ∧ p ≤ 1000000) (hn : n ≤ 1000000) :
    FunW Tryz.prog W0 55 [.ptr 1 0, .c (CI n)] (Rd s p) (fun k : Int => 0 ≤ k ∧ (1 ≤ n → k < n)) (fun k => .c (CI k)) (fun _ => Rd s (p + 1)) := by
  refine funW (c := c_pick) mixed c_pick_eq (by simp) rfl rfl fun hg => ?_
  refine dr ?_
  refine cP (fun h1 => ?_) (fun h1 => ?_)
  · refine dr ?_
    refine retI (x := 0) ⟨by omega, by omega⟩ ?_
    refine dr ?_
    trivial
  refine dr ?_
  refine cP (fun h2 => ?_) (fun h2 => ?_)
  · refine dr ?_
    refine retI (x := 0) ⟨by omega, by omega⟩ ?_
    refine dr ?_
    trivial
  have fin : ∀ x : Int, 0 ≤ x % n ∧ (1 ≤ n → x % n < n) := fun x => ⟨Int.emod_nonneg _ (by omega), fun _ => Int.emod_lt_of_pos _ (by omega)⟩
  have hl : 0 < (s.length : Int) := by omega
  have hq : 0 ≤ (p + 1 - 1) / (s.length : Int) ∧ (p + 1 - 1) / (s.length : Int) ≤ p + 1 - 1 := ⟨Int.ediv_nonneg (by omega) (by omega), Int.ediv_le_self _ (by omega)⟩
  refine dr ?_
  refine cP (fun h3 => ?_) (fun h3 => ?_)
  · refine dr ?_
    repeat (refine aCode (by omega) (by omega) fun v hv0 hv1 => ?_; first | refine dr ?_ | exact dz)
    refine retI (fin v) ?_
    refine dr ?_
    trivial
  · refine dr ?_
    repeat ((first | refine aCode (Int.emod_nonneg _ (by omega)) (Int.emod_lt_of_pos _ (by omega)) fun v hv0 hv1 => ?_ | refine oB ⟨xor_nn (by omega) (by omega) (by omega) (by omega), by omega, by omega⟩ ?_); first | refine dr ?_ | exact dz)
    refine retI (fin _) ?_
    refine dr ?_
    trivial
def c_spec_l10Open : XC := (.s (.r [.ex 2 (.mv (.k .np))]) (.s (.s (.r [.mv 3 0, .ex 4 (.len false (.t 3)), .ex 5 (.bin .gtr (.t 4) (.i 2000))]) (.cnd (.t 5) (.r [.mv 6 0, .ex 7 (.slr 1 (.t 6) .none (.some (.i 2000))), .ex 0 (.asn (.t 7) 1 5)]) .skip)) (.s (.r [.mv 8 0, .ex 9 (.build [.nil, (.c (.sc (.int .i64 0)))] [(0, (1, (.t 8)))]), .ex 10 (.box (.t 9)), .mv 2 10]) .ret)))
theorem c_spec_l10Open_eq : compF Tryz.prog [] 53 = some (c_spec_l10Open.ac, [(.t 2)], 11) := by kernel_rfl
theorem f_l10Open0 (W0 : World) (s : Str) : FunW Tryz.prog W0 53 [.c (eCode s)] [] (fun x : Str => x.length ≤ 2000) (fun _ => .ptr 160 0) (fun x => [(160, .box [.c (eCode x), .c (CI 0)])]) := by
  refine funW (c := c_spec_l10Open) mixed c_spec_l10Open_eq (by simp) rfl rfl fun hg => ?_
  refine dr ?_
  refine cP (fun h1 => ?_) (fun h1 => ?_)
  · refine dr ?_
    repeat (refine sHiM 2000 rfl (by omega) ?_; first | refine dr ?_ | exact dz)
    refine ⟨none, _, _, ?_, s.take 2000, by simp; omega, rfl, rfl⟩
    refine dr ?_
    trivial
  · refine dr ?_
    refine ⟨none, _, _, ?_, s, by omega, rfl, rfl⟩
    refine dr ?_
    trivial
theorem f_l10Open (W0 : World) (s : Str) : FunW Tryz.prog W0 53 [.c (eCode s)] [] (fun x : Str => x.length ≤ 2000) (fun _ => .ptr 1 0) (fun x => Rd x 0) := (f_l10Open0 W0 s).swp 160 1
def c_rdnum : XC := (.s (.r [.ex 4 (.mv (.i 0))]) (.s (.r [.mv 5 1, .mv 6 0, .mv 7 1, .ex 8 (.len false (.t 7)), .ex 9 (.opn 55 [(.t 6), (.t 8)]), .ex 10 (.ia 1 (.t 5) (.t 9)), .ex 11 (.ld false 1 (.t 10)), .mv 4 11]) .ret))
theorem c_rdnum_eq : compF Tryz.prog [55] 95 = some (c_rdnum.ac, [(.t 4)], 12) := by kernel_rfl
theorem f_num (W0 : World) (s : Str) (p : Int) (l : List Int) (hs : s.length ≤ 2000) (hp : 0 ≤ p ∧ p ≤ 1000000) (hl : 1 ≤ l.length ∧ l.length ≤ 1000) :
    FunW Tryz.prog W0 95 [.ptr 1 0, .c (eInts l)] (Rd s p) (fun x : Int => x ∈ l) (fun x => .c (CI x)) (fun _ => Rd s (p + 1)) := by
  refine funW (c := c_rdnum) mixed c_rdnum_eq (by simp) rfl rfl fun hg => ?_
  refine dr ?_
  refine oW (f_pick W0 s p l.length hs hp (by omega)) rfl ⟨rfl, trivial⟩ rfl rfl ⟨0, by omega, by omega⟩ fun k hk => ⟨rfl, ?_⟩
  refine dr ?_
  refine aX hk.1 (hk.2 (by omega)) fun x hx => ?_
  refine dEr ?_
  refine ⟨none, _, _, ?_, x, hx, rfl, rfl⟩
  refine dr ?_
  trivial
def c_rdof : XC := (.s (.r [.ex 4 (.mv (.s []))]) (.s (.r [.mv 5 1, .mv 6 0, .mv 7 1, .ex 8 (.len false (.t 7)), .ex 9 (.opn 55 [(.t 6), (.t 8)]), .ex 10 (.ia 1 (.t 5) (.t 9)), .ex 11 (.ld false 1 (.t 10)), .mv 4 11]) .ret))
theorem c_rdof_eq : compF Tryz.prog [55] 141 = some (c_rdof.ac, [(.t 4)], 12) := by kernel_rfl
theorem f_of (W0 : World) (s : Str) (p : Int) (l : List Str) (hs : s.length ≤ 2000) (hp : 0 ≤ p ∧ p ≤ 1000000) (hl : 1 ≤ l.length ∧ l.length ≤ 1000) :
    FunW Tryz.prog W0 141 [.ptr 1 0, .c (eStrs l)] (Rd s p) (fun x : Str => x ∈ l) (fun x => .c (CS x)) (fun _ => Rd s (p + 1)) := by
  refine funW (c := c_rdof) mixed c_rdof_eq (by simp) rfl rfl fun hg => ?_
  refine dr ?_
  refine oW (f_pick W0 s p l.length hs hp (by omega)) rfl ⟨rfl, trivial⟩ rfl rfl ⟨0, by omega, by omega⟩ fun k hk => ⟨rfl, ?_⟩
  refine dr ?_
  refine aX hk.1 (hk.2 (by omega)) fun x hx => ?_
  refine dEr ?_
  refine ⟨none, _, _, ?_, x, hx, rfl, rfl⟩
  refine dr ?_
  trivial
def drawnPaths : List Str := [[47, 97], [47, 98], [47, 97, 47, 98], [47, 97, 47, 99], [47, 98, 47, 97], [47, 97, 98], [47, 97, 47, 98, 47, 99], [47, 97, 47, 98, 47, 97], [47, 98, 47, 98], [47, 99]]
def drawnData : List Str := [[], [120], [121], [49, 50], [97, 98, 99], [122, 57]]
def c_spec_l1Path : XC := (.s (.r [.ex 2 (.mv (.s []))]) (.s (.r [.mv 3 0, .ex 4 (.bsl 1 9 [(.s [47, 97]), (.s [47, 98]), (.s [47, 97, 47, 98]), (.s [47, 97, 47, 99]), (.s [47, 98, 47, 97]), (.s [47, 97, 98]), (.s [47, 97, 47, 98, 47, 99]), (.s [47, 97, 47, 98, 47, 97]), (.s [47, 98, 47, 98]), (.s [47, 99])]), .ex 5 (.opn 141 [(.t 3), (.t 4)]), .mv 2 5]) .ret))
theorem c_spec_l1Path_eq : compF Tryz.prog [141] 139 = some (c_spec_l1Path.ac, [(.t 2)], 6) := by kernel_rfl
theorem f_l1Path (W0 : World) (s : Str) (p : Int) (hs : s.length ≤ 2000) (hp : 0 ≤ p ∧ p ≤ 1000000) :
    FunW Tryz.prog W0 139 [.ptr 1 0] (Rd s p) (fun x : Str => x ∈ drawnPaths) (fun x => .c (CS x)) (fun _ => Rd s (p + 1)) := by
  refine funW (c := c_spec_l1Path) mixed c_spec_l1Path_eq (by simp) rfl rfl fun hg => ?_
  refine dr ?_
  refine oW (f_of W0 s p drawnPaths hs hp (by decide)) rfl ⟨rfl, trivial⟩ rfl rfl ⟨_, List.mem_cons_self⟩ fun x hx => ⟨rfl, ?_⟩
  refine dEr ?_
  refine ⟨none, _, _, ?_, x, hx, rfl, rfl⟩
  refine dr ?_
  trivial
def c_spec_l2Some : XC := (.s (.r [.ex 2 (.mv (.s []))]) (.s (.r [.mv 3 0, .ex 4 (.bsl 1 9 [(.s []), (.s [120]), (.s [121]), (.s [49, 50]), (.s [97, 98, 99]), (.s [122, 57])]), .ex 5 (.opn 141 [(.t 3), (.t 4)]), .mv 2 5]) .ret))
theorem c_spec_l2Some_eq : compF Tryz.prog [141] 140 = some (c_spec_l2Some.ac, [(.t 2)], 6) := by kernel_rfl
theorem f_l2Some (W0 : World) (s : Str) (p : Int) (hs : s.length ≤ 2000) (hp : 0 ≤ p ∧ p ≤ 1000000) :
    FunW Tryz.prog W0 140 [.ptr 1 0] (Rd s p) (fun x : Str => x ∈ drawnData) (fun x => .c (CS x)) (fun _ => Rd s (p + 1)) := by
  refine funW (c := c_spec_l2Some) mixed c_spec_l2Some_eq (by simp) rfl rfl fun hg => ?_
  refine dr ?_
  refine oW (f_of W0 s p drawnData hs hp (by decide)) rfl ⟨rfl, trivial⟩ rfl rfl ⟨_, List.mem_cons_self⟩ fun x hx => ⟨rfl, ?_⟩
  refine dEr ?_
  refine ⟨none, _, _, ?_, x, hx, rfl, rfl⟩
  refine dr ?_
  trivial
end Go.Proofs.YthblflnfhdnpdaaGreatDoor

namespace Go.Proofs.YthblflnfhdnpdaaGreatDoor
set_option linter.unusedSimpArgs false
set_option linter.unusedVariables false
open Go Go.RowKit
theorem lq {k0 : List Nat} {body : (Fr → XM → Prop) → Fr → XM → Prop} {F : Fr} {m : XM} {σ : Type} (fr : σ → Fr) (mm : σ → XM) (inv : σ → Prop) (me : σ → Nat) (x0 : σ) (h0 : inv x0) (hk : KeepX k0 (some 3) F m (fr x0) (mm x0))
    (hb : ∀ x, inv x → body (fun F' m' => ∃ x', inv x' ∧ me x' < me x ∧ KeepX k0 (some 3) F' m' (fr x') (mm x')) (fr x) (mm x)) : LoopX k0 body F m :=
  ⟨σ, fr, mm, inv, me, some 3, some 3, _, ⟨x0, h0, hk⟩, fun _ _ _ h => h, hb⟩
theorem lq3 {k0 : List Nat} {body : (Fr → XM → Prop) → Fr → XM → Prop} {F : Fr} {m : XM} {α β γ : Type} (fr : α → β → γ → Fr) (mm : α → β → γ → XM) (inv : α → β → γ → Prop) (me : α → β → γ → Nat) (a0 : α) (b0 : β) (c0 : γ) (h0 : inv a0 b0 c0) (hk : KeepX k0 (some 3) F m (fr a0 b0 c0) (mm a0 b0 c0))
    (hb : ∀ a b c, inv a b c → body (fun F' m' => ∃ a' b' c', inv a' b' c' ∧ me a' b' c' < me a b c ∧ KeepX k0 (some 3) F' m' (fr a' b' c') (mm a' b' c')) (fr a b c) (mm a b c)) : LoopX k0 body F m :=
  ⟨α × β × γ, fun x => fr x.1 x.2.1 x.2.2, fun x => mm x.1 x.2.1 x.2.2, fun x => inv x.1 x.2.1 x.2.2, fun x => me x.1 x.2.1 x.2.2, some 3, some 3, fun x F' m' => ∃ a' b' c', inv a' b' c' ∧ me a' b' c' < me x.1 x.2.1 x.2.2 ∧ KeepX k0 (some 3) F' m' (fr a' b' c') (mm a' b' c'),
    ⟨(a0, b0, c0), h0, hk⟩, fun _ _ _ ⟨a, b, c, h⟩ => ⟨(a, b, c), h⟩, fun x h => hb x.1 x.2.1 x.2.2 h⟩
structure OZ (k : Nat) (o : Over) : Prop where
  b : o.base.length ≤ k
  n : o.layers.length ≤ k
  l : ∀ l ∈ o.layers, l.length ≤ k
  u : o.upper.length ≤ k
theorem OS.oz {o : Over} (h : OS o) : OZ 32 o := ⟨by have := h.b; omega, by have := h.n; omega, h.l, h.u⟩
theorem OZ.mono {o : Over} {n m : Nat} (h : OZ n o) (hm : n ≤ m) : OZ m o := ⟨by have := h.b; omega, by have := h.n; omega, fun l hl => by have := h.l l hl; omega, by have := h.u; omega⟩
def c_spec_l4Copy : XC := (.s (.r [.ex 1 (.box (.t 0)), .ex 2 (.alloc [.nil, .nil, .nil])]) (.s (.d [.ex 5 .bsl0, .ex 6 (.fa 0 (.t 1)), .ex 7 (.ld false 1 (.t 6)), .ex 8 (.app true 3 40 59 (.t 5) (.t 7)), .ex 9 .bsl0, .ex 10 (.fa 2 (.t 1)), .ex 11 (.ld false 1 (.t 10)), .ex 12 (.app true 3 40 49 (.t 9) (.t 11)), .ex 13 (.build [.nil, .nil, .nil] [(0, (1, (.t 8))), (2, (1, (.t 12)))]), .ex 3 (.alloc [.nil, .nil, .nil]), .nu (.st 3 (.t 3) (.t 13))]) (.s (.s (.r [.ex 4 (.mv (.i 0))]) (.blk 0 (.loop (.s (.s (.r [.mv 14 4, .ex 15 (.fa 1 (.t 1)), .ex 16 (.ld false 1 (.t 15)), .ex 17 (.len false (.t 16)), .ex 18 (.bin .lss (.t 14) (.t 17))]) (.cnd (.t 18) .skip (.exit 0))) (.s (.blk 1 (.d [.ex 21 (.fa 1 (.t 3)), .ex 22 (.ld false 1 (.t 21)), .ex 23 .bsl0, .ex 24 (.fa 1 (.t 1)), .ex 25 (.ld false 1 (.t 24)), .mv 26 4, .ex 27 (.ia 1 (.t 25) (.t 26)), .ex 28 (.ld false 1 (.t 27)), .ex 29 (.app true 3 40 49 (.t 23) (.t 28)), .ex 30 (.bsl 1 25 [(.t 29)]), .ex 31 (.app false 1 24 25 (.t 22) (.t 30)), .ex 32 (.fa 1 (.t 3)), .nu (.st 1 (.t 32) (.t 31))])) (.r [.mv 19 4, .ex 20 (.bin .add (.t 19) (.i 1)), .mv 4 20])))))) (.s (.r [.ex 33 (.ld true 3 (.t 3)), .nu (.st 3 (.t 2) (.t 33))]) .ret))))
theorem c_spec_l4Copy_eq : compF Tryz.prog [] 63 = some (c_spec_l4Copy.ac, [(.cell 2 true 3)], 34) := by kernel_rfl
theorem f_l4Copy (W0 : World) (o : Over) (h : OZ 1000000 o) : FunW Tryz.prog W0 63 [.c (eOver o)] [] (fun _ : Unit => True) (fun _ => .agg [.c (eEnts o.base), .own 4 o.layers.length, .c (eMarks o.upper)]) (fun _ => [(4, .row (o.layers.map eMarks) 1 25)]) := by
  refine funW (c := c_spec_l4Copy) mixed c_spec_l4Copy_eq (by simp) rfl rfl fun hg => ?_
  obtain ⟨z1, z2, z3, z4⟩ := h
  refine dr ?_
  refine lq (σ := Nat) (fun k => [(1, .ptr 16 0), (2, .ptr 32 0), (3, .ptr 48 0), (4, I k)]) (fun k => [(4, .row ((o.layers.take k).map eMarks) 1 25), (16, .box [.c (eEnts o.base), .c (eMarkss o.layers), .c (eMarks o.upper)]), (32, .box [.nil, .nil, .nil]), (48, .box [.c (eEnts o.base), .own 4 k, .c (eMarks o.upper)])]) (fun k => k ≤ o.layers.length) (fun k => o.layers.length - k) 0 (by simp) ?_ ?_
  · refine KeepX.trans (z := some 128) (z' := some 3) (F1 := [(1, .ptr 16 0), (2, .ptr 32 0), (3, .ptr 48 0), (4, I 0)]) (m1 := [(16, .box [.c (eEnts o.base), .c (eMarkss o.layers), .c (eMarks o.upper)]), (32, .box [.nil, .nil, .nil]), (48, .box [.c (eEnts o.base), .nil, .own 192 o.upper.length]), (192, .row (o.upper.map eMark) 3 49)]) ?_ ?_
    · refine dr ?_
      repeat (refine oB (by simp <;> rfl) ?_; first | refine dr ?_ | exact dz)
      trivial
    refine KeepX.trans (z := some 192) (z' := some 3) (F1 := [(1, .ptr 16 0), (2, .ptr 32 0), (3, .ptr 48 0), (4, I 0)]) (m1 := [(16, .box [.c (eEnts o.base), .c (eMarkss o.layers), .c (eMarks o.upper)]), (32, .box [.nil, .nil, .nil]), (48, .box [.c (eEnts o.base), .nil, .c (eMarks o.upper)])]) ?_ ?_
    · refine dr ?_
      repeat (refine oB (by simp <;> rfl) ?_; first | refine dr ?_ | exact dz)
      trivial
    · show KeepS _ _ _ _ _
      exact KeepS.nilB 48 [.c (eEnts o.base), .nil, .c (eMarks o.upper)] [.c (eEnts o.base), .own 4 0, .c (eMarks o.upper)] 4 25 rfl rfl ⟨nr0, nr1, nr0, trivial⟩
  intro k hk
  refine dr ?_
  refine cP (fun h1 => ?_) (fun h1 => ?_)
  · have hk' : k < o.layers.length := by omega
    have hz := z3 _ (List.getElem_mem hk')
    refine dr ?_
    repeat ((first | refine oB (by simp; omega) ?_ | refine oB (by simp) ?_); first | refine dr ?_ | exact dz)
    refine ⟨k + 1, by omega, by omega, ?_⟩
    rw [List.take_succ_eq_append_getElem hk', List.map_append]
    refine KeepS.push (C := (o.layers.take k).map eMarks) (L := o.layers[k].map eMark) 4 464 rfl rfl (by simp) ?_
    refine dr ?_
    trivial
  have hkl : k = o.layers.length := by omega
  subst hkl
  rw [List.take_length]
  refine dr ?_
  refine ⟨none, _, _, ?_, (), trivial, rfl, rfl⟩
  refine dr ?_
  trivial
theorem f_l4CopyC (W0 : World) (o : Over) (h : OZ 1000000 o) : Fn Tryz.prog W0 63 [eOver o] (.c (eOver o)) [] := by
  refine fnX (c := c_spec_l4Copy) mixed c_spec_l4Copy_eq (by simp) rfl fun hg => ?_
  obtain ⟨z1, z2, z3, z4⟩ := h
  refine dr ?_
  refine lq (σ := Nat) (fun k => [(1, .ptr 16 0), (2, .ptr 32 0), (3, .ptr 48 0), (4, I k)]) (fun k => [(4, .row ((o.layers.take k).map eMarks) 1 25), (16, .box [.c (eEnts o.base), .c (eMarkss o.layers), .c (eMarks o.upper)]), (32, .box [.nil, .nil, .nil]), (48, .box [.c (eEnts o.base), .own 4 k, .c (eMarks o.upper)])]) (fun k => k ≤ o.layers.length) (fun k => o.layers.length - k) 0 (by simp) ?_ ?_
  · refine KeepX.trans (z := some 128) (z' := some 3) (F1 := [(1, .ptr 16 0), (2, .ptr 32 0), (3, .ptr 48 0), (4, I 0)]) (m1 := [(16, .box [.c (eEnts o.base), .c (eMarkss o.layers), .c (eMarks o.upper)]), (32, .box [.nil, .nil, .nil]), (48, .box [.c (eEnts o.base), .nil, .own 192 o.upper.length]), (192, .row (o.upper.map eMark) 3 49)]) ?_ ?_
    · refine dr ?_
      repeat (refine oB (by simp <;> rfl) ?_; first | refine dr ?_ | exact dz)
      trivial
    refine KeepX.trans (z := some 192) (z' := some 3) (F1 := [(1, .ptr 16 0), (2, .ptr 32 0), (3, .ptr 48 0), (4, I 0)]) (m1 := [(16, .box [.c (eEnts o.base), .c (eMarkss o.layers), .c (eMarks o.upper)]), (32, .box [.nil, .nil, .nil]), (48, .box [.c (eEnts o.base), .nil, .c (eMarks o.upper)])]) ?_ ?_
    · refine dr ?_
      repeat (refine oB (by simp <;> rfl) ?_; first | refine dr ?_ | exact dz)
      trivial
    · show KeepS _ _ _ _ _
      exact KeepS.nilB 48 [.c (eEnts o.base), .nil, .c (eMarks o.upper)] [.c (eEnts o.base), .own 4 0, .c (eMarks o.upper)] 4 25 rfl rfl ⟨nr0, nr1, nr0, trivial⟩
  intro k hk
  refine dr ?_
  refine cP (fun h1 => ?_) (fun h1 => ?_)
  · have hk' : k < o.layers.length := by omega
    have hz := z3 _ (List.getElem_mem hk')
    refine dr ?_
    repeat ((first | refine oB (by simp; omega) ?_ | refine oB (by simp) ?_); first | refine dr ?_ | exact dz)
    refine ⟨k + 1, by omega, by omega, ?_⟩
    rw [List.take_succ_eq_append_getElem hk', List.map_append]
    refine KeepS.push (C := (o.layers.take k).map eMarks) (L := o.layers[k].map eMark) 4 464 rfl rfl (by simp) ?_
    refine dr ?_
    trivial
  have hkl : k = o.layers.length := by omega
  subst hkl
  rw [List.take_length]
  refine dr ?_
  rfl
def c_spec_l4With : XC := (.s (.r [.ex 2 (.box (.t 0)), .ex 4 (.alloc [.nil, .nil, .nil])]) (.s (.r [.ex 8 (.ld true 3 (.t 2)), .ex 9 (.call 72 [(.t 8)]), .mv 7 9, .ex 10 (.ext (.t 7) 0), .ex 11 (.ext (.t 7) 1), .ex 5 (.asn (.t 10) 3 59), .mv 6 11]) (.s (.r [.mv 12 5, .mv 13 1, .ex 14 (.call 74 [(.t 12), (.t 13)]), .ex 15 (.fa 2 (.t 2)), .nu (.st 1 (.t 15) (.t 14))]) (.s (.r [.ex 16 (.ld true 3 (.t 2)), .nu (.st 3 (.t 4) (.t 16))]) .ret))))
theorem c_spec_l4With_eq : compF Tryz.prog [] 71 = some (c_spec_l4With.ac, [(.cell 4 true 3)], 17) := by kernel_rfl
theorem f_l4With (W0 : World) (o : Over) (t x : List Ent) (h1 : lower4 o = some t) (ht : tOk t = true) (hx : tOk x = true) : Fn Tryz.prog W0 71 [eOver o, eEnts x] (.c (eOver ⟨o.base, o.layers, diff t x⟩)) [] := by
  refine fnX (c := c_spec_l4With) mixed c_spec_l4With_eq (by simp) rfl fun hg => ?_
  have q := f_l4Lower W0 o
  rw [h1] at q
  refine dEr ?_
  repeat ((first | refine c0 q rfl ?_ | refine c0 (f_l3Diff W0 t x ht hx) rfl ?_); first | refine dEr ?_ | exact dz)
  rfl
def c_spec_OverDo : XC := (.s (.r [.ex 2 (.box (.t 0)), .ex 3 (.box (.t 1)), .ex 4 (.alloc [.nil, .nil, .nil]), .ex 5 (.mv (.i 0))]) (.s (.s (.r [.ex 10 (.ld true 3 (.t 2)), .ex 11 (.call 21 [(.t 10)]), .ex 12 (.un .not (.t 11))]) (.cnd (.t 12) (.s (.r [.ex 13 (.build [.nil, .nil, .nil] []), .nu (.st 3 (.t 4) (.t 13)), .ex 5 (.mv (.i 1))]) .ret) .skip)) (.s (.r [.ex 15 (.ld true 3 (.t 2)), .ex 16 (.call 57 [(.t 15)]), .mv 14 16, .ex 17 (.ext (.t 14) 0), .ex 18 (.ext (.t 14) 1), .ex 6 (.asn (.t 17) 3 59), .mv 7 18]) (.s (.r [.mv 20 6, .ex 21 (.ld true 4 (.t 3)), .ex 22 (.call 70 [(.t 20), (.t 21)]), .mv 19 22, .ex 23 (.ext (.t 19) 0), .ex 24 (.ext (.t 19) 1), .ex 8 (.asn (.t 23) 3 59), .mv 9 24]) (.s (.s (.r [.mv 25 9, .ex 26 (.bin .neq (.t 25) (.i 0))]) (.cnd (.t 26) (.s (.r [.ex 27 (.ld true 3 (.t 2)), .ex 28 (.call 63 [(.t 27)]), .mv 29 9, .nu (.st 3 (.t 4) (.t 28)), .mv 5 29]) .ret) .skip)) (.s (.r [.ex 30 (.ld true 3 (.t 2)), .ex 31 (.call 63 [(.t 30)]), .mv 32 8, .ex 33 (.call 71 [(.t 31), (.t 32)]), .mv 34 9, .nu (.st 3 (.t 4) (.t 33)), .mv 5 34]) .ret))))))
theorem c_spec_OverDo_eq : compF Tryz.prog [] 20 = some (c_spec_OverDo.ac, [(.cell 4 true 3), (.t 5)], 35) := by kernel_rfl
theorem f_spec_OverDo (W0 : World) (o : Over) (op : Op) : Fn Tryz.prog W0 20 [eOver o, eOp op] (.c (eOC (oDo o op))) [] := by
  refine fnX (c := c_spec_OverDo) mixed c_spec_OverDo_eq (by simp) rfl fun hg => ?_
  refine dEr ?_
  repeat (refine c0 (f_spec_OverOk W0 o) rfl ?_; first | refine dEr ?_ | exact dz)
  refine cP (fun h1 => ?_) (fun h1 => ?_)
  · refine dr ?_
    rw [oDo, if_neg (by simp [h1])] <;> rfl
  obtain ⟨t, x, g⟩ := OG.of h1
  rw [g.doEq]
  have q1 := f_l4View W0 o
  rw [g.vw] at q1
  have q2 := f_spec_TreeDo W0 x op
  have q3 := f_l4CopyC W0 o (g.os.oz.mono (by omega))
  have q4 := (treeDo_ok g.gx (op := op))
  generalize treeDo x op = r at *
  obtain ⟨y, c⟩ := r
  refine dEr ?_
  repeat ((first | refine c0 q1 rfl ?_ | refine c0 q2 rfl ?_); first | refine dEr ?_ | exact dz)
  refine cP (fun h2 => ?_) (fun h2 => ?_)
  · refine dEr ?_
    repeat (refine c0 q3 rfl ?_; first | refine dEr ?_ | exact dz)
    rw [if_neg h2] <;> rfl
  · obtain ⟨_, _, k1, k2⟩ := q4 h2
    simp only at k1
    have q5 := f_l4With W0 o t y g.low g.gt (by rw [k1]; exact k2)
    refine dEr ?_
    repeat ((first | refine c0 q3 rfl ?_ | refine c0 q5 rfl ?_); first | refine dEr ?_ | exact dz)
    rw [if_pos h2, h2] <;> rfl
def c_spec_OverPush : XC := (.s (.r [.ex 1 (.box (.t 0)), .ex 2 (.alloc [.nil, .nil, .nil]), .ex 3 (.mv .n)]) (.s (.s (.r [.ex 5 (.ld true 3 (.t 1)), .ex 6 (.call 21 [(.t 5)]), .ex 7 (.un .not (.t 6))]) (.cnd (.t 7) (.s (.r [.ex 8 (.build [.nil, .nil, .nil] []), .nu (.st 3 (.t 2) (.t 8)), .ex 3 (.mv .n)]) .ret) .skip)) (.s (.r [.ex 9 (.ld true 3 (.t 1)), .ex 10 (.opn 63 [(.t 9)]), .ex 4 (.alloc [.nil, .nil, .nil]), .nu (.st 3 (.t 4) (.t 10))]) (.s (.s (.r [.ex 11 (.fa 1 (.t 1)), .ex 12 (.ld false 1 (.t 11)), .ex 13 (.len false (.t 12)), .ex 14 (.bin .geq (.t 13) (.i 4))]) (.cnd (.t 14) (.s (.r [.ex 15 (.ld true 3 (.t 4)), .nu (.st 3 (.t 2) (.t 15)), .ex 3 (.mv .n)]) .ret) .skip)) (.s (.r [.ex 16 (.fa 1 (.t 4)), .ex 17 (.ld false 1 (.t 16)), .ex 18 (.fa 2 (.t 4)), .ex 19 (.ld false 1 (.t 18)), .ex 20 (.bsl 1 25 [(.t 19)]), .ex 21 (.app false 1 24 25 (.t 17) (.t 20)), .ex 22 (.fa 1 (.t 4)), .nu (.st 1 (.t 22) (.t 21))]) (.s (.r [.ex 23 .bsl0, .ex 24 (.fa 2 (.t 4)), .nu (.st 1 (.t 24) (.t 23))]) (.s (.r [.ex 25 (.ld true 3 (.t 4)), .nu (.st 3 (.t 2) (.t 25)), .ex 3 (.mv .y)]) .ret)))))))
theorem c_spec_OverPush_eq : compF Tryz.prog [63] 56 = some (c_spec_OverPush.ac, [(.cell 2 true 3), (.t 3)], 26) := by kernel_rfl
theorem f_spec_OverPush (W0 : World) (o : Over) : Fn Tryz.prog W0 56 [eOver o] (.c (eOB (oPush o))) [] := by
  refine fnX (c := c_spec_OverPush) mixed c_spec_OverPush_eq (by simp) rfl fun hg => ?_
  refine dEr ?_
  repeat (refine c0 (f_spec_OverOk W0 o) rfl ?_; first | refine dEr ?_ | exact dz)
  refine cP (fun h1 => ?_) (fun h1 => ?_)
  · refine dr ?_
    rw [oPush, if_neg (by simp [h1])] <;> rfl
  have hz := OS.ok h1
  rw [oPush, if_pos h1]
  refine dr ?_
  refine oW (f_l4Copy W0 o (hz.oz.mono (by omega))) rfl trivial rfl rfl ⟨(), trivial⟩ fun _ _ => ⟨rfl, ?_⟩
  refine dEr ?_
  refine cP (fun h2 => ?_) (fun h2 => ?_)
  · refine dr ?_
    repeat (refine oB (by simp) ?_; first | refine dr ?_ | exact dz)
    rw [if_pos (by omega)] <;> rfl
  · have := hz.n
    refine dr ?_
    repeat ((first | refine oB (by simp; omega) ?_ | refine oB (by simp) ?_); first | refine dr ?_ | exact dz)
    rw [if_neg (by omega)]
    exact congrArg (fun y => CV.tup [.agg [eEnts o.base, y, eMarks []], CB true]) (by simp [eMarkss])
def c_spec_OverFlat : XC := (.s (.r [.ex 1 (.box (.t 0)), .ex 2 (.alloc [.nil, .nil, .nil]), .ex 3 (.mv .n)]) (.s (.s (.r [.ex 8 (.ld true 3 (.t 1)), .ex 9 (.call 21 [(.t 8)]), .ex 10 (.un .not (.t 9))]) (.cnd (.t 10) (.s (.r [.ex 11 (.build [.nil, .nil, .nil] []), .nu (.st 3 (.t 2) (.t 11)), .ex 3 (.mv .n)]) .ret) .skip)) (.s (.r [.ex 12 (.ld true 3 (.t 1)), .ex 13 (.call 63 [(.t 12)]), .ex 4 (.alloc [.nil, .nil, .nil]), .nu (.st 3 (.t 4) (.t 13))]) (.s (.s (.r [.ex 14 (.fa 1 (.t 4)), .ex 15 (.ld false 1 (.t 14)), .ex 16 (.len false (.t 15)), .ex 17 (.bin .lss (.t 16) (.i 2))]) (.cnd (.t 17) (.s (.r [.ex 18 (.ld true 3 (.t 4)), .nu (.st 3 (.t 2) (.t 18)), .ex 3 (.mv .n)]) .ret) .skip)) (.s (.r [.ex 19 (.fa 1 (.t 4)), .ex 20 (.ld false 1 (.t 19)), .ex 21 (.ia 1 (.t 20) (.i 0)), .ex 22 (.ld false 1 (.t 21)), .ex 5 (.asn (.t 22) 3 49)]) (.s (.s (.r [.ex 6 (.mv (.i 1))]) (.blk 0 (.loop (.s (.s (.r [.mv 23 6, .ex 24 (.fa 1 (.t 4)), .ex 25 (.ld false 1 (.t 24)), .ex 26 (.len false (.t 25)), .ex 27 (.bin .lss (.t 23) (.t 26))]) (.cnd (.t 27) .skip (.exit 0))) (.s (.blk 1 (.s (.r [.ex 7 (.mv .n)]) (.s (.r [.ex 31 (.fa 1 (.t 4)), .ex 32 (.ld false 1 (.t 31)), .mv 33 6, .ex 34 (.ia 1 (.t 32) (.t 33)), .ex 35 (.ld false 1 (.t 34)), .mv 36 5, .ex 37 (.call 64 [(.t 35), (.t 36)]), .mv 30 37, .ex 38 (.ext (.t 30) 0), .ex 39 (.ext (.t 30) 1), .ex 5 (.asn (.t 38) 3 49), .mv 7 39]) (.s (.r [.mv 40 7, .ex 41 (.un .not (.t 40))]) (.cnd (.t 41) (.s (.r [.ex 42 (.ld true 3 (.t 4)), .nu (.st 3 (.t 2) (.t 42)), .ex 3 (.mv .n)]) .ret) .skip))))) (.r [.mv 28 6, .ex 29 (.bin .add (.t 28) (.i 1)), .mv 6 29])))))) (.s (.r [.mv 43 5, .ex 44 (.bsl 1 25 [(.t 43)]), .ex 45 (.fa 1 (.t 4)), .nu (.st 1 (.t 45) (.t 44))]) (.s (.r [.ex 46 (.ld true 3 (.t 4)), .nu (.st 3 (.t 2) (.t 46)), .ex 3 (.mv .y)]) .ret))))))))
theorem c_spec_OverFlat_eq : compF Tryz.prog [] 15 = some (c_spec_OverFlat.ac, [(.cell 2 true 3), (.t 3)], 47) := by kernel_rfl
theorem flatA_cons {one l : List Mark} {r : List (List Mark)} : flatA one (l :: r) = match lJoin l one with
    | some j => flatA j r
    | none => none := by rw [flatA]; cases lJoin l one <;> rfl
theorem f_spec_OverFlat (W0 : World) (o : Over) : Fn Tryz.prog W0 15 [eOver o] (.c (eOB (oFlat o))) [] := by
  refine fnX (c := c_spec_OverFlat) mixed c_spec_OverFlat_eq (by simp) rfl fun hg => ?_
  refine dEr ?_
  repeat (refine c0 (f_spec_OverOk W0 o) rfl ?_; first | refine dEr ?_ | exact dz)
  refine cP (fun h1 => ?_) (fun h1 => ?_)
  · refine dr ?_
    rw [oFlat, if_neg (by simp [h1])] <;> rfl
  have hz := OS.ok h1
  rw [oFlat, if_pos h1]
  refine dEr ?_
  repeat (refine c0 (f_l4CopyC W0 o (hz.oz.mono (by omega))) rfl ?_; first | refine dEr ?_ | exact dz)
  refine cP (fun h2 => ?_) (fun h2 => ?_)
  · refine dr ?_
    have e : flatO o = none := by
      unfold flatO
      split
      · rename_i a b r he; rw [he] at h2; simp at h2; omega
      · rfl
    rw [e] <;> rfl
  have h0 : 0 < o.layers.length := by omega
  obtain ⟨a, b, r, hl⟩ : ∃ a b r, o.layers = a :: b :: r := by
    cases hl : o.layers with
    | nil => rw [hl] at h0; simp at h0
    | cons a s => cases s with
      | nil => rw [hl] at h2; simp at h2
      | cons b r => exact ⟨a, b, r, rfl⟩
  have e0 : flatO o = flatA o.layers[0] (o.layers.drop 1) := by
    have e : o.layers[0] = a := by simp [hl]
    rw [e]
    unfold flatO
    rw [hl]; rfl
  rw [e0]
  have hn4 := hz.n
  refine dr ?_
  repeat (refine aM (j := 0) rfl (by omega) ?_; first | refine dr ?_ | exact dz)
  refine lp2 (fun (k : Nat) (one : List Mark) => [(2, .ptr 32 0), (4, .ptr 64 0), (5, .c (eMarks one)), (6, I k)]) (fun _ _ => [(32, .box [.nil, .nil, .nil]), (64, .box [.c (eEnts o.base), .c (eMarkss o.layers), .c (eMarks o.upper)])]) (fun k one => 1 ≤ k ∧ k ≤ o.layers.length ∧ flatA one (o.layers.drop k) = flatA o.layers[0] (o.layers.drop 1)) (fun k _ => o.layers.length - k) 1 o.layers[0] ⟨by omega, by omega, rfl⟩ ?_ ?_
  · refine dr ?_
    trivial
  rintro k one ⟨k1, k2, k3⟩
  refine dr ?_
  refine cP (fun h3 => ?_) (fun h3 => ?_)
  · have hk' : k < o.layers.length := by omega
    rw [List.drop_eq_getElem_cons hk', flatA_cons] at k3
    have q := f_spec_LayerJoin W0 o.layers[k] one
    cases hj : lJoin o.layers[k] one with
    | none =>
      rw [hj] at q k3
      refine dEr ?_
      repeat (refine c0 q rfl ?_; first | refine dEr ?_ | exact dz)
      rw [← k3] <;> rfl
    | some j =>
      rw [hj] at q k3
      refine dEr ?_
      repeat (refine c0 q rfl ?_; first | refine dEr ?_ | exact dz)
      refine ⟨k + 1, j, ⟨by omega, by omega, k3⟩, by omega, ?_⟩
      refine dr ?_
      trivial
  · have hkl : k = o.layers.length := by omega
    rw [hkl, List.drop_length, flatA] at k3
    refine dr ?_
    rw [← k3] <;> rfl
end Go.Proofs.YthblflnfhdnpdaaGreatDoor

namespace Go.Proofs.YthblflnfhdnpdaaGreatDoor
set_option linter.unusedSimpArgs false
set_option linter.unusedVariables false
open Go Go.RowKit
abbrev wCs (w : Wld) : List PV := [.c (eEnts w.over.base), .c (eMarkss w.over.layers), .c (eMarks w.over.upper), I w.clock, I w.count, .c (eLeases w.leases), .c (eHoldss w.holds), .c (eInts w.floors), .c (eMsgs w.net), B w.waits, I w.op.kind, .c (CS w.op.path), .c (CS w.op.dest), .c (CS w.op.data)]
abbrev wBx (w : Wld) : XB := .box (wCs w)
abbrev hCs (h : Hold) : List PV := [.c (CS h.path), B h.has, .c (CS h.ent.path), B h.ent.dir, .c (CS h.ent.data), I h.num, I h.til]
theorem aHd {w : Wld} {who : Int} (hw : isW who) (hl : w.holds.length = 3) {K : CV → Prop} (h : K (eHolds (hdW w who))) : AtX who (w.holds.map eHolds) K := by
  have := hw.1; have := hw.2
  have hk : who.toNat < w.holds.length := by omega
  refine ⟨who.toNat, by omega, _, by rw [List.getElem?_map, List.getElem?_eq_getElem hk]; rfl, ?_⟩
  have e : hdW w who = w.holds[who.toNat] := by unfold hdW; rw [List.getD_eq_getElem?_getD, List.getElem?_eq_getElem hk]; rfl
  rw [← e]; exact h
theorem aFl {w : Wld} {who : Int} (hw : isW who) (hl : w.floors.length = 3) {K : CV → Prop} (h : K (CI (flW w who))) : AtX who (w.floors.map CI) K := by
  have := hw.1; have := hw.2
  have hk : who.toNat < w.floors.length := by omega
  refine ⟨who.toNat, by omega, _, by rw [List.getElem?_map, List.getElem?_eq_getElem hk]; rfl, ?_⟩
  have e : flW w who = w.floors[who.toNat] := by unfold flW; rw [List.getD_eq_getElem?_getD, List.getElem?_eq_getElem hk]; rfl
  rw [← e]; exact h
theorem tb_leI {a b : Int} : leI a b = tb (a ≤ b) := by rw [Bool.eq_iff_iff, leI_t, tb_i]
def noL : Lease := ⟨0, [], 0, 0⟩
theorem so_iff {w : Wld} {t : List Ent} {who : Int} {h : Hold} (ha : w.clock < h.til) : So w t who h ↔ ((get t h.path).isSome = h.has ∧ (get t h.path).getD noE = h.ent ∧ (lfind w.leases who h.path).isSome = true ∧
    w.clock < ((lfind w.leases who h.path).getD noL).til ∧ h.num ≤ ((lfind w.leases who h.path).getD noL).num ∧ h.til ≤ ((lfind w.leases who h.path).getD noL).til) := by
  constructor
  · intro hs
    obtain ⟨l, h1, h2, h3, h4, h5, h6⟩ := hs ha
    rw [h1]
    exact ⟨h2, h3, rfl, h4, h5, h6⟩
  · rintro ⟨h2, h3, h1, h4, h5, h6⟩ _
    obtain ⟨l, hl⟩ := Option.isSome_iff_exists.1 h1
    rw [hl] at h4 h5 h6
    exact ⟨l, hl, h2, h3, h4, h5, h6⟩
end Go.Proofs.YthblflnfhdnpdaaGreatDoor

namespace Go.Proofs.YthblflnfhdnpdaaGreatDoor
set_option linter.unusedSimpArgs false
set_option linter.unusedVariables false
open Go Go.RowKit
section
variable {w : Wld}
def LsStep (w x : Wld) : Prop := (x.count = w.count ∧ ∀ l ∈ x.leases, l ∈ w.leases) ∨
  ∃ who p, x.count = w.count + 1 ∧ x.leases = offL w.leases who p (w.count + 1) ++ [⟨who, p, w.count + 1, w.clock + 5⟩]
theorem LsStep.refl {x : Wld} (h1 : x.count = w.count) (h2 : x.leases = w.leases) : LsStep w x := .inl ⟨h1, fun l hl => by rw [h2] at hl; exact hl⟩
theorem LsStep.count {x : Wld} (h : LsStep w x) : w.count ≤ x.count ∧ x.count ≤ w.count + 1 := by
  rcases h with ⟨h, _⟩ | ⟨_, _, h, _⟩ <;> omega
theorem LsStep.fresh {x : Wld} (h : LsStep w x) (hw : WG w) : ((x.leases.filter fun l => decide (w.count < l.num)).length : Int) = x.count - w.count := by
  have hf : ∀ l ∈ w.leases, ¬ decide (w.count < l.num) = true := fun l hl => by have := (hw.ls.g l hl).2.2.2.1; simp; omega
  rcases h with ⟨h1, h2⟩ | ⟨who, p, h1, h2⟩
  · have : x.leases.filter (fun l => decide (w.count < l.num)) = [] := List.filter_eq_nil_iff.2 fun l hl => hf l (h2 l hl)
    rw [this, h1]; simp
  · rw [h2, List.filter_append]
    have : (offL w.leases who p (w.count + 1)).filter (fun l => decide (w.count < l.num)) = [] := List.filter_eq_nil_iff.2 fun l hl => hf l (off_mem.1 hl).1
    rw [this]
    rw [List.filter_cons, if_pos (by simp only [decide_eq_true_eq]; omega)]
    rw [h1]; simp; omega
end
end Go.Proofs.YthblflnfhdnpdaaGreatDoor

namespace Go.Proofs.YthblflnfhdnpdaaGreatDoor
set_option linter.unusedSimpArgs false
set_option linter.unusedVariables false
open Go Go.RowKit
def c_spec_l2Op : XC := (.s (.r [.ex 4 (.alloc [(.c (.sc (.int .i64 0))), (.c (.sc (.string ⟨#[]⟩))), (.c (.sc (.string ⟨#[]⟩))), (.c (.sc (.string ⟨#[]⟩)))])]) (.s (.r [.mv 6 0, .ex 7 (.bsl 1 3 [(.i 1), (.i 2), (.i 2), (.i 3), (.i 4), (.i 5), (.i 1), (.i 5)]), .ex 8 (.opn 95 [(.t 6), (.t 7)]), .mv 9 0, .ex 10 (.opn 139 [(.t 9)]), .ex 11 (.build [(.c (.sc (.int .i64 0))), (.c (.sc (.string ⟨#[]⟩))), (.c (.sc (.string ⟨#[]⟩))), (.c (.sc (.string ⟨#[]⟩)))] [(0, (1, (.t 8))), (1, (1, (.t 10)))]), .ex 5 (.alloc [(.c (.sc (.int .i64 0))), (.c (.sc (.string ⟨#[]⟩))), (.c (.sc (.string ⟨#[]⟩))), (.c (.sc (.string ⟨#[]⟩)))]), .nu (.st 4 (.t 5) (.t 11))]) (.cut (.s (.r [.mv 12 1, .ex 13 (.len false (.t 12)), .ex 14 (.bin .gtr (.t 13) (.i 0)), .mv 15 14, .gt 16 (.fa 0 (.t 5)) 15, .gt 17 (.ld false 1 (.t 16)) 15, .gt 18 (.bin .gtr (.t 17) (.i 2)) 15, .ex 19 (.pick (.t 15) (.t 18) .n), .mv 20 19, .gt 21 (.mv (.t 0)) 20, .gt 22 (.opn 55 [(.t 21), (.i 4)]) 20, .gt 23 (.bin .gtr (.t 22) (.i 0)) 20, .ex 24 (.pick (.t 20) (.t 23) .n)]) (.cnd (.t 24) (.r [.mv 25 1, .mv 26 0, .mv 27 1, .ex 28 (.len false (.t 27)), .ex 29 (.opn 55 [(.t 26), (.t 28)]), .ex 30 (.ia 3 (.t 25) (.t 29)), .ex 31 (.fa 0 (.t 30)), .ex 32 (.ld false 1 (.t 31)), .ex 33 (.fa 1 (.t 5)), .nu (.st 1 (.t 33) (.t 32))]) .skip)) (.cut (.s (.r [.ex 34 (.fa 0 (.t 5)), .ex 35 (.ld false 1 (.t 34)), .ex 36 (.bin .eql (.t 35) (.i 2))]) (.cnd (.t 36) (.r [.mv 37 0, .ex 38 (.opn 140 [(.t 37)]), .ex 39 (.fa 3 (.t 5)), .nu (.st 1 (.t 39) (.t 38))]) .skip)) (.cut (.s (.r [.ex 40 (.fa 0 (.t 5)), .ex 41 (.ld false 1 (.t 40)), .ex 42 (.bin .eql (.t 41) (.i 5))]) (.cnd (.t 42) (.r [.mv 43 0, .ex 44 (.opn 139 [(.t 43)]), .ex 45 (.fa 2 (.t 5)), .nu (.st 1 (.t 45) (.t 44))]) .skip)) (.cut (.s (.r [.mv 46 0, .ex 47 (.opn 55 [(.t 46), (.i 50)])]) (.blk 0 (.s (.r [.ex 49 (.bin .eql (.t 47) (.i 0)), .mv 48 49]) (.cnd (.t 48) (.r [.mv 50 0, .ex 51 (.bsl 1 3 [(.i 0), (.i 6), (.k (.c (.sc (.int .i64 (.negSucc 0))))), (.i 1)]), .ex 52 (.opn 95 [(.t 50), (.t 51)]), .ex 53 (.fa 0 (.t 5)), .nu (.st 1 (.t 53) (.t 52))]) (.s (.r [.ex 55 (.bin .eql (.t 47) (.i 1)), .mv 54 55]) (.cnd (.t 54) (.r [.mv 56 0, .ex 57 (.bsl 1 9 [(.s [47]), (.s []), (.s [47, 65]), (.s [47, 97, 47, 98, 47, 99, 47, 100])]), .ex 58 (.opn 141 [(.t 56), (.t 57)]), .ex 59 (.fa 1 (.t 5)), .nu (.st 1 (.t 59) (.t 58))]) (.s (.r [.ex 61 (.bin .eql (.t 47) (.i 2)), .mv 60 61]) (.cnd (.t 60) (.r [.mv 62 0, .ex 63 (.bsl 1 9 [(.s [47]), (.s [47, 97]), (.s [47, 99, 47, 99, 47, 99]), (.s [])]), .ex 64 (.opn 141 [(.t 62), (.t 63)]), .ex 65 (.fa 2 (.t 5)), .nu (.st 1 (.t 65) (.t 64))]) (.s (.r [.ex 67 (.bin .eql (.t 47) (.i 3)), .mv 66 67]) (.cnd (.t 66) (.r [.mv 68 0, .ex 69 (.bsl 1 9 [(.s [113]), (.s [65]), (.s [97, 98, 99, 100, 101, 102, 103]), (.s [97, 98, 99, 100, 101, 102])]), .ex 70 (.opn 141 [(.t 68), (.t 69)]), .ex 71 (.fa 3 (.t 5)), .nu (.st 1 (.t 71) (.t 70))]) .skip)))))))))) (.s (.r [.ex 72 (.ld true 4 (.t 5)), .nu (.st 4 (.t 4) (.t 72))]) .ret)))))))
theorem c_spec_l2Op_eq : compF Tryz.prog [55, 95, 141, 139, 140] 58 = some (c_spec_l2Op.ac, [(.cell 4 true 4)], 73) := by kernel_rfl
theorem f_l2Op (W0 : World) (s : Str) (p : Int) (t : List Ent) (hs : s.length ≤ 2000) (hp : 0 ≤ p ∧ p ≤ 100000) (ht : t.length ≤ 100000) :
    FunW Tryz.prog W0 58 [.ptr 1 0, .c (eEnts t)] (Rd s p) (fun x : Op × Int => p ≤ x.2 ∧ x.2 ≤ p + 8) (fun x => .c (eOp x.1)) (fun x => Rd s x.2) := by
  refine funW (c := c_spec_l2Op) mixed c_spec_l2Op_eq (by simp) rfl rfl fun hg => ?_
  refine dr ?_
  refine oW (f_num W0 s p [1, 2, 2, 3, 4, 5, 1, 5] hs (by omega) (by decide)) rfl ⟨rfl, trivial⟩ rfl rfl ⟨1, by decide⟩ fun k hk => ⟨rfl, ?_⟩
  refine dr ?_
  refine oW (f_l1Path W0 s (p + 1) hs (by omega)) rfl ⟨rfl, trivial⟩ rfl rfl ⟨_, List.mem_cons_self⟩ fun x hx => ⟨rfl, ?_⟩
  refine dEr ?_
  refine cutp2 (fun (o : Op) (q : Int) => [(0, .ptr 1 0), (4, .ptr 64 0), (5, .ptr 80 0)]) (fun o q => [(1, .box [.c (eCode s), .c (CI q)]), (64, .box [.c (CI 0), .c (CS []), .c (CS []), .c (CS [])]), (80, .box [.c (CI o.kind), .c (CS o.path), .c (CS o.dest), .c (CS o.data)])]) (fun o q => p ≤ q ∧ q ≤ p + 4) ?_ ?_
  · refine dr ?_
    refine cP (fun h1 => ?_) (fun h1 => ?_)
    · refine dr ?_
      refine cP (fun h2 => ?_) (fun h2 => ?_)
      · refine dr ?_
        refine oW (f_pick W0 s (p + 1 + 1) 4 hs (by omega) (by omega)) rfl ⟨rfl, trivial⟩ rfl rfl ⟨0, by omega, by omega⟩ fun k1 hk1 => ⟨rfl, ?_⟩
        refine dEr ?_
        refine cP (fun h3 => ?_) (fun h3 => ?_)
        · refine dEr ?_
          refine oW (f_pick W0 s (p + 1 + 1 + 1) t.length hs (by omega) (by omega)) rfl ⟨rfl, trivial⟩ rfl rfl ⟨0, by omega, by omega⟩ fun k2 hk2 => ⟨rfl, ?_⟩
          refine dEr ?_
          repeat (refine aX hk2.1 (hk2.2 (by omega)) fun e he => ?_; first | refine dEr ?_ | exact dz)
          refine ⟨⟨k, e.path, [], []⟩, p + 1 + 1 + 1 + 1, ⟨by omega, by omega⟩, ?_⟩
          refine dr ?_
          trivial
        · refine dEr ?_
          refine ⟨⟨k, x, [], []⟩, p + 1 + 1 + 1, ⟨by omega, by omega⟩, ?_⟩
          refine dr ?_
          trivial
      · refine dr ?_
        refine ⟨⟨k, x, [], []⟩, p + 1 + 1, ⟨by omega, by omega⟩, ?_⟩
        refine dr ?_
        trivial
    · refine dr ?_
      refine ⟨⟨k, x, [], []⟩, p + 1 + 1, ⟨by omega, by omega⟩, ?_⟩
      refine dr ?_
      trivial
  rintro o q ⟨hq1, hq2⟩
  refine dr ?_
  refine cutp2 (fun (o : Op) (q : Int) => [(0, .ptr 1 0), (4, .ptr 64 0), (5, .ptr 80 0)]) (fun o q => [(1, .box [.c (eCode s), .c (CI q)]), (64, .box [.c (CI 0), .c (CS []), .c (CS []), .c (CS [])]), (80, .box [.c (CI o.kind), .c (CS o.path), .c (CS o.dest), .c (CS o.data)])]) (fun o q => p ≤ q ∧ q ≤ p + 5) ?_ ?_
  · refine dr ?_
    refine cP (fun h1 => ?_) (fun h1 => ?_)
    · refine dr ?_
      refine oW (f_l2Some W0 s q hs (by omega)) rfl ⟨rfl, trivial⟩ rfl rfl ⟨_, List.mem_cons_self⟩ fun y hy => ⟨rfl, ?_⟩
      refine dEr ?_
      refine ⟨⟨o.kind, o.path, o.dest, y⟩, q + 1, ⟨by omega, by omega⟩, ?_⟩
      refine dr ?_
      trivial
    · refine dr ?_
      refine ⟨o, q, ⟨by omega, by omega⟩, ?_⟩
      refine dr ?_
      trivial
  rintro o q ⟨hq1, hq2⟩
  refine dr ?_
  refine cutp2 (fun (o : Op) (q : Int) => [(0, .ptr 1 0), (4, .ptr 64 0), (5, .ptr 80 0)]) (fun o q => [(1, .box [.c (eCode s), .c (CI q)]), (64, .box [.c (CI 0), .c (CS []), .c (CS []), .c (CS [])]), (80, .box [.c (CI o.kind), .c (CS o.path), .c (CS o.dest), .c (CS o.data)])]) (fun o q => p ≤ q ∧ q ≤ p + 6) ?_ ?_
  · refine dr ?_
    refine cP (fun h1 => ?_) (fun h1 => ?_)
    · refine dr ?_
      refine oW (f_l1Path W0 s q hs (by omega)) rfl ⟨rfl, trivial⟩ rfl rfl ⟨_, List.mem_cons_self⟩ fun y hy => ⟨rfl, ?_⟩
      refine dEr ?_
      refine ⟨⟨o.kind, o.path, y, o.data⟩, q + 1, ⟨by omega, by omega⟩, ?_⟩
      refine dr ?_
      trivial
    · refine dr ?_
      refine ⟨o, q, ⟨by omega, by omega⟩, ?_⟩
      refine dr ?_
      trivial
  rintro o q ⟨hq1, hq2⟩
  refine dr ?_
  refine cutp2 (fun (o : Op) (q : Int) => [(0, .ptr 1 0), (4, .ptr 64 0), (5, .ptr 80 0)]) (fun o q => [(1, .box [.c (eCode s), .c (CI q)]), (64, .box [.c (CI 0), .c (CS []), .c (CS []), .c (CS [])]), (80, .box [.c (CI o.kind), .c (CS o.path), .c (CS o.dest), .c (CS o.data)])]) (fun o q => p ≤ q ∧ q ≤ p + 8) ?_ ?_
  · refine dr ?_
    refine oW (f_pick W0 s q 50 hs (by omega) (by omega)) rfl ⟨rfl, trivial⟩ rfl rfl ⟨0, by omega, by omega⟩ fun v hv => ⟨rfl, ?_⟩
    refine dEr ?_
    refine cP (fun h1 => ?_) (fun h1 => ?_)
    · refine dr ?_
      refine oW (f_num W0 s (q + 1) [0, 6, -1, 1] hs (by omega) (by decide)) rfl ⟨rfl, trivial⟩ rfl rfl ⟨0, by decide⟩ fun y hy => ⟨rfl, ?_⟩
      refine dEr ?_
      refine ⟨⟨y, o.path, o.dest, o.data⟩, q + 1 + 1, ⟨by omega, by omega⟩, ?_⟩
      refine dr ?_
      trivial
    refine dr ?_
    refine cP (fun h2 => ?_) (fun h2 => ?_)
    · refine dr ?_
      refine oW (f_of W0 s (q + 1) [[47], [], [47, 65], [47, 97, 47, 98, 47, 99, 47, 100]] hs (by omega) (by decide)) rfl ⟨rfl, trivial⟩ rfl rfl ⟨_, List.mem_cons_self⟩ fun y hy => ⟨rfl, ?_⟩
      refine dEr ?_
      refine ⟨⟨o.kind, y, o.dest, o.data⟩, q + 1 + 1, ⟨by omega, by omega⟩, ?_⟩
      refine dr ?_
      trivial
    refine dr ?_
    refine cP (fun h3 => ?_) (fun h3 => ?_)
    · refine dr ?_
      refine oW (f_of W0 s (q + 1) [[47], [47, 97], [47, 99, 47, 99, 47, 99], []] hs (by omega) (by decide)) rfl ⟨rfl, trivial⟩ rfl rfl ⟨_, List.mem_cons_self⟩ fun y hy => ⟨rfl, ?_⟩
      refine dEr ?_
      refine ⟨⟨o.kind, o.path, y, o.data⟩, q + 1 + 1, ⟨by omega, by omega⟩, ?_⟩
      refine dr ?_
      trivial
    refine dr ?_
    refine cP (fun h4 => ?_) (fun h4 => ?_)
    · refine dr ?_
      refine oW (f_of W0 s (q + 1) [[113], [65], [97, 98, 99, 100, 101, 102, 103], [97, 98, 99, 100, 101, 102]] hs (by omega) (by decide)) rfl ⟨rfl, trivial⟩ rfl rfl ⟨_, List.mem_cons_self⟩ fun y hy => ⟨rfl, ?_⟩
      refine dEr ?_
      refine ⟨⟨o.kind, o.path, o.dest, y⟩, q + 1 + 1, ⟨by omega, by omega⟩, ?_⟩
      refine dr ?_
      trivial
    refine dr ?_
    refine ⟨o, q + 1, ⟨by omega, by omega⟩, ?_⟩
    refine dr ?_
    trivial
  rintro o q ⟨hq1, hq2⟩
  refine dr ?_
  refine ⟨none, _, _, ?_, (o, q), ⟨by omega, by omega⟩, rfl, rfl⟩
  refine dr ?_
  trivial
def c_spec_l2Tree : XC := (.s (.r [.ex 2 (.asn (.k .nil) 3 59)]) (.s (.r [.ex 6 .bsl0, .ex 3 (.asn (.t 6) 3 59)]) (.s (.s (.r [.mv 7 0, .ex 8 (.bsl 1 3 [(.i 6), (.i 12), (.i 18), (.i 24), (.i 30), (.i 3), (.i 0)]), .ex 9 (.opn 95 [(.t 7), (.t 8)]), .mv 4 9]) (.blk 0 (.loop (.s (.s (.r [.mv 10 4, .ex 11 (.bin .gtr (.t 10) (.i 0))]) (.cnd (.t 11) .skip (.exit 0))) (.s (.blk 1 (.r [.mv 15 3, .mv 16 0, .mv 17 3, .ex 18 (.opn 58 [(.t 16), (.t 17)]), .ex 19 (.call 70 [(.t 15), (.t 18)]), .mv 14 19, .ex 20 (.ext (.t 14) 0), .ex 21 (.ext (.t 14) 1), .ex 3 (.asn (.t 20) 3 59)])) (.r [.mv 12 4, .ex 13 (.bin .sub (.t 12) (.i 1)), .mv 4 13])))))) (.s (.s (.r [.mv 22 0, .ex 23 (.opn 55 [(.t 22), (.i 20)]), .ex 24 (.bin .eql (.t 23) (.i 0))]) (.cnd (.t 24) (.s (.r [.ex 5 (.mv (.i 0))]) (.blk 2 (.loop (.s (.s (.r [.mv 25 5, .ex 26 (.bin .lss (.t 25) (.i 26)), .mv 27 26, .gt 28 (.mv (.t 3)) 27, .gt 29 (.len false (.t 28)) 27, .gt 30 (.bin .lss (.t 29) (.i 16)) 27, .ex 31 (.pick (.t 27) (.t 30) .n)]) (.cnd (.t 31) .skip (.exit 2))) (.s (.blk 3 (.r [.mv 35 3, .mv 36 5, .ex 37 (.bin .add (.i 97) (.t 36)), .ex 38 (.conv .u8 (.t 37)), .ex 39 (.bsl 1 5 [(.t 38)]), .ex 40 (.b2s (.t 39)), .ex 41 (.bin .add (.s [47, 122]) (.t 40)), .ex 42 (.build [(.c (.sc (.int .i64 0))), (.c (.sc (.string ⟨#[]⟩))), (.c (.sc (.string ⟨#[]⟩))), (.c (.sc (.string ⟨#[]⟩)))] [(0, (1, (.i 2))), (1, (1, (.t 41)))]), .ex 43 (.call 70 [(.t 35), (.t 42)]), .mv 34 43, .ex 44 (.ext (.t 34) 0), .ex 45 (.ext (.t 34) 1), .ex 3 (.asn (.t 44) 3 59)])) (.r [.mv 32 5, .ex 33 (.bin .add (.t 32) (.i 1)), .mv 5 33])))))) .skip)) (.s (.r [.mv 46 3, .ex 2 (.asn (.t 46) 3 59)]) .ret)))))
theorem c_spec_l2Tree_eq : compF Tryz.prog [58, 55, 95] 136 = some (c_spec_l2Tree.ac, [(.t 2)], 47) := by kernel_rfl
theorem f_l2Tree (W0 : World) (s : Str) (p : Int) (hs : s.length ≤ 2000) (hp : 0 ≤ p ∧ p ≤ 50000) :
    FunW Tryz.prog W0 136 [.ptr 1 0] (Rd s p) (fun x : List Ent × Int => x.1.length ≤ 17 ∧ p ≤ x.2 ∧ x.2 ≤ p + 242) (fun x => .c (eEnts x.1)) (fun x => Rd s x.2) := by
  refine funW (c := c_spec_l2Tree) mixed c_spec_l2Tree_eq (by simp) rfl rfl fun hg => ?_
  refine dr ?_
  refine oW (f_num W0 s p [6, 12, 18, 24, 30, 3, 0] hs (by omega) (by decide)) rfl ⟨rfl, trivial⟩ rfl rfl ⟨0, by decide⟩ fun k hk => ⟨rfl, ?_⟩
  have hk2 : 0 ≤ k ∧ k ≤ 30 := by
    have : ∀ x ∈ ([6, 12, 18, 24, 30, 3, 0] : List Int), 0 ≤ x ∧ x ≤ 30 := by decide
    exact this k hk
  refine dEr ?_
  refine lz3 48 (fun (t : List Ent) (i q : Int) => [(0, .ptr 1 0), (3, .c (eEnts t)), (4, .c (CI i))]) (fun _ _ q => [(1, .box [.c (eCode s), .c (CI q)])]) (fun t i q => t.length ≤ 17 ∧ 0 ≤ i ∧ i ≤ 30 ∧ p ≤ q ∧ q ≤ p + 1 + 8 * (30 - i)) (fun _ i _ => i.toNat) [] k (p + 1) ⟨by simp, by omega, by omega, by omega, by omega⟩ ?_ ?_
  · refine dr ?_
    trivial
  rintro t i q ⟨h1, h2, h3, h4, h5⟩
  refine dr ?_
  refine cP (fun h6 => ?_) (fun h6 => ?_)
  · refine dr ?_
    refine oW (f_l2Op W0 s q t hs (by omega) (by omega)) rfl ⟨rfl, trivial⟩ rfl rfl ⟨(⟨0, [], [], []⟩, q), by omega, by omega⟩ fun x hx => ⟨rfl, ?_⟩
    obtain ⟨o, q2⟩ := x
    have hx1 : q ≤ q2 := hx.1
    have hx2 : q2 ≤ q + 8 := hx.2
    refine dEr ?_
    repeat (refine c0 (f_spec_TreeDo W0 t o) rfl ?_; first | refine dEr ?_ | exact dz)
    refine ⟨(treeDo t o).1, i - 1, q2, ⟨treeDo_len, by omega, by omega, by omega, by omega⟩, by omega, ?_⟩
    refine dr ?_
    trivial
  refine dr ?_
  refine oW (f_pick W0 s q 20 hs (by omega) (by omega)) rfl ⟨rfl, trivial⟩ rfl rfl ⟨0, by omega, by omega⟩ fun v hv => ⟨rfl, ?_⟩
  refine dEr ?_
  refine cP (fun h7 => ?_) (fun h7 => ?_)
  · refine dr ?_
    refine lp2 (fun (t : List Ent) (j : Nat) => [(0, .ptr 1 0), (3, .c (eEnts t)), (5, I j)]) (fun _ _ => [(1, .box [.c (eCode s), .c (CI (q + 1))])]) (fun t j => t.length ≤ 17 ∧ j ≤ 26) (fun _ j => 26 - j) t 0 ⟨by omega, by omega⟩ ?_ ?_
    · refine dr ?_
      trivial
    rintro t j ⟨g1, g2⟩
    refine dr ?_
    refine cP (fun h8 => ?_) (fun h8 => ?_)
    · refine dr ?_
      refine cP (fun h9 => ?_) (fun h9 => ?_)
      · refine dEr ?_
        repeat ((first | refine c0 (f_spec_TreeDo W0 t ⟨2, _, [], []⟩) rfl ?_ | refine oB (by simp) ?_); first | refine dEr ?_ | exact dz)
        refine ⟨(treeDo t ⟨2, [47, 122] ++ [UInt8.ofNat (97 + (j : Int)).toNat], [], []⟩).1, j + 1, ⟨treeDo_len, by omega⟩, by omega, ?_⟩
        refine dr ?_
        trivial
      · refine dr ?_
        refine ⟨none, _, _, ?_, (t, q + 1), ⟨by omega, by omega, by omega⟩, rfl, rfl⟩
        refine dr ?_
        trivial
    · refine dr ?_
      refine ⟨none, _, _, ?_, (t, q + 1), ⟨by omega, by omega, by omega⟩, rfl, rfl⟩
      refine dr ?_
      trivial
  · refine dr ?_
    refine ⟨none, _, _, ?_, (t, q + 1), ⟨by omega, by omega, by omega⟩, rfl, rfl⟩
    refine dr ?_
    trivial
def c_spec_l2Bent : XC := (.s (.r [.ex 4 (.asn (.k .nil) 3 59)]) (.s (.r [.ex 8 .bsl0, .mv 9 1, .ex 10 (.app true 3 40 59 (.t 8) (.t 9)), .ex 5 (.asn (.t 10) 3 59)]) (.s (.r [.mv 11 5, .ex 12 (.len false (.t 11)), .mv 6 12]) (.s (.s (.r [.mv 13 6, .ex 14 (.bin .eql (.t 13) (.i 0))]) (.cnd (.t 14) (.s (.r [.mv 15 5, .ex 4 (.asn (.t 15) 3 59)]) .ret) .skip)) (.s (.r [.mv 16 0, .mv 17 6, .ex 18 (.opn 55 [(.t 16), (.t 17)]), .mv 7 18]) (.s (.s (.r [.mv 19 0, .ex 20 (.opn 55 [(.t 19), (.i 50)])]) (.blk 0 (.s (.r [.ex 22 (.bin .eql (.t 20) (.i 0)), .mv 21 22]) (.cnd (.t 21) (.s (.r [.mv 23 5, .mv 24 5, .mv 25 7, .ex 26 (.ia 3 (.t 24) (.t 25)), .ex 27 (.ld true 3 (.t 26)), .ex 28 (.bsl 3 59 [(.t 27)]), .ex 29 (.app false 3 40 59 (.t 23) (.t 28)), .ex 4 (.asn (.t 29) 3 59)]) .ret) (.s (.r [.ex 31 (.bin .eql (.t 20) (.i 1)), .mv 30 31]) (.cnd (.t 30) (.r [.mv 32 5, .mv 33 7, .mv 34 0, .ex 35 (.bsl 1 9 [(.s [47]), (.s [47, 97, 47, 98, 47, 99, 47, 100]), (.s [47, 65]), (.s [47, 99, 47, 99])]), .ex 36 (.opn 141 [(.t 34), (.t 35)]), .ex 37 (.ia 3 (.t 32) (.t 33)), .ex 38 (.fa 0 (.t 37)), .nu (.st 1 (.t 38) (.t 36))]) (.s (.r [.ex 40 (.bin .eql (.t 20) (.i 2)), .mv 39 40]) (.cnd (.t 39) (.r [.mv 41 5, .mv 42 7, .mv 43 5, .mv 44 7, .ex 45 (.ia 3 (.t 43) (.t 44)), .ex 46 (.fa 1 (.t 45)), .ex 47 (.ld false 1 (.t 46)), .ex 48 (.un .not (.t 47)), .ex 49 (.ia 3 (.t 41) (.t 42)), .ex 50 (.fa 1 (.t 49)), .nu (.st 1 (.t 50) (.t 48))]) (.s (.r [.ex 52 (.bin .eql (.t 20) (.i 3)), .mv 51 52]) (.cnd (.t 51) (.r [.mv 53 5, .mv 54 7, .mv 55 0, .ex 56 (.bsl 1 9 [(.s [113]), (.s [65]), (.s [97, 98, 99, 100, 101, 102, 103])]), .ex 57 (.opn 141 [(.t 55), (.t 56)]), .ex 58 (.ia 3 (.t 53) (.t 54)), .ex 59 (.fa 2 (.t 58)), .nu (.st 1 (.t 59) (.t 57))]) (.cut (.r [.ex 61 (.bin .eql (.t 20) (.i 4)), .mv 60 61]) (.cnd (.t 60) (.s (.r [.mv 62 5, .ex 63 (.slr 3 (.t 62) (.some (.i 1)) .none), .ex 4 (.asn (.t 63) 3 59)]) .ret) .skip)))))))))))) (.s (.r [.mv 64 5, .ex 4 (.asn (.t 64) 3 59)]) .ret)))))))
theorem c_spec_l2Bent_eq : compF Tryz.prog [55, 141] 142 = some (c_spec_l2Bent.ac, [(.t 4)], 65) := by kernel_rfl
theorem f_l2Bent (W0 : World) (s : Str) (p : Int) (t : List Ent) (hs : s.length ≤ 2000) (hp : 0 ≤ p ∧ p ≤ 100000) (ht : t.length ≤ 100000) :
    FunW Tryz.prog W0 142 [.ptr 1 0, .c (eEnts t)] (Rd s p) (fun x : List Ent × Int => x.1.length ≤ t.length + 1 ∧ p ≤ x.2 ∧ x.2 ≤ p + 3) (fun x => .c (eEnts x.1)) (fun x => Rd s x.2) := by
  refine funW (c := c_spec_l2Bent) mixed c_spec_l2Bent_eq (by simp) rfl rfl fun hg => ?_
  refine dr ?_
  repeat ((first | refine oB (by simp; omega) ?_ | refine oB (by simp) ?_); first | refine dr ?_ | exact dz)
  refine cP (fun h1 => ?_) (fun h1 => ?_)
  · refine dr ?_
    refine ⟨some 160, _, _, ?_, (t, p), ⟨by simp, by omega, by omega⟩, rfl, rfl⟩
    refine dr ?_
    repeat (refine oB (by simp <;> rfl) ?_; first | refine dr ?_ | exact dz)
    trivial
  have ht0 : 0 < t.length := by omega
  refine dr ?_
  refine oW (f_pick W0 s p t.length hs (by omega) (by omega)) rfl ⟨rfl, trivial⟩ rfl rfl ⟨0, by omega, by omega⟩ fun k hk => ⟨rfl, ?_⟩
  obtain ⟨k, rfl⟩ : ∃ j : Nat, k = j := ⟨k.toNat, by omega⟩
  have hk' : k < t.length := by have := hk.2 (by omega); omega
  refine dEr ?_
  refine oW (f_pick W0 s (p + 1) 50 hs (by omega) (by omega)) rfl ⟨rfl, trivial⟩ rfl rfl ⟨0, by omega, by omega⟩ fun v hv => ⟨rfl, ?_⟩
  refine dEr ?_
  refine cP (fun h2 => ?_) (fun h2 => ?_)
  · refine dr ?_
    repeat ((first | refine oB (by simp; omega) ?_ | refine oB (by simp) ?_); first | refine dr ?_ | exact dz)
    refine ⟨some 160, _, _, ?_, (t ++ [t[k]], p + 1 + 1), ⟨by simp, by omega, by omega⟩, rfl, rfl⟩
    refine dr ?_
    repeat ((first | refine oB lapp ?_ | refine oB rapp ?_); first | refine dr ?_ | exact dz)
    trivial
  refine dr ?_
  refine cP (fun h3 => ?_) (fun h3 => ?_)
  · refine dr ?_
    refine oW (f_of W0 s (p + 1 + 1) [[47], [47, 97, 47, 98, 47, 99, 47, 100], [47, 65], [47, 99, 47, 99]] hs (by omega) (by decide)) rfl ⟨rfl, trivial⟩ rfl rfl ⟨_, List.mem_cons_self⟩ fun y hy => ⟨rfl, ?_⟩
    refine dEr ?_
    repeat (refine oB (by simp) ?_; first | refine dEr ?_ | exact dz)
    refine ⟨some 160, _, _, ?_, (t.set k ⟨y, t[k].dir, t[k].data⟩, p + 1 + 1 + 1), ⟨by simp, by omega, by omega⟩, rfl, rfl⟩
    refine dr ?_
    repeat ((first | refine oB lset ?_ | refine oB rset ?_); first | refine dr ?_ | exact dz)
    trivial
  refine dr ?_
  refine cP (fun h4 => ?_) (fun h4 => ?_)
  · refine dr ?_
    repeat (refine oB (by simp) ?_; first | refine dr ?_ | exact dz)
    refine ⟨some 160, _, _, ?_, (t.set k ⟨t[k].path, !t[k].dir, t[k].data⟩, p + 1 + 1), ⟨by simp, by omega, by omega⟩, rfl, rfl⟩
    refine dr ?_
    repeat ((first | refine oB lset ?_ | refine oB rset ?_); first | refine dr ?_ | exact dz)
    trivial
  refine dr ?_
  refine cP (fun h5 => ?_) (fun h5 => ?_)
  · refine dr ?_
    refine oW (f_of W0 s (p + 1 + 1) [[113], [65], [97, 98, 99, 100, 101, 102, 103]] hs (by omega) (by decide)) rfl ⟨rfl, trivial⟩ rfl rfl ⟨_, List.mem_cons_self⟩ fun y hy => ⟨rfl, ?_⟩
    refine dEr ?_
    repeat (refine oB (by simp) ?_; first | refine dEr ?_ | exact dz)
    refine ⟨some 160, _, _, ?_, (t.set k ⟨t[k].path, t[k].dir, y⟩, p + 1 + 1 + 1), ⟨by simp, by omega, by omega⟩, rfl, rfl⟩
    refine dr ?_
    repeat ((first | refine oB lset ?_ | refine oB rset ?_); first | refine dr ?_ | exact dz)
    trivial
  refine dr ?_
  refine cutz (σ := Bool) 160 (fun b => [(5, .c (eEnts t)), (60, .c (CB b))]) (fun _ => [(1, .box [.c (eCode s), .c (CI (p + 1 + 1))])]) (fun _ => True) ?_ fun b _ => ?_
  · refine dr ?_
    refine ⟨eqI v 4, trivial, ?_⟩
    refine dr ?_
    repeat (refine oB (by simp <;> rfl) ?_; first | refine dr ?_ | exact dz)
    trivial
  refine dr ?_
  refine cP (fun h6 => ?_) (fun h6 => ?_)
  · refine dr ?_
    repeat (refine sLoM 1 rfl (by omega) ?_; first | refine dr ?_ | exact dz)
    refine ⟨none, _, _, ?_, (t.drop 1, p + 1 + 1), ⟨by simp; omega, by omega, by omega⟩, rfl, rfl⟩
    refine dr ?_
    trivial
  · refine dr ?_
    refine ⟨none, _, _, ?_, (t, p + 1 + 1), ⟨by simp, by omega, by omega⟩, rfl, rfl⟩
    refine dr ?_
    trivial
end Go.Proofs.YthblflnfhdnpdaaGreatDoor

namespace Go.Proofs.YthblflnfhdnpdaaGreatDoor
set_option linter.unusedSimpArgs false
set_option linter.unusedVariables false
open Go Go.RowKit
def c_spec_l3Layer : XC := (.s (.r [.ex 2 (.asn (.k .nil) 3 49)]) (.s (.r [.ex 7 .bsl0, .ex 3 (.asn (.t 7) 3 49)]) (.s (.s (.r [.mv 8 0, .ex 9 (.bsl 1 3 [(.i 3), (.i 5), (.i 8), (.i 2), (.i 1), (.i 0), (.i 12)]), .ex 10 (.opn 95 [(.t 8), (.t 9)]), .mv 4 10]) (.blk 0 (.loop (.s (.s (.r [.mv 11 4, .ex 12 (.bin .gtr (.t 11) (.i 0))]) (.cnd (.t 12) .skip (.exit 0))) (.s (.blk 1 (.s (.r [.mv 15 0, .ex 16 (.opn 139 [(.t 15)]), .mv 17 0, .ex 18 (.bsl 1 3 [(.i 1), (.i 2), (.i 3), (.i 4), (.i 1), (.i 3)]), .ex 19 (.opn 95 [(.t 17), (.t 18)]), .ex 20 (.build [(.c (.sc (.string ⟨#[]⟩))), (.c (.sc (.int .i64 0))), (.c (.sc (.string ⟨#[]⟩)))] [(0, (1, (.t 16))), (1, (1, (.t 19)))]), .ex 5 (.alloc [(.c (.sc (.string ⟨#[]⟩))), (.c (.sc (.int .i64 0))), (.c (.sc (.string ⟨#[]⟩)))]), .nu (.st 3 (.t 5) (.t 20))]) (.cut (.s (.r [.ex 21 (.fa 1 (.t 5)), .ex 22 (.ld false 1 (.t 21)), .ex 23 (.bin .eql (.t 22) (.i 1))]) (.cnd (.t 23) (.r [.mv 24 0, .ex 25 (.opn 140 [(.t 24)]), .ex 26 (.fa 2 (.t 5)), .nu (.st 1 (.t 26) (.t 25))]) .skip)) (.s (.r [.mv 27 3, .ex 28 (.ld true 3 (.t 5)), .ex 29 (.call 169 [(.t 27), (.t 28)]), .ex 6 (.asn (.t 29) 3 49)]) (.s (.s (.r [.mv 30 6, .ex 31 (.call 149 [(.t 30)])]) (.cnd (.t 31) (.s (.r [.mv 32 6, .ex 3 (.asn (.t 32) 3 49)]) (.exit 1)) .skip)) (.s (.r [.mv 33 6, .ex 34 (.fa 0 (.t 5)), .ex 35 (.ld false 1 (.t 34)), .ex 36 (.call 168 [(.t 33), (.t 35)]), .ex 6 (.asn (.t 36) 3 49)]) (.s (.r [.mv 37 6, .ex 38 (.call 149 [(.t 37)])]) (.cnd (.t 38) (.r [.mv 39 6, .ex 3 (.asn (.t 39) 3 49)]) .skip)))))))) (.r [.mv 13 4, .ex 14 (.bin .sub (.t 13) (.i 1)), .mv 4 14])))))) (.s (.r [.mv 40 3, .ex 2 (.asn (.t 40) 3 49)]) .ret))))
theorem c_spec_l3Layer_eq : compF Tryz.prog [95, 139, 140] 137 = some (c_spec_l3Layer.ac, [(.t 2)], 41) := by kernel_rfl
theorem drawn_ok : ∀ x ∈ drawnPaths, pOk x = true := by decide
theorem f_l3Layer (W0 : World) (s : Str) (p : Int) (hs : s.length ≤ 2000) (hp : 0 ≤ p ∧ p ≤ 50000) :
    FunW Tryz.prog W0 137 [.ptr 1 0] (Rd s p) (fun x : List Mark × Int => x.1.length ≤ 32 ∧ p ≤ x.2 ∧ x.2 ≤ p + 37) (fun x => .c (eMarks x.1)) (fun x => Rd s x.2) := by
  refine funW (c := c_spec_l3Layer) mixed c_spec_l3Layer_eq (by simp) rfl rfl fun hg => ?_
  refine dr ?_
  refine oW (f_num W0 s p [3, 5, 8, 2, 1, 0, 12] hs (by omega) (by decide)) rfl ⟨rfl, trivial⟩ rfl rfl ⟨0, by decide⟩ fun k hk => ⟨rfl, ?_⟩
  have hk2 : 0 ≤ k ∧ k ≤ 12 := by
    have : ∀ x ∈ ([3, 5, 8, 2, 1, 0, 12] : List Int), 0 ≤ x ∧ x ≤ 12 := by decide
    exact this k hk
  refine dEr ?_
  refine lz3 48 (fun (t : List Mark) (i q : Int) => [(0, .ptr 1 0), (3, .c (eMarks t)), (4, .c (CI i))]) (fun _ _ q => [(1, .box [.c (eCode s), .c (CI q)])]) (fun t i q => t.length ≤ 32 ∧ 0 ≤ i ∧ i ≤ 12 ∧ p ≤ q ∧ q ≤ p + 1 + 3 * (12 - i)) (fun _ i _ => i.toNat) [] k (p + 1) ⟨by simp, by omega, by omega, by omega, by omega⟩ ?_ ?_
  · refine dr ?_
    trivial
  rintro t i q ⟨h1, h2, h3, h4, h5⟩
  refine dr ?_
  refine cP (fun h6 => ?_) (fun h6 => ?_)
  rotate_left
  · refine dr ?_
    refine ⟨none, _, _, ?_, (t, q), ⟨by omega, by omega, by omega⟩, rfl, rfl⟩
    refine dr ?_
    trivial
  refine dr ?_
  refine oW (f_l1Path W0 s q hs (by omega)) rfl ⟨rfl, trivial⟩ rfl rfl ⟨_, List.mem_cons_self⟩ fun x hx => ⟨rfl, ?_⟩
  have hx1 := drawn_ok x hx
  refine dr ?_
  refine oW (f_num W0 s (q + 1) [1, 2, 3, 4, 1, 3] hs (by omega) (by decide)) rfl ⟨rfl, trivial⟩ rfl rfl ⟨1, by decide⟩ fun v hv => ⟨rfl, ?_⟩
  refine dEr ?_
  refine cutp2 (fun (m : Mark) (r : Int) => [(0, .ptr 1 0), (3, .c (eMarks t)), (4, .c (CI i)), (5, .ptr 80 0)]) (fun m r => [(1, .box [.c (eCode s), .c (CI r)]), (80, .box [.c (CS m.path), .c (CI m.kind), .c (CS m.data)])]) (fun m r => pOk m.path = true ∧ q ≤ r ∧ r ≤ q + 3) ?_ ?_
  · refine dr ?_
    refine cP (fun h7 => ?_) (fun h7 => ?_)
    · refine dr ?_
      refine oW (f_l2Some W0 s (q + 1 + 1) hs (by omega)) rfl ⟨rfl, trivial⟩ rfl rfl ⟨_, List.mem_cons_self⟩ fun y hy => ⟨rfl, ?_⟩
      refine dEr ?_
      refine ⟨⟨x, v, y⟩, q + 1 + 1 + 1, ⟨hx1, by omega, by omega⟩, ?_⟩
      refine dr ?_
      trivial
    · refine dr ?_
      refine ⟨⟨x, v, []⟩, q + 1 + 1, ⟨hx1, by omega, by omega⟩, ?_⟩
      refine dr ?_
      trivial
  rintro m r ⟨g1, g2, g3⟩
  have hpl : (lput t m).length ≤ t.length + 1 := putG_len
  have hu := f_l3Ups W0 3 (lput t m) m.path g1 (pOk_names g1).1.2 (by omega)
  refine dEr ?_
  repeat ((first | refine c0 (f_l3Put W0 t m (by omega)) rfl ?_ | refine c0 (f_spec_LayerOk W0 _) rfl ?_); first | refine dEr ?_ | exact dz)
  refine cP (fun h7 => ?_) (fun h7 => ?_)
  · refine dr ?_
    refine ⟨lput t m, i - 1, r, ⟨(lOk_iff.1 h7).1, by omega, by omega, by omega, by omega⟩, by omega, ?_⟩
    refine dr ?_
    trivial
  · refine dEr ?_
    repeat ((first | refine c0 hu rfl ?_ | refine c0 (f_spec_LayerOk W0 _) rfl ?_); first | refine dEr ?_ | exact dz)
    refine cP (fun h8 => ?_) (fun h8 => ?_)
    · refine dr ?_
      refine ⟨_, i - 1, r, ⟨(lOk_iff.1 h8).1, by omega, by omega, by omega, by omega⟩, by omega, ?_⟩
      refine dr ?_
      trivial
    · refine dr ?_
      refine ⟨t, i - 1, r, ⟨by omega, by omega, by omega, by omega, by omega⟩, by omega, ?_⟩
      refine dr ?_
      trivial
def c_spec_l3Bent : XC := (.s (.r [.ex 4 (.asn (.k .nil) 3 49)]) (.s (.r [.ex 8 .bsl0, .mv 9 1, .ex 10 (.app true 3 40 49 (.t 8) (.t 9)), .ex 5 (.asn (.t 10) 3 49)]) (.s (.r [.mv 11 5, .ex 12 (.len false (.t 11)), .mv 6 12]) (.s (.s (.r [.mv 13 6, .ex 14 (.bin .eql (.t 13) (.i 0))]) (.cnd (.t 14) (.s (.r [.mv 15 5, .ex 4 (.asn (.t 15) 3 49)]) .ret) .skip)) (.s (.r [.mv 16 0, .mv 17 6, .ex 18 (.opn 55 [(.t 16), (.t 17)]), .mv 7 18]) (.s (.s (.r [.mv 19 0, .ex 20 (.opn 55 [(.t 19), (.i 60)])]) (.blk 0 (.s (.r [.ex 22 (.bin .eql (.t 20) (.i 0)), .mv 21 22]) (.cnd (.t 21) (.r [.mv 23 5, .mv 24 7, .mv 25 0, .ex 26 (.bsl 1 3 [(.i 0), (.i 5), (.k (.c (.sc (.int .i64 (.negSucc 0))))), (.i 3), (.i 4)]), .ex 27 (.opn 95 [(.t 25), (.t 26)]), .ex 28 (.ia 3 (.t 23) (.t 24)), .ex 29 (.fa 1 (.t 28)), .nu (.st 1 (.t 29) (.t 27))]) (.s (.r [.ex 31 (.bin .eql (.t 20) (.i 1)), .mv 30 31]) (.cnd (.t 30) (.r [.mv 32 5, .mv 33 7, .mv 34 0, .ex 35 (.bsl 1 9 [(.s [47]), (.s [47, 65]), (.s [47, 99, 47, 99]), (.s [47, 97, 47, 98, 47, 99, 47, 100])]), .ex 36 (.opn 141 [(.t 34), (.t 35)]), .ex 37 (.ia 3 (.t 32) (.t 33)), .ex 38 (.fa 0 (.t 37)), .nu (.st 1 (.t 38) (.t 36))]) (.s (.r [.ex 40 (.bin .eql (.t 20) (.i 2)), .mv 39 40]) (.cnd (.t 39) (.r [.mv 41 5, .mv 42 7, .mv 43 0, .ex 44 (.bsl 1 9 [(.s [113]), (.s [65]), (.s [97, 98, 99, 100, 101, 102, 103])]), .ex 45 (.opn 141 [(.t 43), (.t 44)]), .ex 46 (.ia 3 (.t 41) (.t 42)), .ex 47 (.fa 2 (.t 46)), .nu (.st 1 (.t 47) (.t 45))]) (.s (.r [.ex 49 (.bin .eql (.t 20) (.i 3)), .mv 48 49]) (.cnd (.t 48) (.s (.r [.mv 50 5, .mv 51 5, .mv 52 7, .ex 53 (.ia 3 (.t 51) (.t 52)), .ex 54 (.ld true 3 (.t 53)), .ex 55 (.bsl 3 49 [(.t 54)]), .ex 56 (.app false 3 40 49 (.t 50) (.t 55)), .ex 4 (.asn (.t 56) 3 49)]) .ret) (.cut (.r [.ex 58 (.bin .eql (.t 20) (.i 4)), .mv 57 58]) (.cnd (.t 57) (.s (.r [.mv 59 5, .ex 60 (.slr 3 (.t 59) (.some (.i 1)) .none), .ex 4 (.asn (.t 60) 3 49)]) .ret) (.s (.r [.ex 62 (.bin .eql (.t 20) (.i 5)), .mv 61 62]) (.cnd (.t 61) (.s (.r [.mv 63 5, .ex 64 (.build [(.c (.sc (.string ⟨#[]⟩))), (.c (.sc (.int .i64 0))), (.c (.sc (.string ⟨#[]⟩)))] [(0, (1, (.s [47, 122, 122, 47, 122]))), (1, (1, (.i 1)))]), .ex 65 (.bsl 3 49 [(.t 64)]), .ex 66 (.app false 3 40 49 (.t 63) (.t 65)), .ex 4 (.asn (.t 66) 3 49)]) .ret) .skip)))))))))))))) (.s (.r [.mv 67 5, .ex 4 (.asn (.t 67) 3 49)]) .ret)))))))
theorem c_spec_l3Bent_eq : compF Tryz.prog [55, 141, 95] 143 = some (c_spec_l3Bent.ac, [(.t 4)], 68) := by kernel_rfl
theorem f_l3Bent (W0 : World) (s : Str) (p : Int) (t : List Mark) (hs : s.length ≤ 2000) (hp : 0 ≤ p ∧ p ≤ 100000) (ht : t.length ≤ 100000) :
    FunW Tryz.prog W0 143 [.ptr 1 0, .c (eMarks t)] (Rd s p) (fun x : List Mark × Int => x.1.length ≤ t.length + 1 ∧ p ≤ x.2 ∧ x.2 ≤ p + 3) (fun x => .c (eMarks x.1)) (fun x => Rd s x.2) := by
  refine funW (c := c_spec_l3Bent) mixed c_spec_l3Bent_eq (by simp) rfl rfl fun hg => ?_
  refine dr ?_
  repeat ((first | refine oB (by simp; omega) ?_ | refine oB (by simp) ?_); first | refine dr ?_ | exact dz)
  refine cP (fun h1 => ?_) (fun h1 => ?_)
  · refine dr ?_
    refine ⟨some 160, _, _, ?_, (t, p), ⟨by simp, by omega, by omega⟩, rfl, rfl⟩
    refine dr ?_
    repeat (refine oB (by simp <;> rfl) ?_; first | refine dr ?_ | exact dz)
    trivial
  have ht0 : 0 < t.length := by omega
  refine dr ?_
  refine oW (f_pick W0 s p t.length hs (by omega) (by omega)) rfl ⟨rfl, trivial⟩ rfl rfl ⟨0, by omega, by omega⟩ fun k hk => ⟨rfl, ?_⟩
  obtain ⟨k, rfl⟩ : ∃ j : Nat, k = j := ⟨k.toNat, by omega⟩
  have hk' : k < t.length := by have := hk.2 (by omega); omega
  refine dEr ?_
  refine oW (f_pick W0 s (p + 1) 60 hs (by omega) (by omega)) rfl ⟨rfl, trivial⟩ rfl rfl ⟨0, by omega, by omega⟩ fun v hv => ⟨rfl, ?_⟩
  refine dEr ?_
  refine cP (fun h2 => ?_) (fun h2 => ?_)
  · refine dr ?_
    refine oW (f_num W0 s (p + 1 + 1) [0, 5, -1, 3, 4] hs (by omega) (by decide)) rfl ⟨rfl, trivial⟩ rfl rfl ⟨0, by decide⟩ fun y hy => ⟨rfl, ?_⟩
    refine dEr ?_
    repeat (refine oB lset ?_; first | refine dEr ?_ | exact dz)
    refine ⟨some 160, _, _, ?_, (t.set k ⟨t[k].path, y, t[k].data⟩, p + 1 + 1 + 1), ⟨by simp, by omega, by omega⟩, rfl, rfl⟩
    refine dr ?_
    repeat ((first | refine oB lset ?_ | refine oB rset ?_); first | refine dr ?_ | exact dz)
    trivial
  refine dr ?_
  refine cP (fun h3 => ?_) (fun h3 => ?_)
  · refine dr ?_
    refine oW (f_of W0 s (p + 1 + 1) [[47], [47, 65], [47, 99, 47, 99], [47, 97, 47, 98, 47, 99, 47, 100]] hs (by omega) (by decide)) rfl ⟨rfl, trivial⟩ rfl rfl ⟨_, List.mem_cons_self⟩ fun y hy => ⟨rfl, ?_⟩
    refine dEr ?_
    repeat (refine oB lset ?_; first | refine dEr ?_ | exact dz)
    refine ⟨some 160, _, _, ?_, (t.set k ⟨y, t[k].kind, t[k].data⟩, p + 1 + 1 + 1), ⟨by simp, by omega, by omega⟩, rfl, rfl⟩
    refine dr ?_
    repeat ((first | refine oB lset ?_ | refine oB rset ?_); first | refine dr ?_ | exact dz)
    trivial
  refine dr ?_
  refine cP (fun h4 => ?_) (fun h4 => ?_)
  · refine dr ?_
    refine oW (f_of W0 s (p + 1 + 1) [[113], [65], [97, 98, 99, 100, 101, 102, 103]] hs (by omega) (by decide)) rfl ⟨rfl, trivial⟩ rfl rfl ⟨_, List.mem_cons_self⟩ fun y hy => ⟨rfl, ?_⟩
    refine dEr ?_
    repeat (refine oB lset ?_; first | refine dEr ?_ | exact dz)
    refine ⟨some 160, _, _, ?_, (t.set k ⟨t[k].path, t[k].kind, y⟩, p + 1 + 1 + 1), ⟨by simp, by omega, by omega⟩, rfl, rfl⟩
    refine dr ?_
    repeat ((first | refine oB lset ?_ | refine oB rset ?_); first | refine dr ?_ | exact dz)
    trivial
  refine dr ?_
  refine cP (fun h5 => ?_) (fun h5 => ?_)
  · refine dr ?_
    repeat ((first | refine oB (by simp; omega) ?_ | refine oB (by simp) ?_); first | refine dr ?_ | exact dz)
    refine ⟨some 160, _, _, ?_, (t ++ [t[k]], p + 1 + 1), ⟨by simp, by omega, by omega⟩, rfl, rfl⟩
    refine dr ?_
    repeat ((first | refine oB lapp ?_ | refine oB rapp ?_); first | refine dr ?_ | exact dz)
    trivial
  refine dr ?_
  by_cases hv4 : v = 4
  · refine cutz (σ := Unit) 160 (fun _ => [(5, .c (eMarks t)), (57, .c (CB (eqI v 4)))]) (fun _ => [(1, .box [.c (eCode s), .c (CI (p + 1 + 1))])]) (fun _ => True) ?_ fun b _ => ?_
    · refine dr ?_
      refine ⟨(), trivial, ?_⟩
      refine dr ?_
      repeat (refine oB (by simp <;> rfl) ?_; first | refine dr ?_ | exact dz)
      trivial
    refine dr ?_
    refine cP (fun h6 => ?_) (fun h6 => ?_)
    · refine dr ?_
      repeat (refine sLoM 1 rfl (by omega) ?_; first | refine dr ?_ | exact dz)
      refine ⟨none, _, _, ?_, (t.drop 1, p + 1 + 1), ⟨by simp; omega, by omega, by omega⟩, rfl, rfl⟩
      refine dr ?_
      trivial
    · exact absurd hv4 h6
  · refine cutp (σ := Unit) (fun _ => [(5, .own 160 t.length), (20, .c (CI v)), (57, .c (CB (eqI v 4)))]) (fun _ => [(1, .box [.c (eCode s), .c (CI (p + 1 + 1))]), (160, .row (t.map eMark) 3 49)]) (fun _ => True) ?_ fun b _ => ?_
    · refine dr ?_
      refine ⟨(), trivial, ?_⟩
      refine dr ?_
      trivial
    refine dr ?_
    refine cP (fun h6 => ?_) (fun h6 => ?_)
    · exact absurd h6 hv4
    refine dr ?_
    refine cP (fun h7 => ?_) (fun h7 => ?_)
    · refine dr ?_
      repeat ((first | refine oB (by simp; omega) ?_ | refine oB (by simp) ?_); first | refine dr ?_ | exact dz)
      refine ⟨some 160, _, _, ?_, (t ++ [⟨[47, 122, 122, 47, 122], 1, []⟩], p + 1 + 1), ⟨by simp, by omega, by omega⟩, rfl, rfl⟩
      refine dr ?_
      repeat ((first | refine oB lapp ?_ | refine oB (rapp (f := eMark) (x := ⟨[47, 122, 122, 47, 122], 1, []⟩)) ?_); first | refine dr ?_ | exact dz)
      trivial
    · refine dr ?_
      refine ⟨some 160, _, _, ?_, (t, p + 1 + 1), ⟨by simp, by omega, by omega⟩, rfl, rfl⟩
      refine dr ?_
      repeat (refine oB (by simp <;> rfl) ?_; first | refine dr ?_ | exact dz)
      trivial
end Go.Proofs.YthblflnfhdnpdaaGreatDoor

namespace Go.Proofs.YthblflnfhdnpdaaGreatDoor
set_option linter.unusedSimpArgs false
set_option linter.unusedVariables false
open Go Go.RowKit
def NC (x y : PV) : Prop := y = x ∨ (x = .nil ∧ y = .c (.row []))
theorem NC.rep {κ : Kap} {m : Mem} {w : World} {x y : PV} {v : Value} (h : NC x y) (hr : Rep1 κ m w x v) : Rep1 κ m w y v := by
  rcases h with rfl | ⟨rfl, rfl⟩
  · exact hr
  · obtain ⟨o, rfl⟩ := hr
    exact .nil (Nat.zero_le _)
theorem KeepS.nilC {k0 : List Nat} {A : Fr} {m : XM} (bx : Nat) (cs cs' : List PV) (hb : lkX m bx = some (.box cs)) (hc : All2 NC cs cs') : KeepS k0 A m A (updX m bx (.box cs')) := fun W0 F K hA hK => by
  intro w0 κ0 m0 N κ act w hk0 hr
  have hmw := hr.mw
  have hW := hr.big
  have hb' : lk (Go.Proofs.YthblflnfhdnpdaaGreatDoor.er m) bx = some (.box cs) := by rw [lk_er, hb]; rfl
  have all2 : ∀ {cs cs' : List PV} {vs : List Value} {κ : Kap} {m : Mem}, All2 NC cs cs' → All2 (Rep1 κ m w) cs vs → All2 (Rep1 κ m w) cs' vs := by
    intro cs
    induction cs with
    | nil => intro cs' vs κ m h1 h2; cases cs' with | nil => (cases vs with | nil => trivial | cons => exact h2.elim) | cons => exact h1.elim
    | cons c cs ih =>
      intro cs' vs κ m h1 h2
      cases cs' with
      | nil => exact h1.elim
      | cons d ds => cases vs with
        | nil => exact h2.elim
        | cons v vs => exact ⟨NC.rep h1.1 h2.1, ih h1.2 h2.2⟩
  obtain ⟨g1, g2⟩ := hmw.turn (κ' := κ) (w' := w) (x := .box cs') hW hb' rfl rfl rfl (Nat.le_refl _) rfl (fun _ _ => rfl) (fun _ _ _ => rfl) (.inl rfl) (fun _ h => ⟨⟨cs', rfl⟩, rfl⟩) (fun _ _ _ h => by cases h) (fun hp => by
    obtain ⟨g, vs, e, q1, q2, q3⟩ := hmw.mem.blk bx _ hb'
    exact ⟨g, vs, e, q1, q2, all2 hc (q3.imp fun _ _ => Rep1.pres hp)⟩)
  refine ⟨κ, A, _, ⟨g1, hr.start, hr.low0, hr.s0, hr.size, hr.defers, fun t x hx => ?_⟩, ?_⟩
  · obtain ⟨q1, q2⟩ := hr.tmps t x (by rw [← hA t]; exact hx)
    exact ⟨q1, Rep.pres g2 q2⟩
  · rw [updX_er] at hK; exact hK
theorem nc0 {x : PV} : NC x x := .inl rfl
theorem nc1 : NC .nil (.c (.row [])) := .inr ⟨rfl, rfl⟩
theorem ovE {b : List Ent} {ls : List (List Mark)} {u : List Mark} {L : List CV} (h : L = ls.map eMarks) : PV.c (.agg [eEnts b, .row L, eMarks u]) = .c (eOver ⟨b, ls, u⟩) := by rw [h]; rfl
theorem app1 {α : Type} {f : α → CV} {t : List α} {x : α} : t.map f ++ [f x] = (t ++ [x]).map f := by rw [List.map_append]; rfl
theorem set1 {α : Type} {f : α → CV} {t : List α} {k : Nat} {x : α} : (t.map f).set k (f x) = (t.set k x).map f := List.map_set.symm
abbrev ovB (o : Over) : XB := .box [.c (eEnts o.base), .c (eMarkss o.layers), .c (eMarks o.upper)]
abbrev ni3 : XB := .box [.nil, .nil, .nil]
abbrev rdB (s : Str) (q : Int) : XB := .box [.c (eCode s), .c (CI q)]
def c_spec_l4Over : XC := (.s (.r [.ex 2 (.alloc [.nil, .nil, .nil])]) (.s (.r [.mv 9 0, .ex 10 (.opn 136 [(.t 9)]), .ex 11 (.build [.nil, .nil, .nil] [(0, (1, (.t 10)))]), .ex 3 (.alloc [.nil, .nil, .nil]), .nu (.st 3 (.t 3) (.t 11))]) (.s (.s (.r [.mv 12 0, .ex 13 (.opn 55 [(.t 12), (.i 3)]), .mv 4 13]) (.blk 0 (.loop (.s (.s (.r [.mv 14 4, .ex 15 (.bin .gtr (.t 14) (.i 0))]) (.cnd (.t 15) .skip (.exit 0))) (.s (.blk 1 (.s (.r [.ex 18 (.ld true 3 (.t 3)), .ex 19 (.opn 63 [(.t 18)]), .ex 5 (.alloc [.nil, .nil, .nil]), .nu (.st 3 (.t 5) (.t 19))]) (.s (.d [.ex 20 (.fa 1 (.t 5)), .exl 21 (.ld false 1 (.t 20)), .mv 22 0, .exl 23 (.opn 137 [(.t 22)]), .exl 24 (.bsl 1 25 [(.t 23)]), .ex 25 (.app false 1 24 25 (.t 21) (.t 24)), .ex 26 (.fa 1 (.t 5)), .nu (.st 1 (.t 26) (.t 25))]) (.s (.r [.ex 27 (.ld true 3 (.t 5)), .ex 28 (.call 21 [(.t 27)])]) (.cnd (.t 28) (.r [.ex 29 (.ld true 3 (.t 5)), .nu (.st 3 (.t 3) (.t 29))]) .skip))))) (.r [.mv 16 4, .ex 17 (.bin .sub (.t 16) (.i 1)), .mv 4 17])))))) (.s (.s (.r [.mv 30 0, .ex 31 (.opn 55 [(.t 30), (.i 12)]), .mv 6 31]) (.blk 2 (.loop (.s (.s (.r [.mv 32 6, .ex 33 (.bin .gtr (.t 32) (.i 0))]) (.cnd (.t 33) .skip (.exit 2))) (.s (.blk 3 (.s (.r [.ex 37 (.ld true 3 (.t 3)), .ex 38 (.call 57 [(.t 37)]), .mv 36 38, .ex 39 (.ext (.t 36) 0), .ex 40 (.ext (.t 36) 1), .ex 7 (.asn (.t 39) 3 59), .mv 8 40]) (.s (.r [.mv 41 0, .ex 42 (.opn 55 [(.t 41), (.i 8)])]) (.blk 4 (.s (.r [.ex 52 (.bin .eql (.t 42) (.i 0)), .mv 51 52]) (.cnd (.t 51) (.r [.ex 54 (.ld true 3 (.t 3)), .ex 55 (.call 56 [(.t 54)]), .mv 53 55, .ex 56 (.ext (.t 53) 0), .ex 57 (.ext (.t 53) 1), .nu (.st 3 (.t 3) (.t 56))]) (.s (.r [.ex 59 (.bin .eql (.t 42) (.i 1)), .mv 58 59]) (.cnd (.t 58) (.s (.r [.mv 60 0, .ex 61 (.opn 55 [(.t 60), (.i 3)]), .ex 62 (.bin .eql (.t 61) (.i 0))]) (.cnd (.t 62) (.r [.ex 64 (.ld true 3 (.t 3)), .ex 65 (.call 15 [(.t 64)]), .mv 63 65, .ex 66 (.ext (.t 63) 0), .ex 67 (.ext (.t 63) 1), .nu (.st 3 (.t 3) (.t 66))]) .skip)) (.d [.exl 44 (.ld true 3 (.t 3)), .mv 45 0, .mv 46 7, .exl 47 (.opn 58 [(.t 45), (.t 46)]), .ex 48 (.call 20 [(.t 44), (.t 47)]), .mv 43 48, .ex 49 (.ext (.t 43) 0), .ex 50 (.ext (.t 43) 1), .nu (.st 3 (.t 3) (.t 49))]))))))))) (.r [.mv 34 6, .ex 35 (.bin .sub (.t 34) (.i 1)), .mv 6 35])))))) (.s (.r [.ex 68 (.ld true 3 (.t 3)), .ex 69 (.opn 63 [(.t 68)]), .nu (.st 3 (.t 2) (.t 69))]) .ret)))))
theorem c_spec_l4Over_eq : compF Tryz.prog [136, 55, 63, 137, 58] 54 = some (c_spec_l4Over.ac, [(.cell 2 true 3)], 70) := by kernel_rfl
theorem f_l4Over (W0 : World) (s : Str) (p : Int) (hs : s.length ≤ 2000) (hp : 0 ≤ p ∧ p ≤ 20000) :
    FunW Tryz.prog W0 54 [.ptr 1 0] (Rd s p) (fun x : Over × Int => OS x.1 ∧ p ≤ x.2 ∧ x.2 ≤ p + 600) (fun x => .c (eOver x.1)) (fun x => Rd s x.2) := by
  refine funW (c := c_spec_l4Over) mixed c_spec_l4Over_eq (by simp) rfl rfl fun hg => ?_
  refine dr ?_
  refine oW (f_l2Tree W0 s p hs (by omega)) rfl ⟨rfl, trivial⟩ rfl rfl ⟨([], p), by simp; omega⟩ fun x hx => ⟨rfl, ?_⟩
  obtain ⟨b, q0⟩ := x
  obtain ⟨hb, hq1, hq2⟩ : b.length ≤ 17 ∧ p ≤ q0 ∧ q0 ≤ p + 242 := hx
  refine dEr ?_
  refine oW (f_pick W0 s q0 3 hs (by omega) (by omega)) rfl ⟨rfl, trivial⟩ rfl rfl ⟨0, by omega, by omega⟩ fun n hn => ⟨rfl, ?_⟩
  have hn2 := hn.2 (by omega)
  have hn1 := hn.1
  refine dEr ?_
  refine lq3 (fun (o : Over) (i q : Int) => [(0, .ptr 1 0), (2, .ptr 32 0), (3, .ptr 48 0), (4, .c (CI i))]) (fun o _ q => [(1, rdB s q), (32, ni3), (48, ovB o)]) (fun o i q => OS o ∧ 0 ≤ i ∧ i ≤ 2 ∧ p ≤ q ∧ q ≤ p + 243 + 37 * (2 - i)) (fun _ i _ => i.toNat) ⟨b, [], []⟩ n (q0 + 1) ⟨⟨hb, by simp, by simp, by simp⟩, by omega, by omega, by omega, by omega⟩ ?_ ?_
  · refine KeepS.trans (F1 := _) (m1 := _) (KeepS.nilC 48 [.c (eEnts b), .nil, .nil] [.c (eEnts b), .c (.row []), .c (.row [])] rfl ⟨nc0, nc1, nc1, trivial⟩) (z := none) ?_
    refine dr ?_
    trivial
  rintro o i q ⟨ho, hi1, hi2, hq3, hq4⟩
  refine dr ?_
  refine cP (fun h1 => ?_) (fun h1 => ?_)
  · refine dr ?_
    refine oW (f_l4Copy W0 o (ho.oz.mono (by omega))) rfl trivial rfl rfl ⟨(), trivial⟩ fun _ _ => ⟨rfl, ?_⟩
    refine dEr ?_
    refine oW (f_l3Layer W0 s q hs (by omega)) rfl ⟨rfl, trivial⟩ rfl rfl ⟨([], q), by simp; omega⟩ fun x hx => ⟨rfl, ?_⟩
    obtain ⟨l, q2⟩ := x
    obtain ⟨hl, hr1, hr2⟩ : l.length ≤ 32 ∧ q ≤ q2 ∧ q2 ≤ q + 37 := hx
    have hn := ho.n
    have q9 := f_spec_OverOk W0 ⟨o.base, o.layers ++ [l], o.upper⟩
    rw [show eOver ⟨o.base, o.layers ++ [l], o.upper⟩ = .agg [eEnts o.base, .row (o.layers.map eMarks ++ [eMarks l]), eMarks o.upper] by rw [app1]; rfl] at q9
    refine dEr ?_
    repeat ((first | refine oB (by simp; omega) ?_ | refine oB (by simp) ?_ | refine c0 q9 rfl ?_); first | refine dEr ?_ | exact dz)
    refine cP (fun h2 => ?_) (fun h2 => ?_)
    · refine dr ?_
      refine ⟨⟨o.base, o.layers ++ [l], o.upper⟩, i - 1, q2, ⟨OS.ok h2, by omega, by omega, by omega, by omega⟩, by omega, ?_⟩
      refine KeepX.s (z := some 4) ?_
      refine dr ?_
      repeat ((first | refine oB (congrArg (fun L => XB.box [.c (eEnts o.base), .c (.row L), .c (eMarks o.upper)]) app1) ?_ | refine oB (by simp) ?_); first | refine dr ?_ | exact dz)
      trivial
    · refine dr ?_
      refine ⟨o, i - 1, q2, ⟨ho, by omega, by omega, by omega, by omega⟩, by omega, ?_⟩
      refine KeepX.s (z := none) ?_
      refine dr ?_
      trivial
  refine dr ?_
  refine oW (f_pick W0 s q 12 hs (by omega) (by omega)) rfl ⟨rfl, trivial⟩ rfl rfl ⟨0, by omega, by omega⟩ fun n hn => ⟨rfl, ?_⟩
  have hn2 := hn.2 (by omega)
  have hn1 := hn.1
  clear h1
  refine dEr ?_
  refine lp3 (fun (o : Over) (i r : Int) => [(0, .ptr 1 0), (2, .ptr 32 0), (3, .ptr 48 0), (6, .c (CI i))]) (fun o _ r => [(1, rdB s r), (32, ni3), (48, ovB o)]) (fun o i r => OS o ∧ 0 ≤ i ∧ i ≤ 11 ∧ p ≤ r ∧ r ≤ p + 320 + 10 * (11 - i)) (fun _ i _ => i.toNat) o n (q + 1) ⟨ho, by omega, by omega, by omega, by omega⟩ ?_ ?_
  · refine dr ?_
    trivial
  clear hq3 hq4 ho
  rintro o i q ⟨ho, hi1, hi2, hq3, hq4⟩
  refine dr ?_
  refine cP (fun h1 => ?_) (fun h1 => ?_)
  · have hv := f_l4View W0 o
    have hvl : ((view4 o).getD []).length ≤ 16 := by
      cases hx : view4 o with
      | none => simp
      | some x => exact (tOk_at (view4_tOk hx)).1
    rw [eEntsO_eq] at hv
    generalize (view4 o).getD [] = t at *
    refine dEr ?_
    repeat (refine c0 hv rfl ?_; first | refine dEr ?_ | exact dz)
    refine oW (f_pick W0 s q 8 hs (by omega) (by omega)) rfl ⟨rfl, trivial⟩ rfl rfl ⟨0, by omega, by omega⟩ fun v hv => ⟨rfl, ?_⟩
    refine dEr ?_
    refine cP (fun h2 => ?_) (fun h2 => ?_)
    · refine dEr ?_
      repeat (refine c0 (f_spec_OverPush W0 o) rfl ?_; first | refine dEr ?_ | exact dz)
      refine ⟨(oPush o).1, i - 1, q + 1, ⟨OS.push, by omega, by omega, by omega, by omega⟩, by omega, ?_⟩
      refine dr ?_
      trivial
    refine dr ?_
    refine cP (fun h3 => ?_) (fun h3 => ?_)
    · refine dr ?_
      refine oW (f_pick W0 s (q + 1) 3 hs (by omega) (by omega)) rfl ⟨rfl, trivial⟩ rfl rfl ⟨0, by omega, by omega⟩ fun v hv => ⟨rfl, ?_⟩
      refine dEr ?_
      refine cP (fun h4 => ?_) (fun h4 => ?_)
      · refine dEr ?_
        repeat (refine c0 (f_spec_OverFlat W0 o) rfl ?_; first | refine dEr ?_ | exact dz)
        refine ⟨(oFlat o).1, i - 1, q + 1 + 1, ⟨OS.flat, by omega, by omega, by omega, by omega⟩, by omega, ?_⟩
        refine dr ?_
        trivial
      · refine dr ?_
        refine ⟨o, i - 1, q + 1 + 1, ⟨ho, by omega, by omega, by omega, by omega⟩, by omega, ?_⟩
        refine dr ?_
        trivial
    · refine dr ?_
      refine oW (f_l2Op W0 s (q + 1) t hs (by omega) (by omega)) rfl ⟨rfl, trivial⟩ rfl rfl ⟨((⟨0, [], [], []⟩, q + 1) : Op × Int), by omega, by omega⟩ fun x hx => ⟨rfl, ?_⟩
      obtain ⟨op, r⟩ := x
      obtain ⟨hr1, hr2⟩ : q + 1 ≤ r ∧ r ≤ q + 1 + 8 := hx
      refine dEr ?_
      repeat (refine c0 (f_spec_OverDo W0 o op) rfl ?_; first | refine dEr ?_ | exact dz)
      refine ⟨(oDo o op).1, i - 1, r, ⟨OS.do op, by omega, by omega, by omega, by omega⟩, by omega, ?_⟩
      refine dr ?_
      trivial
  · refine dr ?_
    refine oW (f_l4Copy W0 o (ho.oz.mono (by omega))) rfl trivial rfl rfl ⟨(), trivial⟩ fun _ _ => ⟨rfl, ?_⟩
    refine dEr ?_
    refine ⟨some 4, _, _, ?_, (o, q), ⟨ho, by omega, by omega⟩, rfl, rfl⟩
    refine dr ?_
    repeat (refine oB (by simp) ?_; first | refine dr ?_ | exact dz)
    trivial
def c_spec_l4Bent : XC := (.s (.r [.ex 3 (.box (.t 1)), .ex 4 (.alloc [.nil, .nil, .nil])]) (.s (.r [.ex 8 (.ld true 3 (.t 3)), .ex 9 (.opn 63 [(.t 8)]), .ex 5 (.alloc [.nil, .nil, .nil]), .nu (.st 3 (.t 5) (.t 9))]) (.s (.r [.ex 10 (.fa 1 (.t 5)), .ex 11 (.ld false 1 (.t 10)), .ex 12 (.len false (.t 11)), .mv 6 12]) (.s (.s (.r [.mv 13 0, .ex 14 (.opn 55 [(.t 13), (.i 60)])]) (.blk 0 (.s (.r [.ex 16 (.bin .eql (.t 14) (.i 0)), .mv 15 16]) (.cnd (.t 15) (.r [.mv 17 0, .mv 18 0, .mv 19 0, .mv 20 0, .ex 21 (.fa 0 (.t 5)), .ex 22 (.ld false 1 (.t 21)), .ex 23 (.opn 142 [(.t 20), (.t 22)]), .ex 24 (.opn 142 [(.t 19), (.t 23)]), .ex 25 (.opn 142 [(.t 18), (.t 24)]), .ex 26 (.opn 142 [(.t 17), (.t 25)]), .ex 27 (.fa 0 (.t 5)), .nu (.st 1 (.t 27) (.t 26))]) (.s (.r [.ex 29 (.bin .eql (.t 14) (.i 1)), .mv 28 29]) (.cnd (.t 28) (.s (.r [.mv 30 6, .ex 31 (.bin .gtr (.t 30) (.i 0))]) (.cnd (.t 31) (.s (.r [.mv 32 0, .mv 33 6, .ex 34 (.opn 55 [(.t 32), (.t 33)]), .mv 7 34]) (.d [.ex 35 (.fa 1 (.t 5)), .exl 36 (.ld false 1 (.t 35)), .mv 37 7, .mv 38 0, .mv 39 0, .mv 40 0, .mv 41 0, .ex 42 (.fa 1 (.t 5)), .exl 43 (.ld false 1 (.t 42)), .mv 44 7, .exl 45 (.ia 1 (.t 43) (.t 44)), .exl 46 (.ld false 1 (.t 45)), .exl 47 (.opn 143 [(.t 41), (.t 46)]), .exl 48 (.opn 143 [(.t 40), (.t 47)]), .exl 49 (.opn 143 [(.t 39), (.t 48)]), .exl 50 (.opn 143 [(.t 38), (.t 49)]), .exl 51 (.ia 1 (.t 36) (.t 37)), .nu (.st 1 (.t 51) (.t 50))])) .skip)) (.s (.r [.ex 53 (.bin .eql (.t 14) (.i 2)), .mv 52 53]) (.cnd (.t 52) (.r [.mv 54 0, .mv 55 0, .mv 56 0, .mv 57 0, .ex 58 (.fa 2 (.t 5)), .ex 59 (.ld false 1 (.t 58)), .ex 60 (.opn 143 [(.t 57), (.t 59)]), .ex 61 (.opn 143 [(.t 56), (.t 60)]), .ex 62 (.opn 143 [(.t 55), (.t 61)]), .ex 63 (.opn 143 [(.t 54), (.t 62)]), .ex 64 (.fa 2 (.t 5)), .nu (.st 1 (.t 64) (.t 63))]) (.s (.r [.ex 66 (.bin .eql (.t 14) (.i 3)), .mv 65 66]) (.cnd (.t 65) (.r [.mv 67 0, .ex 68 (.opn 137 [(.t 67)]), .ex 69 (.fa 2 (.t 5)), .nu (.st 1 (.t 69) (.t 68))]) (.s (.r [.ex 71 (.bin .eql (.t 14) (.i 4)), .mv 70 71]) (.cnd (.t 70) (.blk 1 (.loop (.s (.s (.r [.ex 72 (.fa 1 (.t 5)), .ex 73 (.ld false 1 (.t 72)), .ex 74 (.len false (.t 73)), .ex 75 (.bin .leq (.t 74) (.i 4))]) (.cnd (.t 75) .skip (.exit 1))) (.blk 2 (.r [.ex 76 (.fa 1 (.t 5)), .ex 77 (.ld false 1 (.t 76)), .ex 78 .bsl0, .ex 79 (.bsl 1 25 [(.t 78)]), .ex 80 (.app false 1 24 25 (.t 77) (.t 79)), .ex 81 (.fa 1 (.t 5)), .nu (.st 1 (.t 81) (.t 80))]))))) (.s (.r [.ex 83 (.bin .eql (.t 14) (.i 5)), .mv 82 83]) (.cnd (.t 82) (.d [.ex 84 (.fa 1 (.t 5)), .exl 85 (.ld false 1 (.t 84)), .mv 86 0, .exl 87 (.opn 137 [(.t 86)]), .exl 88 (.bsl 1 25 [(.t 87)]), .ex 89 (.app false 1 24 25 (.t 85) (.t 88)), .ex 90 (.fa 1 (.t 5)), .nu (.st 1 (.t 90) (.t 89))]) .skip)))))))))))))) (.s (.r [.ex 91 (.ld true 3 (.t 5)), .nu (.st 3 (.t 4) (.t 91))]) .ret)))))
theorem c_spec_l4Bent_eq : compF Tryz.prog [63, 55, 142, 143, 137] 59 = some (c_spec_l4Bent.ac, [(.cell 4 true 3)], 92) := by kernel_rfl
theorem OZ.put {o : Over} {n : Nat} (h : OZ n o) {ls : List (List Mark)} {m : Nat} (h1 : ls.length ≤ m) (h2 : ∀ l ∈ ls, l.length ≤ m) (hm : n ≤ m) : OZ m ⟨o.base, ls, o.upper⟩ := ⟨by have := h.b; simp only; omega, h1, h2, by have := h.u; simp only; omega⟩
set_option maxHeartbeats 4000000 in
theorem f_l4Bent (W0 : World) (s : Str) (p : Int) (o : Over) (n : Nat) (hs : s.length ≤ 2000) (hp : 0 ≤ p ∧ p ≤ 40000) (h : OZ n o) (hn : n ≤ 50000) :
    FunW Tryz.prog W0 59 [.ptr 1 0, .c (eOver o)] (Rd s p) (fun x : Over × Int => OZ (n + 40) x.1 ∧ p ≤ x.2 ∧ x.2 ≤ p + 40) (fun x => .c (eOver x.1)) (fun x => Rd s x.2) := by
  refine funW (c := c_spec_l4Bent) mixed c_spec_l4Bent_eq (by simp) rfl rfl fun hg => ?_
  obtain ⟨z1, z2, z3, z4⟩ := h
  have hz : OZ n o := ⟨z1, z2, z3, z4⟩
  have hz' : OZ (n + 40) o := hz.mono (by omega)
  refine dr ?_
  refine oW (f_l4Copy W0 o (hz.mono (by omega))) rfl trivial rfl rfl ⟨(), trivial⟩ fun _ _ => ⟨rfl, ?_⟩
  refine dEr ?_
  refine oW (f_pick W0 s p 60 hs (by omega) (by omega)) rfl ⟨rfl, trivial⟩ rfl rfl ⟨0, by omega, by omega⟩ fun v hv => ⟨rfl, ?_⟩
  refine dEr ?_
  refine cP (fun h0 => ?_) (fun h0 => ?_)
  · refine dr ?_
    refine oW (f_l2Bent W0 s (p + 1) o.base hs (by omega) (by omega)) rfl ⟨rfl, trivial⟩ rfl rfl ⟨([], p + 1), by simp; omega⟩ fun x hx => ⟨rfl, ?_⟩
    obtain ⟨b1, q1⟩ := x
    obtain ⟨a1, a2, a3⟩ : b1.length ≤ o.base.length + 1 ∧ p + 1 ≤ q1 ∧ q1 ≤ p + 1 + 3 := hx
    refine dr ?_
    refine oW (f_l2Bent W0 s q1 b1 hs (by omega) (by omega)) rfl ⟨rfl, trivial⟩ rfl rfl ⟨([], q1), by simp; omega⟩ fun x hx => ⟨rfl, ?_⟩
    obtain ⟨b2, q2⟩ := x
    obtain ⟨c1, c2, c3⟩ : b2.length ≤ b1.length + 1 ∧ q1 ≤ q2 ∧ q2 ≤ q1 + 3 := hx
    refine dr ?_
    refine oW (f_l2Bent W0 s q2 b2 hs (by omega) (by omega)) rfl ⟨rfl, trivial⟩ rfl rfl ⟨([], q2), by simp; omega⟩ fun x hx => ⟨rfl, ?_⟩
    obtain ⟨b3, q3⟩ := x
    obtain ⟨d1, d2, d3⟩ : b3.length ≤ b2.length + 1 ∧ q2 ≤ q3 ∧ q3 ≤ q2 + 3 := hx
    refine dr ?_
    refine oW (f_l2Bent W0 s q3 b3 hs (by omega) (by omega)) rfl ⟨rfl, trivial⟩ rfl rfl ⟨([], q3), by simp; omega⟩ fun x hx => ⟨rfl, ?_⟩
    obtain ⟨b4, q4⟩ := x
    obtain ⟨e1, e2, e3⟩ : b4.length ≤ b3.length + 1 ∧ q3 ≤ q4 ∧ q4 ≤ q3 + 3 := hx
    refine dEr ?_
    refine ⟨some 4, _, _, ?_, (⟨b4, o.layers, o.upper⟩, q4), ⟨⟨by simp only; omega, by simp only; omega, fun l hl => by have := z3 l hl; omega, by simp only; omega⟩, by omega, by omega⟩, rfl, rfl⟩
    refine dr ?_
    repeat ((first | refine oB (ovE rfl) ?_ | refine oB (by simp) ?_); first | refine dr ?_ | exact dz)
    trivial
  refine dr ?_
  refine cP (fun h1 => ?_) (fun h1 => ?_)
  · refine dr ?_
    refine cP (fun h2 => ?_) (fun h2 => ?_)
    · refine dr ?_
      refine oW (f_pick W0 s (p + 1) o.layers.length hs (by omega) (by omega)) rfl ⟨rfl, trivial⟩ rfl rfl ⟨0, by omega, by omega⟩ fun k hk => ⟨rfl, ?_⟩
      obtain ⟨k, rfl⟩ : ∃ j : Nat, k = j := ⟨k.toNat, by omega⟩
      have hk' : k < o.layers.length := by have := hk.2 (by omega); omega
      have hzk := z3 _ (List.getElem_mem hk')
      refine dEr ?_
      refine oW (f_l3Bent W0 s (p + 1 + 1) o.layers[k] hs (by omega) (by omega)) rfl ⟨rfl, trivial⟩ rfl rfl ⟨([], p + 1 + 1), by simp; omega⟩ fun x hx => ⟨rfl, ?_⟩
      obtain ⟨b1, q1⟩ := x
      obtain ⟨a1, a2, a3⟩ : b1.length ≤ o.layers[k].length + 1 ∧ p + 1 + 1 ≤ q1 ∧ q1 ≤ p + 1 + 1 + 3 := hx
      refine dr ?_
      refine oW (f_l3Bent W0 s q1 b1 hs (by omega) (by omega)) rfl ⟨rfl, trivial⟩ rfl rfl ⟨([], q1), by simp; omega⟩ fun x hx => ⟨rfl, ?_⟩
      obtain ⟨b2, q2⟩ := x
      obtain ⟨c1, c2, c3⟩ : b2.length ≤ b1.length + 1 ∧ q1 ≤ q2 ∧ q2 ≤ q1 + 3 := hx
      refine dr ?_
      refine oW (f_l3Bent W0 s q2 b2 hs (by omega) (by omega)) rfl ⟨rfl, trivial⟩ rfl rfl ⟨([], q2), by simp; omega⟩ fun x hx => ⟨rfl, ?_⟩
      obtain ⟨b3, q3⟩ := x
      obtain ⟨d1, d2, d3⟩ : b3.length ≤ b2.length + 1 ∧ q2 ≤ q3 ∧ q3 ≤ q2 + 3 := hx
      refine dr ?_
      refine oW (f_l3Bent W0 s q3 b3 hs (by omega) (by omega)) rfl ⟨rfl, trivial⟩ rfl rfl ⟨([], q3), by simp; omega⟩ fun x hx => ⟨rfl, ?_⟩
      obtain ⟨b4, q4⟩ := x
      obtain ⟨e1, e2, e3⟩ : b4.length ≤ b3.length + 1 ∧ q3 ≤ q4 ∧ q4 ≤ q3 + 3 := hx
      refine dEr ?_
      refine ⟨some 4, _, _, ?_, (⟨o.base, o.layers.set k b4, o.upper⟩, q4), ⟨hz.put (by simp; omega) (fun l hl => ?_) (by omega), by omega, by omega⟩, rfl, rfl⟩
      · refine dr ?_
        repeat ((first | refine oB (ovE set1) ?_ | refine oB (by simp) ?_); first | refine dr ?_ | exact dz)
        trivial
      · rcases List.mem_or_eq_of_mem_set hl with h | h
        · have := z3 l h; omega
        · subst h; omega
    · refine dr ?_
      refine ⟨some 4, _, _, ?_, (o, p + 1), ⟨hz', by omega, by omega⟩, rfl, rfl⟩
      refine dr ?_
      repeat ((first | refine oB (ovE rfl) ?_ | refine oB (by simp) ?_); first | refine dr ?_ | exact dz)
      trivial
  refine dr ?_
  refine cP (fun h2 => ?_) (fun h2 => ?_)
  · refine dr ?_
    refine oW (f_l3Bent W0 s (p + 1) o.upper hs (by omega) (by omega)) rfl ⟨rfl, trivial⟩ rfl rfl ⟨([], p + 1), by simp; omega⟩ fun x hx => ⟨rfl, ?_⟩
    obtain ⟨b1, q1⟩ := x
    obtain ⟨a1, a2, a3⟩ : b1.length ≤ o.upper.length + 1 ∧ p + 1 ≤ q1 ∧ q1 ≤ p + 1 + 3 := hx
    refine dr ?_
    refine oW (f_l3Bent W0 s q1 b1 hs (by omega) (by omega)) rfl ⟨rfl, trivial⟩ rfl rfl ⟨([], q1), by simp; omega⟩ fun x hx => ⟨rfl, ?_⟩
    obtain ⟨b2, q2⟩ := x
    obtain ⟨c1, c2, c3⟩ : b2.length ≤ b1.length + 1 ∧ q1 ≤ q2 ∧ q2 ≤ q1 + 3 := hx
    refine dr ?_
    refine oW (f_l3Bent W0 s q2 b2 hs (by omega) (by omega)) rfl ⟨rfl, trivial⟩ rfl rfl ⟨([], q2), by simp; omega⟩ fun x hx => ⟨rfl, ?_⟩
    obtain ⟨b3, q3⟩ := x
    obtain ⟨d1, d2, d3⟩ : b3.length ≤ b2.length + 1 ∧ q2 ≤ q3 ∧ q3 ≤ q2 + 3 := hx
    refine dr ?_
    refine oW (f_l3Bent W0 s q3 b3 hs (by omega) (by omega)) rfl ⟨rfl, trivial⟩ rfl rfl ⟨([], q3), by simp; omega⟩ fun x hx => ⟨rfl, ?_⟩
    obtain ⟨b4, q4⟩ := x
    obtain ⟨e1, e2, e3⟩ : b4.length ≤ b3.length + 1 ∧ q3 ≤ q4 ∧ q4 ≤ q3 + 3 := hx
    refine dEr ?_
    refine ⟨some 4, _, _, ?_, (⟨o.base, o.layers, b4⟩, q4), ⟨⟨by simp only; omega, by simp only; omega, fun l hl => by have := z3 l hl; omega, by simp only; omega⟩, by omega, by omega⟩, rfl, rfl⟩
    refine dr ?_
    repeat ((first | refine oB (ovE rfl) ?_ | refine oB (by simp) ?_); first | refine dr ?_ | exact dz)
    trivial
  refine dr ?_
  refine cP (fun h3 => ?_) (fun h3 => ?_)
  · refine dr ?_
    refine oW (f_l3Layer W0 s (p + 1) hs (by omega)) rfl ⟨rfl, trivial⟩ rfl rfl ⟨([], p + 1), by simp; omega⟩ fun x hx => ⟨rfl, ?_⟩
    obtain ⟨l, q1⟩ := x
    obtain ⟨a1, a2, a3⟩ : l.length ≤ 32 ∧ p + 1 ≤ q1 ∧ q1 ≤ p + 1 + 37 := hx
    refine dEr ?_
    refine ⟨some 4, _, _, ?_, (⟨o.base, o.layers, l⟩, q1), ⟨⟨by simp only; omega, by simp only; omega, fun l hl => by have := z3 l hl; omega, by simp only; omega⟩, by omega, by omega⟩, rfl, rfl⟩
    refine dr ?_
    repeat ((first | refine oB (ovE rfl) ?_ | refine oB (by simp) ?_); first | refine dr ?_ | exact dz)
    trivial
  refine dr ?_
  refine cP (fun h4 => ?_) (fun h4 => ?_)
  · refine dr ?_
    refine lp (σ := List (List Mark)) (fun L => [(0, .ptr 1 0), (4, .ptr 64 0), (5, .ptr 80 0)]) (fun L => [(1, rdB s (p + 1)), (64, ni3), (80, .box [.c (eEnts o.base), .own 4 L.length, .c (eMarks o.upper)]), (4, .row (L.map eMarks) 1 25)]) (fun L => L.length ≤ n + 5 ∧ ∀ l ∈ L, l.length ≤ n) (fun L => 6 - L.length) o.layers ⟨by omega, z3⟩ ?_ ?_
    · refine dr ?_
      trivial
    rintro L ⟨g1, g2⟩
    refine dr ?_
    refine cP (fun h5 => ?_) (fun h5 => ?_)
    · refine dr ?_
      repeat (refine oB (by simp; omega) ?_; first | refine dr ?_ | exact dz)
      refine ⟨L ++ [[]], ⟨by simp; omega, fun l hl => ?_⟩, by simp; omega, ?_⟩
      · rcases List.mem_append.1 hl with h | h
        · exact g2 l h
        · simp only [List.mem_singleton] at h; subst h; simp
      · refine dr ?_
        repeat ((first | refine oB (congrArg (fun L => XB.row L 1 25) (app1 (f := eMarks) (x := []))) ?_ | refine oB (by simp) ?_); first | refine dr ?_ | exact dz)
        trivial
    · refine dr ?_
      refine ⟨some 4, _, _, ?_, (⟨o.base, L, o.upper⟩, p + 1), ⟨hz.put (by omega) (fun l hl => by have := g2 l hl; omega) (by omega), by omega, by omega⟩, rfl, rfl⟩
      refine dr ?_
      repeat ((first | refine oB (ovE rfl) ?_ | refine oB (by simp) ?_); first | refine dr ?_ | exact dz)
      trivial
  refine dr ?_
  refine cP (fun h5 => ?_) (fun h5 => ?_)
  · refine dr ?_
    refine oW (f_l3Layer W0 s (p + 1) hs (by omega)) rfl ⟨rfl, trivial⟩ rfl rfl ⟨([], p + 1), by simp; omega⟩ fun x hx => ⟨rfl, ?_⟩
    obtain ⟨l, q1⟩ := x
    obtain ⟨a1, a2, a3⟩ : l.length ≤ 32 ∧ p + 1 ≤ q1 ∧ q1 ≤ p + 1 + 37 := hx
    refine dEr ?_
    repeat ((first | refine oB (by simp; omega) ?_ | refine oB (by simp) ?_); first | refine dEr ?_ | exact dz)
    refine ⟨some 4, _, _, ?_, (⟨o.base, o.layers ++ [l], o.upper⟩, q1), ⟨hz.put (by simp; omega) (fun x hx => ?_) (by omega), by omega, by omega⟩, rfl, rfl⟩
    · refine dr ?_
      repeat ((first | refine oB (ovE app1) ?_ | refine oB (by simp) ?_); first | refine dr ?_ | exact dz)
      trivial
    · rcases List.mem_append.1 hx with h | h
      · have := z3 x h; omega
      · simp only [List.mem_singleton] at h; subst h; omega
  · refine dr ?_
    refine ⟨some 4, _, _, ?_, (o, p + 1), ⟨hz', by omega, by omega⟩, rfl, rfl⟩
    refine dr ?_
    repeat ((first | refine oB (ovE rfl) ?_ | refine oB (by simp) ?_); first | refine dr ?_ | exact dz)
    trivial
def c_spec_l4Some : XC := (.s (.r [.ex 2 (.alloc [.nil, .nil, .nil])]) (.s (.r [.mv 3 0, .mv 4 0, .ex 5 (.opn 54 [(.t 4)]), .ex 6 (.opn 59 [(.t 3), (.t 5)]), .nu (.st 3 (.t 2) (.t 6))]) .ret))
theorem c_spec_l4Some_eq : compF Tryz.prog [54, 59] 67 = some (c_spec_l4Some.ac, [(.cell 2 true 3)], 7) := by kernel_rfl
theorem f_l4Some (W0 : World) (s : Str) (p : Int) (hs : s.length ≤ 2000) (hp : 0 ≤ p ∧ p ≤ 20000) :
    FunW Tryz.prog W0 67 [.ptr 1 0] (Rd s p) (fun x : Over × Int => OZ 80 x.1 ∧ p ≤ x.2 ∧ x.2 ≤ p + 640) (fun x => .c (eOver x.1)) (fun x => Rd s x.2) := by
  refine funW (c := c_spec_l4Some) mixed c_spec_l4Some_eq (by simp) rfl rfl fun hg => ?_
  refine dr ?_
  refine oW (f_l4Over W0 s p hs hp) rfl ⟨rfl, trivial⟩ rfl rfl ⟨(noO, p), OS.no, by simp, by simp; omega⟩ fun x hx => ⟨rfl, ?_⟩
  obtain ⟨o, q⟩ := x
  obtain ⟨a1, a2, a3⟩ : OS o ∧ p ≤ q ∧ q ≤ p + 600 := hx
  refine dEr ?_
  refine oW (f_l4Bent W0 s q o 32 hs (by omega) a1.oz (by omega)) rfl ⟨rfl, trivial⟩ rfl rfl ⟨(noO, q), OS.no.oz.mono (by omega), by simp, by simp; omega⟩ fun x hx => ⟨rfl, ?_⟩
  obtain ⟨x, r⟩ := x
  obtain ⟨b1, b2, b3⟩ : OZ (32 + 40) x ∧ q ≤ r ∧ r ≤ q + 40 := hx
  refine dEr ?_
  refine ⟨none, _, _, ?_, (x, r), ⟨b1.mono (by omega), by omega, by omega⟩, rfl, rfl⟩
  refine dr ?_
  trivial
end Go.Proofs.YthblflnfhdnpdaaGreatDoor

namespace Go.Proofs.YthblflnfhdnpdaaGreatDoor
set_option linter.unusedSimpArgs false
set_option linter.unusedVariables false
open Go Go.RowKit
end Go.Proofs.YthblflnfhdnpdaaGreatDoor

namespace Go.Proofs.YthblflnfhdnpdaaGreatDoor
set_option linter.unusedSimpArgs false
set_option linter.unusedVariables false
open Go Go.RowKit
theorem offL_def {l : List Lease} {who : Int} {p : Str} {num : Int} : offL l who p num = l.filter fun x => !(x.who == who && (x.path == p && decide (x.num ≤ num))) := rfl
theorem leaveH_def {l : List Hold} {p : Str} {n : Int} : leaveH l p n = l.filter fun x => !(x.path == p && decide (x.num ≤ n)) := rfl
end Go.Proofs.YthblflnfhdnpdaaGreatDoor

namespace Go.Proofs.YthblflnfhdnpdaaGreatDoor
set_option linter.unusedSimpArgs false
set_option linter.unusedVariables false
open Go Go.RowKit
section
variable {w x : Wld}
theorem take_take {l : List Hold} {h : Hold} : takeH (takeH l h) h = takeH l h := by
  have : (takeH l h).any (fun x => x.path == h.path && decide (h.num ≤ x.num)) = true := by
    unfold takeH
    split
    · assumption
    · simp
  generalize takeH l h = l' at *
  unfold takeH
  rw [if_pos this]
structure Later (w x : Wld) : Prop where
  g : WG x
  o : x.over = w.over
  wt : x.waits = w.waits
  op : x.op = w.op
  h : x.holds = w.holds
  l : ∀ l ∈ x.leases, l ∈ w.leases ∧ (x.clock = w.clock ∨ x.clock < l.til)
theorem Later.refl (h : WG w) : Later w w := ⟨h, rfl, rfl, rfl, rfl, fun l hl => ⟨hl, .inl rfl⟩⟩
theorem Later.tick (h : Later w x) : Later w (tickW x) :=
  ⟨h.g.tick, h.o, h.wt, h.op, h.h, fun l hl => ⟨(h.l l (List.mem_filter.1 hl).1).1, .inr (of_decide_eq_true (List.mem_filter.1 hl).2)⟩⟩
theorem Later.bars (h : Later w x) {op : Op} : ∀ l ∈ barsW x op, l ∈ barsW w op ∨ w.clock < x.clock ∨ x.clock < w.clock := fun l hl => by
  obtain ⟨h1, h2, h3⟩ := bars_mem.1 hl
  by_cases hc : x.clock = w.clock
  · left
    refine bars_mem.2 ⟨(h.l l h1).1, by omega, ?_⟩
    unfold turnsW at h3 ⊢; rw [h.o] at h3; exact h3
  · right; omega
theorem Later.none (h : Later w x) {late : Int} (h1 : ∀ l ∈ barsW w w.op, l.til ≤ late) (h2 : x.clock = late) (h3 : w.clock ≤ late) : barsW x x.op = [] := by
  cases hb : barsW x x.op with
  | nil => rfl
  | cons l r =>
    exfalso
    obtain ⟨g1, g2, g3⟩ := bars_mem.1 (show l ∈ barsW x x.op by rw [hb]; simp)
    have hm := (h.l l g1).1
    have : l ∈ barsW w w.op := by
      refine bars_mem.2 ⟨hm, by omega, ?_⟩
      unfold turnsW at g3 ⊢; rw [h.o, h.op] at g3; exact g3
    have := h1 l this
    omega
end
end Go.Proofs.YthblflnfhdnpdaaGreatDoor

namespace Go.Proofs.YthblflnfhdnpdaaGreatDoor
set_option linter.unusedSimpArgs false
set_option linter.unusedVariables false
open Go Go.RowKit
def giveE (k : Int) : Ev := ⟨5, 0, [], noOp, k⟩
def copyE (k : Int) : Ev := ⟨7, 0, [], noOp, k⟩
section
variable {w : Wld}
theorem send_room {m : Msg} (h : w.net.length < 12) : sendW w m = { w with net := w.net ++ [m] } := by unfold sendW; rw [if_pos h]
theorem give_eq {k : Nat} (h : k < w.net.length) : evW w (giveE k) = (comeW { w with net := w.net.eraseIdx k } (w.net.getD k noMs), 0) := by
  unfold evW giveE
  rw [if_neg (by simp), if_neg (by simp), if_neg (by simp), if_neg (by simp), if_pos (by simp)]
  unfold netW
  rw [if_neg (by simp; omega), if_neg (by simp), if_pos rfl]
  simp
theorem copy_eq {k : Nat} (h : k < w.net.length) (h2 : w.net.length < 12) : evW w (copyE k) = ({ w with net := w.net ++ [w.net.getD k noMs] }, 0) := by
  unfold evW copyE
  rw [if_neg (by simp), if_neg (by simp), if_neg (by simp), if_neg (by simp), if_pos (by simp)]
  unfold netW
  rw [if_neg (by simp; omega), if_pos rfl]
  simp only
  rw [send_room h2]; simp
theorem at_end {a : List Msg} {m : Msg} {r : List Msg} : (a ++ m :: r).getD a.length noMs = m ∧ (a ++ m :: r).eraseIdx a.length = a ++ r := by
  constructor
  · simp [List.getD]
  · rw [List.eraseIdx_append_of_length_le (Nat.le_refl _)]; simp
def heldW (w : Wld) (who : Int) (p : Str) : Wld := comeW (grantL w who p) (grantM w who p)
structure GO (w : Wld) (who : Int) (p : Str) : Prop where
  g : WG w
  iw : isW who
  pth : pOk p = true
  wt : w.waits = false
  ct : w.count < 10000
variable {who : Int} {p : Str}
theorem hdW_at {x : Wld} {L : List (List Hold)} {k : Int} {a : List Hold} (hk : isW k) (hl : L.length = 3) (e : x.holds = L.set k.toNat a) : hdW x k = a := by
  unfold hdW
  rw [e]
  have := hk.1; have := hk.2
  simp only [List.getD, List.getElem?_set]
  rw [if_pos trivial, if_pos (by omega)]; rfl
theorem GO.take (h : GO w who p) : heldW w who p = { grantL w who p with holds := w.holds.set who.toNat (takeH (hdW w who) (grantM w who p).hold) } := by
  unfold heldW comeW
  rw [if_neg (by simp [grantM]), if_pos (show (grantM w who p).kind = 2 from rfl)]
  have hf := h.g.pl.fr _ (flW_mem h.iw h.g.pl.fl)
  rw [if_pos]
  · rfl
  · refine ⟨by show w.clock < w.clock + 5; omega, ?_⟩
    show flW w who < w.count + 1
    omega
theorem GO.hd (h : GO w who p) : hdW (heldW w who p) who = takeH (hdW w who) (grantM w who p).hold := by
  rw [h.take]
  exact hdW_at h.iw h.g.pl.hl rfl
theorem come_net {m : Msg} {n : List Msg} (hk : m.kind = 2) : comeW { w with net := n } m = { comeW w m with net := n } := by
  unfold comeW
  rw [if_neg (show ¬ m.kind = 1 by omega), if_neg (show ¬ m.kind = 1 by omega), if_pos hk, if_pos hk]
  show (if w.clock < m.hold.til ∧ flW w m.who < m.hold.num then _ else _) = _
  by_cases hc : w.clock < m.hold.til ∧ flW w m.who < m.hold.num
  · rw [if_pos hc, if_pos hc]; rfl
  · rw [if_neg hc, if_neg hc]
theorem GO.late (h : GO w who p) (hn : w.net.length ≤ 8) :
    evW { grantL w who p with net := w.net ++ [grantM w who p] } (copyE w.net.length) = ({ grantL w who p with net := w.net ++ [grantM w who p, grantM w who p] }, 0) ∧
    evW { grantL w who p with net := w.net ++ [grantM w who p, grantM w who p] } (giveE w.net.length) = ({ heldW w who p with net := w.net ++ [grantM w who p] }, 0) := by
  constructor
  · rw [copy_eq (by simp) (by simp; omega)]
    obtain ⟨e1, _⟩ := @at_end w.net (grantM w who p) []
    simp only [e1, List.append_assoc, List.singleton_append]
  · rw [give_eq (by simp)]
    obtain ⟨e1, e2⟩ := @at_end w.net (grantM w who p) [grantM w who p]
    simp only [e1, e2]
    refine congrArg (·, 0) ?_
    exact come_net (w := grantL w who p) rfl
end
end Go.Proofs.YthblflnfhdnpdaaGreatDoor

namespace Go.Proofs.YthblflnfhdnpdaaGreatDoor
set_option linter.unusedSimpArgs false
set_option linter.unusedVariables false
open Go Go.RowKit
theorem hd_at {w : Wld} {i : Nat} (h : i < w.holds.length) : hdW w (i : Int) = w.holds[i] := by
  unfold hdW; simp [h]
structure HZ (n : Nat) (w : Wld) : Prop where
  l : w.leases.length ≤ n
  h : ∀ x ∈ w.holds, x.length ≤ n
end Go.Proofs.YthblflnfhdnpdaaGreatDoor

namespace Go.Proofs.YthblflnfhdnpdaaGreatDoor
set_option linter.unusedSimpArgs false
set_option linter.unusedVariables false
open Go Go.RowKit
theorem HZ.mono {n m : Nat} {w : Wld} (h : HZ n w) (hm : n ≤ m) : HZ m w := ⟨by have := h.l; omega, fun x hx => by have := h.h x hx; omega⟩
theorem takeH_len {l : List Hold} {h : Hold} : (takeH l h).length ≤ l.length + 1 := by
  unfold takeH
  split
  · omega
  · have := List.length_filter_le (fun x : Hold => x.path != h.path) l
    simp; omega
theorem HZ.set {n : Nat} {w : Wld} {k : Nat} {L : List Hold} (h : HZ n w) (hL : L.length ≤ n + 1) : ∀ x ∈ w.holds.set k L, x.length ≤ n + 1 := fun x hx => by
  rcases List.mem_or_eq_of_mem_set hx with h' | h'
  · have := h.h x h'; omega
  · rw [h']; exact hL
theorem hdW_len {n : Nat} {w : Wld} (h : HZ n w) (k : Int) : (hdW w k).length ≤ n := by
  unfold hdW
  rw [List.getD_eq_getElem?_getD]
  by_cases hk : k.toNat < w.holds.length
  · rw [List.getElem?_eq_getElem hk]; exact h.h _ (List.getElem_mem hk)
  · rw [List.getElem?_eq_none (by omega)]; simp
theorem HZ.of_eq {n : Nat} {w x : Wld} (h : HZ n w) (h1 : x.leases = w.leases) (h2 : x.holds = w.holds) : HZ (n + 1) x := ⟨by rw [h1]; have := h.l; omega, fun y hy => by rw [h2] at hy; have := h.h y hy; omega⟩
theorem HZ.come {n : Nat} {w : Wld} (h : HZ n w) (m : Msg) : HZ (n + 1) (comeW w m) := by
  have hl := h.l
  unfold comeW
  split
  · unfold grantW
    split
    · exact h.mono (by omega)
    · refine ⟨?_, fun y hy => ?_⟩
      · rw [sendW_same.2.2.2.1]
        have := List.length_filter_le (fun x : Lease => !(x.who == m.who && (x.path == m.hold.path && decide (x.num ≤ w.count + 1)))) w.leases
        show (offL w.leases m.who m.hold.path (w.count + 1) ++ _).length ≤ n + 1
        rw [List.length_append, offL_def]
        simp only [List.length_cons, List.length_nil]; omega
      · rw [sendW_same.2.2.2.2.1] at hy
        have := h.h y hy; omega
  · split
    · split
      · exact ⟨by show w.leases.length ≤ n + 1; omega, h.set (by have := @takeH_len (hdW w m.who) m.hold; have := hdW_len h m.who; omega)⟩
      · exact h.mono (by omega)
    · split
      · refine ⟨?_, fun y hy => ?_⟩
        · rw [sendW_same.2.2.2.1]; show w.leases.length ≤ n + 1; omega
        · rw [sendW_same.2.2.2.2.1] at hy
          exact h.set (by have := List.length_filter_le (fun x : Hold => !(x.path == m.hold.path && decide (x.num ≤ m.hold.num))) (hdW w m.who); have := hdW_len h m.who; rw [leaveH_def]; omega) y hy
      · split
        · refine ⟨?_, fun y hy => by have := h.h y hy; omega⟩
          have := List.length_filter_le (fun x : Lease => !(x.who == m.who && (x.path == m.hold.path && decide (x.num ≤ m.hold.num)))) w.leases
          show (offL w.leases m.who m.hold.path m.hold.num).length ≤ n + 1
          rw [offL_def]; omega
        · exact h.mono (by omega)
theorem HZ.ev {n : Nat} {w : Wld} (h : HZ n w) (e : Ev) : HZ (n + 1) (evW w e).1 := by
  have hl := h.l
  have id1 : HZ (n + 1) w := h.mono (by omega)
  unfold evW
  split
  · split
    · exact h.of_eq sendW_same.2.2.2.1 sendW_same.2.2.2.2.1
    · exact id1
  · split
    · unfold writeW
      split
      · exact id1
      · split
        · exact id1
        · split
          · exact h.of_eq recallW_same.2.2.2.1 recallW_same.2.2.2.2.1
          · exact h.of_eq rfl rfl
    · split
      · unfold tryW
        split
        · exact id1
        · split
          · exact h.of_eq recallW_same.2.2.2.1 recallW_same.2.2.2.2.1
          · exact h.of_eq rfl rfl
      · split
        · refine ⟨?_, fun y hy => by have := h.h y hy; omega⟩
          have := List.length_filter_le (fun l : Lease => decide (tickC w < l.til)) w.leases
          show (w.leases.filter fun l => decide (tickC w < l.til)).length ≤ n + 1
          omega
        · split
          · unfold netW
            split
            · exact id1
            · split
              · exact h.of_eq sendW_same.2.2.2.1 sendW_same.2.2.2.2.1
              · split
                · exact HZ.come (w := { w with net := w.net.eraseIdx e.pos.toNat }) ⟨h.l, h.h⟩ _
                · exact h.of_eq rfl rfl
          · exact id1
theorem HZ.new {o : Over} : HZ 0 (newW o) := ⟨by simp [newW], by simp [newW]⟩
end Go.Proofs.YthblflnfhdnpdaaGreatDoor

namespace Go.Proofs.YthblflnfhdnpdaaGreatDoor
set_option linter.unusedSimpArgs false
set_option linter.unusedVariables false
open Go Go.RowKit
theorem KeepS.nilS {k0 : List Nat} {A : Fr} {m : XM} (bx : Nat) (cs cs' : List PV) (id sz : Nat) (e : TypeId) (h0 : 0 < sz) (hb : lkX m bx = some (.box cs)) (hid : lkX m id = none) (hc : All2 (NR1 id) cs cs') :
    KeepS k0 A m A ((id, .row [] sz e) :: updX m bx (.box cs')) := fun W0 F K hA hK => by
  have hb' : lk (Go.Proofs.YthblflnfhdnpdaaGreatDoor.er m) bx = some (.box cs) := by rw [lk_er, hb]; rfl
  have hup : Go.Proofs.YthblflnfhdnpdaaGreatDoor.er (updX m bx (.box cs')) = upd (Go.Proofs.YthblflnfhdnpdaaGreatDoor.er m) bx (.box cs') := updX_er
  refine KeepG.nil (F2 := A) (m2 := upd (Go.Proofs.YthblflnfhdnpdaaGreatDoor.er m) bx (.box cs')) id sz e (by rw [lk_er, hid]; rfl) h0 (fun t x hx => ⟨x, by rw [← hA t]; exact hx, .inl (.inl rfl)⟩) (fun i b hi => ?_) (fun i hi => by rw [isSome_upd]; exact hi) ?_
  · by_cases h : i = bx
    · subst h
      rw [lk_upd_same hb'] at hi
      cases hi
      exact ⟨_, hb', .inr ⟨cs, cs', rfl, rfl, hc⟩⟩
    · rw [lk_upd_other h] at hi
      exact ⟨b, hi, .inl rfl⟩
  · have : Go.Proofs.YthblflnfhdnpdaaGreatDoor.er ((id, XB.row [] sz e) :: updX m bx (.box cs')) = (id, .row [] sz e) :: upd (Go.Proofs.YthblflnfhdnpdaaGreatDoor.er m) bx (.box cs') := by simp only [Go.Proofs.YthblflnfhdnpdaaGreatDoor.er, XB.er, hup]; rfl
    rw [this] at hK; exact hK
end Go.Proofs.YthblflnfhdnpdaaGreatDoor

namespace Go.Proofs.YthblflnfhdnpdaaGreatDoor
set_option linter.unusedSimpArgs false
set_option linter.unusedVariables false
open Go Go.RowKit
def c_spec_WorldNew : XC := (.s (.r [.ex 1 (.box (.t 0)), .ex 2 (.alloc [.nil, .nil, .nil, (.c (.sc (.int .i64 0))), (.c (.sc (.int .i64 0))), .nil, .nil, .nil, .nil, (.c (.sc (.bool false))), (.c (.sc (.int .i64 0))), (.c (.sc (.string ⟨#[]⟩))), (.c (.sc (.string ⟨#[]⟩))), (.c (.sc (.string ⟨#[]⟩)))])]) (.s (.d [.ex 3 (.ld true 3 (.t 1)), .ex 4 (.call 63 [(.t 3)]), .ex 5 (.mks 1 24 74 (.c (.row [])) (.i 3)), .ex 6 (.mks 1 8 3 (.c (.sc (.int .i64 0))) (.i 3)), .ex 7 (.build [.nil, .nil, .nil, (.c (.sc (.int .i64 0))), (.c (.sc (.int .i64 0))), .nil, .nil, .nil, .nil, (.c (.sc (.bool false))), (.c (.sc (.int .i64 0))), (.c (.sc (.string ⟨#[]⟩))), (.c (.sc (.string ⟨#[]⟩))), (.c (.sc (.string ⟨#[]⟩)))] [(0, (3, (.t 4))), (6, (1, (.t 5))), (7, (1, (.t 6)))]), .nu (.st 14 (.t 2) (.t 7))]) .ret))
theorem c_spec_WorldNew_eq : compF Tryz.prog [] 35 = some (c_spec_WorldNew.ac, [(.cell 2 true 14)], 8) := by kernel_rfl
theorem f_spec_WorldNew (W0 : World) (o : Over) (h : OZ 1000000 o) : Fn Tryz.prog W0 35 [eOver o] (.c (eWld (newW o))) [] := by
  refine fnX (c := c_spec_WorldNew) mixed c_spec_WorldNew_eq (by simp) rfl fun hg => ?_
  refine dEr ?_
  repeat ((first | refine c0 (f_l4CopyC W0 o h) rfl ?_ | refine nE (j := 3) rfl ?_ | refine oB (by simp) ?_); first | refine dEr ?_ | exact dz)
  rfl
theorem KeepS.newB {k0 : List Nat} {A : Fr} {m : XM} (bx : Nat) (o : Over) (hb : lkX m bx = some (.box [.c (eEnts o.base), .c (eMarkss o.layers), .c (eMarks o.upper), I 0, I 0, .nil, .own 4 3, .own 5 3, .nil, B false, I 0, .c (CS []), .c (CS []), .c (CS [])])) (h6 : lkX m 6 = none) (hne : bx ≠ 6)
    {F2 : Fr} {m2 : XM} {z : Option Nat} (h : KeepX k0 z A ((6, .row [] 9 73) :: updX (updX m bx (.box [.c (eEnts o.base), .c (eMarkss o.layers), .c (eMarks o.upper), I 0, I 0, .c (.row []), .own 4 3, .own 5 3, .nil, B false, I 0, .c (CS []), .c (CS []), .c (CS [])])) bx (.box [.c (eEnts o.base), .c (eMarkss o.layers), .c (eMarks o.upper), I 0, I 0, .c (.row []), .own 4 3, .own 5 3, .own 6 0, B false, I 0, .c (CS []), .c (CS []), .c (CS [])])) F2 m2) : KeepX k0 (some 3) A m F2 m2 := by
  refine KeepS.trans (z := some 3) (KeepS.nilC bx _ [.c (eEnts o.base), .c (eMarkss o.layers), .c (eMarks o.upper), I 0, I 0, .c (.row []), .own 4 3, .own 5 3, .nil, B false, I 0, .c (CS []), .c (CS []), .c (CS [])] hb ⟨nc0, nc0, nc0, nc0, nc0, nc1, nc0, nc0, nc0, nc0, nc0, nc0, nc0, nc0, trivial⟩) ?_
  have key : ∀ {m : XM} {b b' : XB}, lkX m bx = some b → lkX (updX m bx b') bx = some b' := by
    intro m b b' hm
    induction m with
    | nil => cases hm
    | cons p l ih =>
      obtain ⟨k, x⟩ := p
      rw [lkX] at hm
      rw [updX]
      cases hk : Nat.beq k bx with
      | true => simp only [lkX]; rw [Nat.eq_of_beq_eq_true hk]; simp
      | false =>
        have hk' : Nat.beq bx k = false := by
          cases h' : Nat.beq bx k with
          | false => rfl
          | true => rw [Nat.eq_of_beq_eq_true h'] at hk; simp at hk
        rw [hk'] at hm
        simp only [lkX, hk']
        exact ih hm
  have key2 : ∀ {m : XM} {b' : XB}, lkX m 6 = none → lkX (updX m bx b') 6 = none := by
    intro m b' hm
    induction m with
    | nil => rfl
    | cons p l ih =>
      obtain ⟨k, x⟩ := p
      rw [lkX] at hm
      rw [updX]
      cases hk6 : Nat.beq 6 k with
      | true => rw [hk6] at hm; cases hm
      | false =>
        rw [hk6] at hm
        cases hk : Nat.beq k bx with
        | true => simp only [lkX, hk6]; exact hm
        | false => simp only [lkX, hk6]; exact ih hm
  exact KeepS.trans (KeepS.nilS bx _ [.c (eEnts o.base), .c (eMarkss o.layers), .c (eMarks o.upper), I 0, I 0, .c (.row []), .own 4 3, .own 5 3, .own 6 0, B false, I 0, .c (CS []), .c (CS []), .c (CS [])] 6 9 73 (by omega) (key hb) (key2 h6) ⟨nr0, nr0, nr0, nr0, nr0, nr0, nr0, nr0, nr1, nr0, nr0, nr0, nr0, nr0, trivial⟩) h
def eWR (r : Option (Ent × Bool)) : CV := .tup [eEnt (r.getD (noE, false)).1, CB (r.getD (noE, false)).2, CB r.isSome]
theorem wRead_not {w : Wld} {who : Int} {p : Str} (h : ¬ (WG w ∧ isW who)) : wRead w who p = none := by unfold wRead; rw [if_neg h]
theorem wRead_yes {w : Wld} {who : Int} {p : Str} (h : WG w) (h2 : isW who) : wRead w who p = ((hdW w who).find? fun h => h.path == p && decide (w.clock < h.til)).map fun h => (h.ent, h.has) := by unfold wRead; rw [if_pos ⟨h, h2⟩]
theorem findq_here {α : Type} {q : α → Bool} {l : List α} {k : Nat} (h : k < l.length) (hn : ∀ x ∈ l.take k, q x = false) (h1 : q l[k] = true) : l.find? q = some l[k] := by
  have e : l.find? q = (l.take k ++ (l[k] :: l.drop (k + 1))).find? q := by rw [← List.drop_eq_getElem_cons h, List.take_append_drop]
  have e2 : (l.take k).find? q = none := List.find?_eq_none.2 fun x hx => by rw [hn x hx]; simp
  rw [e, List.find?_append, e2, List.find?_cons, h1]; rfl
theorem findq_none {α : Type} {q : α → Bool} {l : List α} (hn : ∀ x ∈ l, q x = false) : l.find? q = none := List.find?_eq_none.2 fun x hx => by rw [hn x hx]; simp
theorem noq_next {α : Type} {q : α → Bool} {l : List α} {k : Nat} (h : k < l.length) (hn : ∀ x ∈ l.take k, q x = false) (h1 : q l[k] = false) : ∀ x ∈ l.take (k + 1), q x = false := fun x hx => by
  rw [List.take_succ_eq_append_getElem h] at hx
  rcases List.mem_append.1 hx with h' | h'
  · exact hn x h'
  · rw [List.mem_singleton.1 h']; exact h1
end Go.Proofs.YthblflnfhdnpdaaGreatDoor

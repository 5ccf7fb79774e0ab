/- Contracts: the reference's paths; no condition. -/
import Derived.Test.YthblflnfhdnpdaaGreatDoorPa1
import Derived.Test.YthblflnfhdnpdaaGreatDoorBm1
namespace Go.Proofs.YthblflnfhdnpdaaGreatDoor
set_option linter.unusedSimpArgs false
set_option linter.unusedVariables false
open Go Go.RowKit


def c_spec_l10Cut : XC := (.s (.r [.ex 4 (.asn (.k .nil) 1 9)]) (.s (.r [.ex 8 .bsl0, .ex 5 (.asn (.t 8) 1 9)]) (.s (.r [.ex 6 (.mv (.i 0))]) (.s (.s (.r [.ex 7 (.mv (.i 0))]) (.blk 0 (.loop (.s (.s (.r [.mv 9 7, .mv 10 0, .ex 11 (.len true (.t 10)), .ex 12 (.bin .leq (.t 9) (.t 11))]) (.cnd (.t 12) .skip (.exit 0))) (.s (.blk 1 (.s (.r [.mv 15 7, .mv 16 0, .ex 17 (.len true (.t 16)), .ex 18 (.bin .eql (.t 15) (.t 17)), .mv 19 18, .gf 20 (.mv (.t 0)) 19, .gf 21 (.mv (.t 7)) 19, .gf 22 (.idx (.t 20) (.t 21)) 19, .gf 23 (.mv (.t 1)) 19, .gf 24 (.bin .eql (.t 22) (.t 23)) 19, .ex 25 (.pick (.t 19) .y (.t 24))]) (.cnd (.t 25) (.s (.r [.mv 26 5, .mv 27 0, .mv 28 6, .mv 29 7, .ex 30 (.sls (.t 27) (.some (.t 28)) (.some (.t 29))), .ex 31 (.bsl 1 9 [(.t 30)]), .ex 32 (.app false 1 16 9 (.t 26) (.t 31)), .ex 5 (.asn (.t 32) 1 9)]) (.r [.mv 33 7, .ex 34 (.bin .add (.t 33) (.i 1)), .mv 6 34])) .skip))) (.r [.mv 13 7, .ex 14 (.bin .add (.t 13) (.i 1)), .mv 7 14])))))) (.s (.r [.mv 35 5, .ex 4 (.asn (.t 35) 1 9)]) .ret)))))
theorem c_spec_l10Cut_eq : compF Go.Proofs.Tryz.prog [] 279 = some (c_spec_l10Cut.ac, [(.t 4)], 36) := by kernel_rfl

theorem f_l10Cut (W0 : World) (s : Str) (c : UInt8) (hs : s.length ≤ 1000000) : Fn Go.Proofs.Tryz.prog W0 279 [CS s, CU c.toNat] (.c (eStrs (cut c s))) [] := by
  refine fnX (c := c_spec_l10Cut) mixed c_spec_l10Cut_eq (by simp) rfl fun hg => ?_
  refine dr ?_
  refine lp3 (fun (out : List Str) (fr k : Nat) => [(0, .c (CS s)), (1, .c (CU c.toNat)), (5, .own 80 out.length), (6, I fr), (7, I k)]) (fun out _ _ => [(80, .row (out.map CS) 1 9)])
    (fun out fr k => fr ≤ k ∧ k ≤ s.length + 1 ∧ (k ≤ s.length → c ∉ (s.take k).drop fr ∧ out ++ cut c (s.drop fr) = cut c s) ∧ (k = s.length + 1 → out = cut c s) ∧ out.length ≤ k) (fun _ _ k => s.length + 1 - k) [] 0 0 ⟨by simp, by simp, by simp, by simp, by simp⟩ ?_ ?_
  · refine dr ?_
    trivial
  rintro out fr k ⟨h1, h2, h3, h4, h5⟩
  refine dr ?_
  refine cP (fun h6 => ?_) (fun h6 => ?_)
  · obtain ⟨h7, h8⟩ := h3 (by omega)
    refine dr ?_
    refine cP (fun h9 => ?_) (fun h9 => ?_)
    · have hk : k = s.length := by omega
      refine dr ?_
      repeat (refine sBo fr k rfl rfl (by omega) (by omega) ?_; first | refine dr ?_ | exact dz)
      refine ⟨out ++ [(s.take k).drop fr], k + 1, k + 1, ⟨by omega, by omega, by omega, fun _ => ?_, by simp; omega⟩, by omega, ?_⟩
      · rw [← h8, cut_none (s := s.drop fr)]
        · rw [hk, List.take_length]
        · rw [hk, List.take_length] at h7; exact h7
      · refine dr ?_
        repeat (refine oB (by simp) ?_; first | refine dr ?_ | exact dz)
        trivial
    · have hk : k < s.length := by omega
      refine dr ?_
      refine cP (fun h10 => ?_) (fun h10 => ?_)
      · have e : s[k] = c := by
          have : s[k].toNat = c.toNat := by omega
          exact UInt8.toNat_inj.1 this
        refine dr ?_
        repeat (refine sBo fr k rfl rfl (by omega) (by omega) ?_; first | refine dr ?_ | exact dz)
        refine ⟨out ++ [(s.take k).drop fr], k + 1, k + 1, ⟨by omega, by omega, fun h => ⟨?_, ?_⟩, fun h => by omega, by simp; omega⟩, by omega, ?_⟩
        · rw [List.drop_of_length_le (by simp; omega)]; simp
        · have e2 : s.drop fr = (s.take k).drop fr ++ c :: s.drop (k + 1) := by
            rw [← e, ← List.drop_eq_getElem_cons hk]
            have : s.drop fr = (s.take k ++ s.drop k).drop fr := by rw [List.take_append_drop]
            rw [this, List.drop_append_of_le_length (by simp; omega)]
          rw [e2, cut_app _ h7] at h8
          rw [← h8]; simp
        · refine dr ?_
          repeat (refine oB (by simp) ?_; first | refine dr ?_ | exact dz)
          trivial
      · have e : s[k] ≠ c := by
          intro e; rw [e] at h10; exact h10 rfl
        refine dr ?_
        refine ⟨out, fr, k + 1, ⟨by omega, by omega, fun h => ⟨?_, h8⟩, fun h => ?_, by omega⟩, by omega, ?_⟩
        · rw [List.take_succ_eq_append_getElem hk, List.drop_append_of_le_length (by simp; omega)]
          simp only [List.mem_append, not_or, List.mem_singleton]
          exact ⟨h7, fun h => e h.symm⟩
        · omega
        · refine dr ?_
          trivial
  · have hk : k = s.length + 1 := by omega
    refine dr ?_
    repeat (refine oB (by simp) ?_; first | refine dr ?_ | exact dz)
    rw [h4 hk]; rfl


def c_spec_l1Names : XC := (.s (.r [.ex 2 (.asn (.k .nil) 1 9)]) (.s (.s (.r [.mv 3 0, .ex 4 (.len true (.t 3)), .ex 5 (.bin .lss (.t 4) (.i 2)), .mv 6 5, .gf 7 (.mv (.t 0)) 6, .gf 8 (.idx (.t 7) (.i 0)) 6, .gf 9 (.bin .neq (.t 8) (.u 47)) 6, .ex 10 (.pick (.t 6) .y (.t 9))]) (.cnd (.t 10) (.s (.r [.ex 11 .bsl0, .ex 2 (.asn (.t 11) 1 9)]) .ret) .skip)) (.s (.r [.mv 12 0, .ex 13 (.sls (.t 12) (.some (.i 1)) .none), .ex 14 (.call 279 [(.t 13), (.u 47)]), .ex 2 (.asn (.t 14) 1 9)]) .ret)))
theorem c_spec_l1Names_eq : compF Go.Proofs.Tryz.prog [] 246 = some (c_spec_l1Names.ac, [(.t 2)], 15) := by kernel_rfl

theorem f_l1Names (W0 : World) (s : Str) (hs : s.length ≤ 1000000) : Fn Go.Proofs.Tryz.prog W0 246 [CS s] (.c (eStrs (names s))) [] := by
  refine fnX (c := c_spec_l1Names) mixed c_spec_l1Names_eq (by simp) rfl fun hg => ?_
  refine dr ?_
  refine cP (fun h1 => ?_) (fun h1 => ?_)
  · refine dr ?_
    repeat (refine oB (by simp) ?_; first | refine dr ?_ | exact dz)
    rw [names, if_pos (.inl (by omega))]; rfl
  · have hl : 2 ≤ s.length := by omega
    refine dr ?_
    refine cP (fun h2 => ?_) (fun h2 => ?_)
    · refine dr ?_
      repeat (refine oB (by simp) ?_; first | refine dr ?_ | exact dz)
      have hc : s.head? ≠ some 47 := by
        cases s with
        | nil => simp at hl
        | cons b t =>
          show some b ≠ some 47
          intro e; cases e; exact h2 rfl
      have e : names s = [] := by rw [names, if_pos (.inr hc)]
      exact congrArg eStrs e.symm
    · have e : s.head? = some 47 := by
        cases s with
        | nil => simp at hl
        | cons b t =>
          have : b.toNat = 47 := by simp at h2; omega
          simp; exact UInt8.toNat_inj.1 (by simpa using this)
      refine dr ?_
      repeat ((first | refine sLo 1 rfl (by omega) ?_ | refine c0 (f_l10Cut W0 _ 47 (by simp; omega)) rfl ?_); first | refine dr ?_ | exact dz)
      intro hg1
      refine dr ?_
      repeat (refine oB (by simp) ?_; first | refine dr ?_ | exact dz)
      rw [names, if_neg (by simp [e]; omega), ← List.drop_one]


def c_spec_l1Name : XC := (.s (.r [.ex 2 (.mv .n)]) (.s (.s (.r [.ex 3 (.mv (.i 0))]) (.blk 0 (.loop (.s (.s (.r [.mv 4 3, .mv 5 0, .ex 6 (.len true (.t 5)), .ex 7 (.bin .lss (.t 4) (.t 6))]) (.cnd (.t 7) .skip (.exit 0))) (.s (.blk 1 (.s (.r [.mv 10 0, .mv 11 3, .ex 12 (.idx (.t 10) (.t 11)), .ex 13 (.bin .lss (.t 12) (.u 97)), .mv 14 13, .gf 15 (.mv (.t 0)) 14, .gf 16 (.mv (.t 3)) 14, .gf 17 (.idx (.t 15) (.t 16)) 14, .gf 18 (.bin .gtr (.t 17) (.u 122)) 14, .ex 19 (.pick (.t 14) .y (.t 18))]) (.cnd (.t 19) (.s (.r [.ex 2 (.mv .n)]) .ret) .skip))) (.r [.mv 8 3, .ex 9 (.bin .add (.t 8) (.i 1)), .mv 3 9])))))) (.s (.r [.mv 20 0, .ex 21 (.len true (.t 20)), .ex 22 (.bin .geq (.t 21) (.i 1)), .mv 23 22, .gt 24 (.mv (.t 0)) 23, .gt 25 (.len true (.t 24)) 23, .gt 26 (.bin .leq (.t 25) (.i 3)) 23, .ex 27 (.pick (.t 23) (.t 26) .n), .mv 2 27]) .ret)))
theorem c_spec_l1Name_eq : compF Go.Proofs.Tryz.prog [] 247 = some (c_spec_l1Name.ac, [(.t 2)], 28) := by kernel_rfl

theorem f_l1Name (W0 : World) (s : Str) : Fn Go.Proofs.Tryz.prog W0 247 [CS s] (.c (CB (nameOk s))) [] := by
  refine fnX (c := c_spec_l1Name) mixed c_spec_l1Name_eq (by simp) rfl fun hg => ?_
  have g1 := goodS (hg _ (by simp : CS s ∈ _))
  refine dr ?_
  refine lp (σ := Nat) (fun k => [(0, .c (CS s)), (3, I k)]) (fun _ => []) (fun k => k ≤ s.length ∧ (s.take k).all lower = true) (fun k => s.length - k) 0 ⟨by simp, by simp⟩ ?_ ?_
  · refine dr ?_
    trivial
  rintro k ⟨hk, ha⟩
  refine dr ?_
  refine cP (fun h1 => ?_) (fun h1 => ?_)
  · have hk' : k < s.length := by omega
    have no : lower s[k] = false → CB false = CB (nameOk s) := fun h => bF (by rw [nameOk, all_no hk' h]; rfl)
    refine dr ?_
    refine cP (fun h2 => ?_) (fun h2 => ?_)
    · refine dr ?_
      exact no (by simp [lower]; omega)
    · refine dr ?_
      refine cP (fun h3 => ?_) (fun h3 => ?_)
      · refine dr ?_
        exact no (by simp [lower]; omega)
      · refine dr ?_
        refine ⟨k + 1, ⟨by omega, take_all hk' ha (by simp [lower]; omega)⟩, by omega, ?_⟩
        refine dr ?_
        trivial
  · have : k = s.length := by omega
    subst this
    rw [List.take_length] at ha
    refine dr ?_
    refine cP (fun h2 => ?_) (fun h2 => ?_)
    · refine dr ?_
      refine congrArg CB ?_
      rw [nameOk, ha, leI_d, Bool.eq_iff_iff]; simp; omega
    · refine dr ?_
      exact bF (by rw [nameOk, ha]; simp; omega)


def c_spec_PathOk : XC := (.s (.r [.ex 2 (.mv .n)]) (.s (.s (.r [.mv 5 0, .ex 6 (.len true (.t 5)), .ex 7 (.bin .gtr (.t 6) (.i 12))]) (.cnd (.t 7) (.s (.r [.ex 2 (.mv .n)]) .ret) .skip)) (.s (.r [.mv 8 0, .ex 9 (.call 246 [(.t 8)]), .ex 3 (.asn (.t 9) 1 9)]) (.s (.s (.r [.ex 4 (.mv (.i 0))]) (.blk 0 (.loop (.s (.s (.r [.mv 10 4, .mv 11 3, .ex 12 (.len false (.t 11)), .ex 13 (.bin .lss (.t 10) (.t 12))]) (.cnd (.t 13) .skip (.exit 0))) (.s (.blk 1 (.s (.r [.mv 16 3, .mv 17 4, .ex 18 (.ia 1 (.t 16) (.t 17)), .ex 19 (.ld false 1 (.t 18)), .ex 20 (.call 247 [(.t 19)]), .ex 21 (.un .not (.t 20))]) (.cnd (.t 21) (.s (.r [.ex 2 (.mv .n)]) .ret) .skip))) (.r [.mv 14 4, .ex 15 (.bin .add (.t 14) (.i 1)), .mv 4 15])))))) (.s (.r [.mv 22 3, .ex 23 (.len false (.t 22)), .ex 24 (.bin .geq (.t 23) (.i 1)), .mv 25 24, .gt 26 (.mv (.t 3)) 25, .gt 27 (.len false (.t 26)) 25, .gt 28 (.bin .leq (.t 27) (.i 3)) 25, .ex 29 (.pick (.t 25) (.t 28) .n), .mv 2 29]) .ret)))))
theorem c_spec_PathOk_eq : compF Go.Proofs.Tryz.prog [] 175 = some (c_spec_PathOk.ac, [(.t 2)], 30) := by kernel_rfl

theorem f_spec_PathOk (W0 : World) (s : Str) : Fn Go.Proofs.Tryz.prog W0 175 [CS s] (.c (CB (pOk s))) [] := by
  refine fnX (c := c_spec_PathOk) mixed c_spec_PathOk_eq (by simp) rfl fun hg => ?_
  refine dr ?_
  refine cP (fun h1 => ?_) (fun h1 => ?_)
  · refine dr ?_
    exact bF (by simp [pOk]; omega)
  refine dr ?_
  repeat (refine c0 (f_l1Names W0 s (by omega)) rfl ?_; first | refine dr ?_ | exact dz)
  intro hg1
  have g1 := goodRow hg1
  refine dr ?_
  refine lp (σ := Nat) (fun k => [(3, .c (eStrs (names s))), (4, I k)]) (fun _ => []) (fun k => k ≤ (names s).length ∧ ((names s).take k).all nameOk = true) (fun k => (names s).length - k) 0 ⟨by simp, by simp⟩ ?_ ?_
  · refine dr ?_
    trivial
  rintro k ⟨hk, ha⟩
  refine dr ?_
  refine cP (fun h2 => ?_) (fun h2 => ?_)
  · refine dr ?_
    repeat (refine c0 (f_l1Name W0 _) rfl ?_; first | refine dr ?_ | exact dz)
    refine cP (fun h3 => ?_) (fun h3 => ?_)
    · refine dr ?_
      exact bF (by rw [pOk, all_no (by omega) h3]; simp)
    · refine dr ?_
      refine ⟨k + 1, ⟨by omega, take_all (by omega) ha h3⟩, by omega, ?_⟩
      refine dr ?_
      trivial
  · have : k = (names s).length := by omega
    subst this
    rw [List.take_length] at ha
    refine dr ?_
    refine cP (fun h3 => ?_) (fun h3 => ?_)
    · refine dr ?_
      refine congrArg CB ?_
      rw [pOk, ha, leI_d, Bool.eq_iff_iff]; simp; omega
    · refine dr ?_
      exact bF (by rw [pOk, ha]; simp; omega)


def c_spec_l1Slash : XC := (.s (.r [.ex 2 (.mv (.i 0))]) (.s (.r [.mv 4 0, .ex 5 (.len true (.t 4)), .ex 6 (.bin .sub (.t 5) (.i 1)), .mv 3 6]) (.s (.blk 0 (.loop (.s (.s (.r [.mv 7 3, .ex 8 (.bin .gtr (.t 7) (.i 0)), .mv 9 8, .gt 10 (.mv (.t 0)) 9, .gt 11 (.mv (.t 3)) 9, .gt 12 (.idx (.t 10) (.t 11)) 9, .gt 13 (.bin .neq (.t 12) (.u 47)) 9, .ex 14 (.pick (.t 9) (.t 13) .n)]) (.cnd (.t 14) .skip (.exit 0))) (.blk 1 (.r [.mv 15 3, .ex 16 (.bin .sub (.t 15) (.i 1)), .mv 3 16]))))) (.s (.r [.mv 17 3, .mv 2 17]) .ret))))
theorem c_spec_l1Slash_eq : compF Go.Proofs.Tryz.prog [] 243 = some (c_spec_l1Slash.ac, [(.t 2)], 18) := by kernel_rfl

theorem f_l1Slash (W0 : World) (a l : Str) (hl : (47 : UInt8) ∉ l) (h12 : (a ++ 47 :: l).length ≤ 12) : Fn Go.Proofs.Tryz.prog W0 243 [CS (a ++ 47 :: l)] (.c (CI a.length)) [] := by
  have hlen : (a ++ 47 :: l).length = a.length + l.length + 1 := by simp; omega
  have h47 : ∀ (h : a.length < (a ++ 47 :: l).length), (a ++ 47 :: l)[a.length] = 47 := fun h => by simp
  have hno : ∀ k (h : k < (a ++ 47 :: l).length), a.length < k → (a ++ 47 :: l)[k] ≠ 47 := fun k h hk e => by
    have hm : (a ++ 47 :: l)[k]? = some 47 := by rw [List.getElem?_eq_getElem h, e]
    rw [List.getElem?_append_right (by omega), show k - a.length = (k - a.length - 1) + 1 by omega, List.getElem?_cons_succ] at hm
    exact hl (List.mem_of_getElem? hm)
  generalize a ++ 47 :: l = s at *
  refine fnX (c := c_spec_l1Slash) mixed c_spec_l1Slash_eq (by simp) rfl fun hg => ?_
  refine dr ?_
  refine lp (σ := Nat) (fun k => [(0, .c (CS s)), (3, I k)]) (fun _ => []) (fun k => a.length ≤ k ∧ k < s.length) (fun k => k) (s.length - 1) ⟨by omega, by omega⟩ ?_ ?_
  · refine dr ?_
    trivial
  rintro k ⟨h1, h2⟩
  refine dr ?_
  refine cP (fun h3 => ?_) (fun h3 => ?_)
  · refine dr ?_
    refine cP (fun h4 => ?_) (fun h4 => ?_)
    · have hk : a.length < k := by
        rcases Nat.lt_or_ge a.length k with h | h
        · exact h
        · have e : k = a.length := by omega
          subst e
          rw [h47 h2] at h4
          simp at h4
      refine dr ?_
      refine ⟨k - 1, ⟨by omega, by omega⟩, by omega, ?_⟩
      refine dr ?_
      trivial
    · have hk : k = a.length := by
        have h4' : s[k] = 47 := by
          have : s[k].toNat = 47 := by omega
          exact UInt8.toNat_inj.1 (by simpa using this)
        rcases Nat.lt_or_ge a.length k with h | h
        · exact absurd h4' (hno k h2 h)
        · omega
      refine dr ?_
      rw [hk]
  · refine dr ?_
    have : k = a.length := by omega
    rw [this]


def c_spec_PathUp : XC := (.s (.r [.ex 2 (.mv (.s []))]) (.s (.s (.r [.mv 4 0, .ex 5 (.call 175 [(.t 4)]), .ex 6 (.un .not (.t 5))]) (.cnd (.t 6) (.s (.r [.ex 2 (.mv (.s []))]) .ret) .skip)) (.s (.r [.mv 7 0, .ex 8 (.call 243 [(.t 7)]), .mv 3 8]) (.s (.s (.r [.mv 9 3, .ex 10 (.bin .eql (.t 9) (.i 0))]) (.cnd (.t 10) (.s (.r [.ex 2 (.mv (.s [47]))]) .ret) .skip)) (.s (.r [.mv 11 0, .mv 12 3, .ex 13 (.sls (.t 11) .none (.some (.t 12))), .mv 2 13]) .ret)))))
theorem c_spec_PathUp_eq : compF Go.Proofs.Tryz.prog [] 167 = some (c_spec_PathUp.ac, [(.t 2)], 14) := by kernel_rfl

theorem f_spec_PathUp (W0 : World) (s : Str) : Fn Go.Proofs.Tryz.prog W0 167 [CS s] (.c (CS (pUp s))) [] := by
  refine fnX (c := c_spec_PathUp) mixed c_spec_PathUp_eq (by simp) rfl fun hg => ?_
  refine dr ?_
  repeat (refine c0 (f_spec_PathOk W0 s) rfl ?_; first | refine dr ?_ | exact dz)
  refine cP (fun h1 => ?_) (fun h1 => ?_)
  · refine dr ?_
    rw [show pUp s = [] by rw [pUp, h1]; rfl]
  obtain ⟨a, l, e, hl, _, _, _, _, _, hu⟩ := pOk_two h1
  have h12 := (pOk_len h1).2.1
  rw [hu]
  clear hu
  subst e
  refine dr ?_
  repeat (refine c0 (f_l1Slash W0 a l hl h12) rfl ?_; first | refine dr ?_ | exact dz)
  intro hg1
  refine dr ?_
  refine cP (fun h2 => ?_) (fun h2 => ?_)
  · refine dr ?_
    have : a = [] := List.length_eq_zero_iff.1 (by omega)
    rw [if_pos this]
  · refine dr ?_
    repeat (refine sHi a.length rfl (by simp) ?_; first | refine dr ?_ | exact dz)
    rw [if_neg (fun e => h2 (by simp [e])), List.take_left]


def c_spec_PathName : XC := (.s (.r [.ex 2 (.mv (.s []))]) (.s (.s (.r [.mv 3 0, .ex 4 (.call 175 [(.t 3)]), .ex 5 (.un .not (.t 4))]) (.cnd (.t 5) (.s (.r [.ex 2 (.mv (.s []))]) .ret) .skip)) (.s (.r [.mv 6 0, .mv 7 0, .ex 8 (.call 243 [(.t 7)]), .ex 9 (.bin .add (.t 8) (.i 1)), .ex 10 (.sls (.t 6) (.some (.t 9)) .none), .mv 2 10]) .ret)))
theorem c_spec_PathName_eq : compF Go.Proofs.Tryz.prog [] 309 = some (c_spec_PathName.ac, [(.t 2)], 11) := by kernel_rfl

theorem f_spec_PathName (W0 : World) (s : Str) : Fn Go.Proofs.Tryz.prog W0 309 [CS s] (.c (CS (pName s))) [] := by
  refine fnX (c := c_spec_PathName) mixed c_spec_PathName_eq (by simp) rfl fun hg => ?_
  refine dr ?_
  repeat (refine c0 (f_spec_PathOk W0 s) rfl ?_; first | refine dr ?_ | exact dz)
  refine cP (fun h1 => ?_) (fun h1 => ?_)
  · refine dr ?_
    rw [show pName s = [] by rw [pName, h1]; rfl]
  obtain ⟨a, l, e, hl, _, _, _, _, hn, _⟩ := pOk_two h1
  have h12 := (pOk_len h1).2.1
  rw [hn]
  clear hn
  subst e
  have hlen : (a ++ 47 :: l).length = a.length + l.length + 1 := by rw [List.length_append, List.length_cons]; omega
  refine dr ?_
  repeat ((first | refine c0 (f_l1Slash W0 a l hl h12) rfl ?_ | refine sLo (a.length + 1) rfl (by omega) ?_); first | refine dr ?_ | exact dz)
  intro hg1
  refine dr ?_
  have e2 : a ++ 47 :: l = (a ++ [47]) ++ l := by simp
  rw [e2, List.drop_left' (by simp)]


def c_spec_l1Under : XC := (.s (.r [.ex 4 (.mv .n)]) (.s (.s (.r [.mv 5 1, .ex 6 (.bin .eql (.t 5) (.s [47]))]) (.cnd (.t 6) (.s (.r [.ex 4 (.mv .y)]) .ret) .skip)) (.s (.r [.mv 7 0, .ex 8 (.len true (.t 7)), .mv 9 1, .ex 10 (.len true (.t 9)), .ex 11 (.bin .gtr (.t 8) (.t 10)), .mv 12 11, .gt 13 (.mv (.t 0)) 12, .gt 14 (.mv (.t 1)) 12, .gt 15 (.len true (.t 14)) 12, .gt 16 (.sls (.t 13) .none (.some (.t 15))) 12, .gt 17 (.mv (.t 1)) 12, .gt 18 (.bin .eql (.t 16) (.t 17)) 12, .ex 19 (.pick (.t 12) (.t 18) .n), .mv 20 19, .gt 21 (.mv (.t 0)) 20, .gt 22 (.mv (.t 1)) 20, .gt 23 (.len true (.t 22)) 20, .gt 24 (.idx (.t 21) (.t 23)) 20, .gt 25 (.bin .eql (.t 24) (.u 47)) 20, .ex 26 (.pick (.t 20) (.t 25) .n), .mv 4 26]) .ret)))
theorem c_spec_l1Under_eq : compF Go.Proofs.Tryz.prog [] 270 = some (c_spec_l1Under.ac, [(.t 4)], 27) := by kernel_rfl

theorem f_l1Under (W0 : World) (s d : Str) : Fn Go.Proofs.Tryz.prog W0 270 [CS s, CS d] (.c (CB (und s d))) [] := by
  refine fnX (c := c_spec_l1Under) mixed c_spec_l1Under_eq (by simp) rfl fun hg => ?_
  refine dr ?_
  refine cP (fun h1 => ?_) (fun h1 => ?_)
  · refine dr ?_
    exact bT (by simp [und, h1])
  have hnd : und s d = (d ++ [47]).isPrefixOf s := by simp [und, h1]
  rw [hnd]
  refine dr ?_
  refine cP (fun h2 => ?_) (fun h2 => ?_)
  rotate_left
  · refine dr ?_
    refine bF ?_
    rw [Bool.eq_false_iff]
    intro h
    have := (List.isPrefixOf_iff_prefix.1 h).length_le
    simp at this; omega
  refine dr ?_
  repeat (refine sHi d.length rfl (by omega) ?_; first | refine dr ?_ | exact dz)
  refine cP (fun h3 => ?_) (fun h3 => ?_)
  rotate_left
  · refine dr ?_
    refine bF ?_
    rw [Bool.eq_false_iff]
    intro h
    obtain ⟨r, hr⟩ := List.isPrefixOf_iff_prefix.1 h
    apply h3
    rw [← hr, List.append_assoc, List.take_left]
  refine dr ?_
  have hs : s = d ++ s[d.length] :: s.drop (d.length + 1) := by
    rw [← List.drop_eq_getElem_cons (by omega)]
    conv => lhs; rw [← List.take_append_drop d.length s, h3]
  refine congrArg CB ?_
  rw [eqI_d, Bool.eq_iff_iff, List.isPrefixOf_iff_prefix]
  simp only [beq_iff_eq]
  constructor
  · intro h
    have e : s[d.length] = 47 := by
      have : s[d.length].toNat = 47 := by omega
      exact UInt8.toNat_inj.1 (by simpa using this)
    rw [e] at hs
    exact ⟨s.drop (d.length + 1), by rw [hs]; simp⟩
  · rintro ⟨r, hr⟩
    have : s[d.length]? = some 47 := by rw [← hr]; simp
    have e : s[d.length] = 47 := by
      rw [List.getElem?_eq_getElem (by omega)] at this; exact Option.some.inj this
    rw [e]; rfl


def c_spec_PathMove : XC := (.s (.r [.ex 6 (.mv (.s [])), .ex 7 (.mv .n)]) (.s (.s (.r [.mv 9 0, .ex 10 (.call 175 [(.t 9)]), .ex 11 (.un .not (.t 10)), .mv 12 11, .gf 13 (.mv (.t 1)) 12, .gf 14 (.call 175 [(.t 13)]) 12, .gf 15 (.un .not (.t 14)) 12, .ex 16 (.pick (.t 12) .y (.t 15)), .mv 17 16, .gf 18 (.mv (.t 2)) 17, .gf 19 (.call 175 [(.t 18)]) 17, .gf 20 (.un .not (.t 19)) 17, .ex 21 (.pick (.t 17) .y (.t 20))]) (.cnd (.t 21) (.s (.r [.ex 6 (.mv (.s [])), .ex 7 (.mv .n)]) .ret) .skip)) (.s (.s (.r [.mv 22 0, .mv 23 1, .ex 24 (.bin .neq (.t 22) (.t 23)), .mv 25 24, .gt 26 (.mv (.t 0)) 25, .gt 27 (.mv (.t 1)) 25, .gt 28 (.call 270 [(.t 26), (.t 27)]) 25, .gt 29 (.un .not (.t 28)) 25, .ex 30 (.pick (.t 25) (.t 29) .n)]) (.cnd (.t 30) (.s (.r [.mv 31 0, .mv 6 31, .ex 7 (.mv .y)]) .ret) .skip)) (.s (.r [.mv 32 2, .mv 33 0, .mv 34 1, .ex 35 (.len true (.t 34)), .ex 36 (.sls (.t 33) (.some (.t 35)) .none), .ex 37 (.bin .add (.t 32) (.t 36)), .mv 8 37]) (.s (.s (.r [.mv 38 8, .ex 39 (.call 175 [(.t 38)]), .ex 40 (.un .not (.t 39))]) (.cnd (.t 40) (.s (.r [.ex 6 (.mv (.s [])), .ex 7 (.mv .n)]) .ret) .skip)) (.s (.r [.mv 41 8, .mv 6 41, .ex 7 (.mv .y)]) .ret))))))
theorem c_spec_PathMove_eq : compF Go.Proofs.Tryz.prog [] 277 = some (c_spec_PathMove.ac, [(.t 6), (.t 7)], 42) := by kernel_rfl

theorem f_spec_PathMove (W0 : World) (s f t : Str) : Fn Go.Proofs.Tryz.prog W0 277 [CS s, CS f, CS t] (.c (eOpt (pMove s f t))) [] := by
  refine fnX (c := c_spec_PathMove) mixed c_spec_PathMove_eq (by simp) rfl fun hg => ?_
  refine dr ?_
  repeat (refine c0 (f_spec_PathOk W0 s) rfl ?_; first | refine dr ?_ | exact dz)
  refine cP (fun h1 => ?_) (fun h1 => ?_)
  · refine dr ?_
    simp [pMove, h1, eOpt]
  refine dr ?_
  repeat (refine c0 (f_spec_PathOk W0 f) rfl ?_; first | refine dr ?_ | exact dz)
  refine cP (fun h2 => ?_) (fun h2 => ?_)
  · refine dr ?_
    simp [pMove, h2, eOpt]
  refine dr ?_
  repeat (refine c0 (f_spec_PathOk W0 t) rfl ?_; first | refine dr ?_ | exact dz)
  refine cP (fun h3 => ?_) (fun h3 => ?_)
  · refine dr ?_
    simp [pMove, h3, eOpt]
  have l1 := (pOk_len h1).2.1
  have l3 := (pOk_len h3).2.1
  have hm : pMove s f t = if (s != f && !und s f) = true then some s else if pOk (t ++ s.drop f.length) = true then some (t ++ s.drop f.length) else none := by rw [pMove, if_pos (by simp [h1, h2, h3])]
  have fin : f.length ≤ s.length → ((s != f && !und s f) = false) → True := fun _ _ => trivial
  refine dr ?_
  refine cP (fun h4 => ?_) (fun h4 => ?_)
  · refine dr ?_
    repeat (refine c0 (f_l1Under W0 s f) rfl ?_; first | refine dr ?_ | exact dz)
    refine cP (fun h5 => ?_) (fun h5 => ?_)
    · refine dr ?_
      rw [hm, if_pos (by simp [h4, h5])]; rfl
    · have hle : f.length ≤ s.length := by
        simp only [und, Bool.or_eq_true, beq_iff_eq] at h5
        rcases h5 with h5 | h5
        · have := pOk_len h2; rw [h5] at this; simp at this
        · have := (List.isPrefixOf_iff_prefix.1 h5).length_le
          simp at this; omega
      rw [hm, if_neg (by simp [h5])]
      refine dr ?_
      repeat ((first | refine sLo f.length rfl hle ?_ | refine oB (by simp; omega) ?_ | refine c0 (f_spec_PathOk W0 _) rfl ?_); first | refine dr ?_ | exact dz)
      refine cP (fun h6 => ?_) (fun h6 => ?_)
      · refine dr ?_
        rw [if_neg (by rw [h6]; simp)]; rfl
      · refine dr ?_
        rw [if_pos h6]; rfl
  · subst h4
    rw [hm, if_neg (by simp)]
    refine dr ?_
    repeat ((first | refine sLo s.length rfl (Nat.le_refl _) ?_ | refine oB (by simp; omega) ?_ | refine c0 (f_spec_PathOk W0 _) rfl ?_); first | refine dr ?_ | exact dz)
    refine cP (fun h6 => ?_) (fun h6 => ?_)
    · refine dr ?_
      rw [if_neg (by rw [h6]; simp)]; rfl
    · refine dr ?_
      rw [if_pos h6]; rfl


end Go.Proofs.YthblflnfhdnpdaaGreatDoor

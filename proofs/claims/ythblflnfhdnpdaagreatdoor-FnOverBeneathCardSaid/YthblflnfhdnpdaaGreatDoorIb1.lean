/- Contracts: the program's paths; no condition but one on a package variable that start-up code lays. -/
import Derived.Test.YthblflnfhdnpdaaGreatDoorQa2
import Derived.Test.YthblflnfhdnpdaaGreatDoorSh1
import Derived.Test.YthblflnfhdnpdaaGreatDoorBm1
namespace Go.Proofs.YthblflnfhdnpdaaGreatDoor
set_option linter.unusedSimpArgs false
set_option linter.unusedVariables false
open Go Go.RowKit


def c_impl_nameOk : XC := (.s (.r [.ex 2 (.mv .n)]) (.s (.s (.r [.mv 4 0, .ex 5 (.len true (.t 4)), .ex 6 (.bin .lss (.t 5) (.i 1)), .mv 7 6, .gf 8 (.mv (.t 0)) 7, .gf 9 (.len true (.t 8)) 7, .gf 10 (.bin .gtr (.t 9) (.i 3)) 7, .ex 11 (.pick (.t 7) .y (.t 10))]) (.cnd (.t 11) (.s (.r [.ex 2 (.mv .n)]) .ret) .skip)) (.s (.s (.r [.ex 3 (.mv (.i 0))]) (.blk 0 (.loop (.s (.s (.r [.mv 12 3, .mv 13 0, .ex 14 (.len true (.t 13)), .ex 15 (.bin .lss (.t 12) (.t 14))]) (.cnd (.t 15) .skip (.exit 0))) (.s (.blk 1 (.s (.r [.mv 18 0, .mv 19 3, .ex 20 (.idx (.t 18) (.t 19)), .ex 21 (.bin .lss (.t 20) (.u 97)), .mv 22 21, .gf 23 (.mv (.t 0)) 22, .gf 24 (.mv (.t 3)) 22, .gf 25 (.idx (.t 23) (.t 24)) 22, .gf 26 (.bin .gtr (.t 25) (.u 122)) 22, .ex 27 (.pick (.t 22) .y (.t 26))]) (.cnd (.t 27) (.s (.r [.ex 2 (.mv .n)]) .ret) .skip))) (.r [.mv 16 3, .ex 17 (.bin .add (.t 16) (.i 1)), .mv 3 17])))))) (.s (.r [.ex 2 (.mv .y)]) .ret))))
theorem c_impl_nameOk_eq : compF Go.Proofs.Tryz.prog [] 253 = some (c_impl_nameOk.ac, [(.t 2)], 28) := by kernel_rfl

theorem f_nameOk (W0 : World) (s : Str) : Fn Go.Proofs.Tryz.prog W0 253 [CS s] (.c (CB (nameOk s))) [] := by
  refine fnX (c := c_impl_nameOk) mixed c_impl_nameOk_eq (by simp) rfl fun hg => ?_
  refine dr ?_
  refine cP (fun h1 => ?_) (fun h1 => ?_)
  · refine dr ?_
    exact bF (by rw [nameOk]; simp; omega)
  refine dr ?_
  refine cP (fun h2 => ?_) (fun h2 => ?_)
  · refine dr ?_
    exact bF (by rw [nameOk]; simp; omega)
  refine dr ?_
  refine lp (σ := Nat) (fun k => [(0, .c (CS s)), (3, I k)]) (fun _ => []) (fun k => k ≤ s.length ∧ (s.take k).all lower = true) (fun k => s.length - k) 0 ⟨by simp, by simp⟩ ?_ ?_
  · refine dr ?_
    trivial
  rintro k ⟨hk, ha⟩
  refine dr ?_
  refine cP (fun h3 => ?_) (fun h3 => ?_)
  · have hk' : k < s.length := by omega
    have no : lower s[k] = false → CB false = CB (nameOk s) := fun h => bF (by rw [nameOk, all_no hk' h]; rfl)
    refine dr ?_
    refine cP (fun h4 => ?_) (fun h4 => ?_)
    · refine dr ?_
      exact no (by simp [lower]; omega)
    · refine dr ?_
      refine cP (fun h5 => ?_) (fun h5 => ?_)
      · refine dr ?_
        exact no (by simp [lower]; omega)
      · refine dr ?_
        refine ⟨k + 1, ⟨by omega, take_all hk' ha (by simp [lower]; omega)⟩, by omega, ?_⟩
        refine dr ?_
        trivial
  · have : k = s.length := by omega
    subst this
    rw [List.take_length] at ha
    refine dr ?_
    exact bT (by rw [nameOk, ha]; simp; omega)


def eNames (s : Str) : CV := if pOk s = true then .tup [eStrs (names s), CB true] else .tup [eStrs [], CB false]


def c_impl_pathNames : XC := (.s (.r [.ex 2 (.asn (.k .nil) 1 9), .ex 3 (.mv .n)]) (.s (.s (.r [.mv 7 0, .ex 8 (.bin .eql (.t 7) (.s [])), .mv 9 8, .gf 10 (.mv (.t 0)) 9, .gf 11 (.idx (.t 10) (.i 0)) 9, .gf 12 (.bin .neq (.t 11) (.u 47)) 9, .ex 13 (.pick (.t 9) .y (.t 12)), .mv 14 13, .gf 15 (.mv (.t 0)) 14, .gf 16 (.len true (.t 15)) 14, .gf 17 (.bin .gtr (.t 16) (.i 12)) 14, .ex 18 (.pick (.t 14) .y (.t 17))]) (.cnd (.t 18) (.s (.r [.ex 2 (.asn (.k .nil) 1 9), .ex 3 (.mv .n)]) .ret) .skip)) (.s (.r [.mv 19 0, .ex 20 (.sls (.t 19) (.some (.i 1)) .none), .ex 21 (.call 252 [(.t 20), (.s [47])]), .ex 4 (.asn (.t 21) 1 9)]) (.s (.s (.r [.mv 22 4, .ex 23 (.len false (.t 22)), .ex 24 (.bin .gtr (.t 23) (.i 3))]) (.cnd (.t 24) (.s (.r [.ex 2 (.asn (.k .nil) 1 9), .ex 3 (.mv .n)]) .ret) .skip)) (.s (.s (.r [.mv 25 4, .ex 26 (.len false (.t 25)), .ex 27 (.mv (.i 0))]) (.blk 0 (.loop (.s (.r [.ex 28 (.bin .lss (.t 27) (.t 26))]) (.s (.cnd (.t 28) .skip (.exit 0)) (.s (.blk 1 (.s (.r [.ex 29 (.ia 1 (.t 25) (.t 27)), .ex 30 (.ld false 1 (.t 29)), .mv 6 30]) (.s (.r [.mv 31 6, .ex 32 (.call 253 [(.t 31)]), .ex 33 (.un .not (.t 32))]) (.cnd (.t 33) (.s (.r [.ex 2 (.asn (.k .nil) 1 9), .ex 3 (.mv .n)]) .ret) .skip)))) (.r [.ex 34 (.bin .add (.t 27) (.i 1)), .mv 27 34]))))))) (.s (.r [.mv 35 4, .ex 2 (.asn (.t 35) 1 9), .ex 3 (.mv .y)]) .ret))))))
theorem c_impl_pathNames_eq : compF Go.Proofs.Tryz.prog [] 184 = some (c_impl_pathNames.ac, [(.t 2), (.t 3)], 36) := by kernel_rfl

theorem f_pathNames (W0 : World) (hM : HM W0) (s : Str) : Fn Go.Proofs.Tryz.prog W0 184 [CS s] (.c (eNames s)) [] := by
  refine fnX (c := c_impl_pathNames) mixed c_impl_pathNames_eq (by simp) rfl fun hg => ?_
  have no : pOk s = false → CV.tup [eStrs [], CB false] = eNames s := fun h => by rw [eNames, if_neg (by simp [h])]
  refine dr ?_
  refine cP (fun h1 => ?_) (fun h1 => ?_)
  · refine dr ?_
    exact no (by rw [h1]; rfl)
  cases hs : s with
  | nil => exact absurd hs h1
  | cons b t =>
    rw [← hs]
    have hl : 1 ≤ s.length := by rw [hs]; simp
    refine dr ?_
    refine cP (fun h2 => ?_) (fun h2 => ?_)
    · refine dr ?_
      have : s.head? ≠ some 47 := by
        rw [hs]
        intro e
        have : b = 47 := by simpa using e
        subst hs; subst this
        exact h2 rfl
      exact no (by
        cases hp : pOk s with
        | false => rfl
        | true => exact absurd (pOk_len hp).2.2 this)
    have hb : b = 47 := by
      have : (s[0]).toNat = 47 := by omega
      subst hs
      exact UInt8.toNat_inj.1 this
    refine dr ?_
    refine cP (fun h3 => ?_) (fun h3 => ?_)
    · refine dr ?_
      exact no (by
        cases hp : pOk s with
        | false => rfl
        | true => have := (pOk_len hp).2.1; omega)
    refine dr ?_
    repeat ((first | refine sLo 1 rfl (by omega) ?_ | refine c0 (f_Split W0 hM _ (by simp; omega)) rfl ?_); first | refine dr ?_ | exact dz)
    intro hg1
    have hd : s.drop 1 = t := by rw [hs]; rfl
    rw [hd] at hg1 ⊢
    have hp : pOk s = ((cut 47 t).all nameOk && ((cut 47 t).length ≤ 3)) := by
      have hne := cut_ne 47 t
      have h1c : 1 ≤ (cut 47 t).length := by
        cases hc : cut 47 t with
        | nil => exact absurd hc hne
        | cons _ _ => simp
      rw [pOk]
      by_cases h2 : s.length < 2
      · have ht : t = [] := by
          rw [hs] at h2
          cases t with
          | nil => rfl
          | cons _ _ => simp at h2; omega
        have : names s = [] := by rw [names, if_pos (.inl h2)]
        rw [this, ht]; simp [cut, nameOk]
      · have : names s = cut 47 t := by
          rw [names, if_neg (by rw [hs] at h2 ⊢; simp at h2 ⊢; exact ⟨h2, hb⟩), hs]; rfl
        rw [this, Bool.eq_iff_iff]; simp [h1c, show s.length ≤ 12 by omega]
    have hn : pOk s = true → names s = cut 47 t := fun h => by
      have h2 := (pOk_len h)
      rw [names, if_neg (by simp [h2.2.2]; omega), hs]; rfl
    generalize cut 47 t = l at *
    refine dr ?_
    refine cP (fun h4 => ?_) (fun h4 => ?_)
    · refine dr ?_
      exact no (by rw [hp]; simp; omega)
    refine dr ?_
    refine lp (σ := Nat) (fun k => [(4, .c (eStrs l)), (25, .c (eStrs l)), (26, I l.length), (27, I k)]) (fun _ => []) (fun k => k ≤ l.length ∧ (l.take k).all nameOk = true) (fun k => l.length - k) 0 ⟨by simp, by simp⟩ ?_ ?_
    · refine dr ?_
      trivial
    rintro k ⟨hk, ha⟩
    refine dr ?_
    refine cP (fun h5 => ?_) (fun h5 => ?_)
    · have hk' : k < l.length := by omega
      refine dEr ?_
      repeat (refine c0 (f_nameOk W0 _) rfl ?_; first | refine dEr ?_ | exact dz)
      refine cP (fun h6 => ?_) (fun h6 => ?_)
      · refine dr ?_
        exact no (by rw [hp, all_no hk' h6]; rfl)
      · refine dr ?_
        refine ⟨k + 1, ⟨by omega, take_all hk' ha h6⟩, by omega, ?_⟩
        refine dr ?_
        trivial
    · have : k = l.length := by omega
      subst this
      rw [List.take_length] at ha
      have hy : pOk s = true := by rw [hp, ha]; simp; omega
      refine dr ?_
      rw [eNames, if_pos hy, hn hy]


def c_impl_PathOk : XC := (.s (.r [.ex 2 (.mv .n)]) (.s (.r [.mv 6 0, .ex 7 (.call 184 [(.t 6)]), .mv 5 7, .ex 8 (.ext (.t 5) 0), .ex 9 (.ext (.t 5) 1), .ex 3 (.asn (.t 8) 1 9), .mv 4 9]) (.s (.r [.mv 10 4, .mv 2 10]) .ret)))
theorem c_impl_PathOk_eq : compF Go.Proofs.Tryz.prog [] 112 = some (c_impl_PathOk.ac, [(.t 2)], 11) := by kernel_rfl

theorem f_impl_PathOk (W0 : World) (hM : HM W0) (s : Str) : Fn Go.Proofs.Tryz.prog W0 112 [CS s] (.c (CB (pOk s))) [] := by
  refine fnX (c := c_impl_PathOk) mixed c_impl_PathOk_eq (by simp) rfl fun hg => ?_
  have hc := f_pathNames W0 hM s
  unfold eNames at hc
  cases hp : pOk s with
  | true =>
    rw [if_pos hp] at hc
    refine dr ?_
    repeat (refine c0 hc rfl ?_; first | refine dr ?_ | exact dz)
    intro hg1
    exact dz
  | false =>
    rw [if_neg (by simp [hp])] at hc
    refine dr ?_
    repeat (refine c0 hc rfl ?_; first | refine dr ?_ | exact dz)
    intro hg1
    exact dz


def c_impl_PathUp : XC := (.s (.r [.ex 2 (.mv (.s []))]) (.s (.r [.mv 6 0, .ex 7 (.call 184 [(.t 6)]), .mv 5 7, .ex 8 (.ext (.t 5) 0), .ex 9 (.ext (.t 5) 1), .ex 3 (.asn (.t 8) 1 9), .mv 4 9]) (.s (.s (.r [.mv 10 4, .ex 11 (.un .not (.t 10))]) (.cnd (.t 11) (.s (.r [.ex 2 (.mv (.s []))]) .ret) .skip)) (.s (.r [.mv 12 3, .mv 13 3, .ex 14 (.len false (.t 13)), .ex 15 (.bin .sub (.t 14) (.i 1)), .ex 16 (.slr 1 (.t 12) .none (.some (.t 15))), .ex 17 (.call 234 [(.t 16), (.s [47])]), .ex 18 (.bin .add (.s [47]) (.t 17)), .mv 2 18]) .ret))))
theorem c_impl_PathUp_eq : compF Go.Proofs.Tryz.prog [] 158 = some (c_impl_PathUp.ac, [(.t 2)], 19) := by kernel_rfl

theorem f_impl_PathUp (W0 : World) (hM : HM W0) (s : Str) : Fn Go.Proofs.Tryz.prog W0 158 [CS s] (.c (CS (pUp s))) [] := by
  refine fnX (c := c_impl_PathUp) mixed c_impl_PathUp_eq (by simp) rfl fun hg => ?_
  have hc := f_pathNames W0 hM s
  unfold eNames at hc
  cases hp : pOk s with
  | true =>
    rw [if_pos hp] at hc
    obtain ⟨⟨h1, h2⟩, h3, h4⟩ := pOk_names hp
    have h12 := (pOk_len hp).2.1
    have hj : (jn ((names s).take ((names s).length - 1))).length ≤ 12 := by
      have : jn (names s) = jn ((names s).take ((names s).length - 1)) ++ jn ((names s).drop ((names s).length - 1)) := by rw [← jn_append, List.take_append_drop]
      have e := congrArg List.length this
      rw [← h4, List.length_append] at e
      omega
    have hjl := joinS_len (l := (names s).take ((names s).length - 1))
    refine dr ?_
    repeat (refine c0 hc rfl ?_; first | refine dr ?_ | exact dz)
    intro hg1
    refine dr ?_
    repeat ((first | refine sHiM ((names s).length - 1) (by omega) (by omega) ?_ | refine c0 (f_Join W0 ((names s).take ((names s).length - 1)) (by omega)) rfl ?_ | refine oB (by simp; omega) ?_); first | refine dr ?_ | exact dz)
    intro hg2
    refine dr ?_
    rw [pUp, if_pos hp]
    have hdl : (names s).take ((names s).length - 1) = (names s).dropLast := by rw [List.dropLast_eq_take]
    rw [hdl]
    by_cases hn : (names s).length = 1
    · have : (names s).dropLast = [] := by
        rw [← List.length_eq_zero_iff, List.length_dropLast]; omega
      rw [if_pos hn, this]; rfl
    · have : (names s).dropLast ≠ [] := by
        intro e; have := congrArg List.length e; rw [List.length_dropLast] at this; simp at this; omega
      rw [if_neg hn, joinS_jn this]; rfl
  | false =>
    rw [if_neg (by simp [hp])] at hc
    refine dr ?_
    repeat (refine c0 hc rfl ?_; first | refine dr ?_ | exact dz)
    intro hg1
    refine dr ?_
    rw [pUp, if_neg (by simp [hp])]


def c_internal_stringslite_HasPrefix : XC := (.s (.r [.ex 4 (.mv .n)]) (.s (.r [.mv 5 0, .ex 6 (.len true (.t 5)), .mv 7 1, .ex 8 (.len true (.t 7)), .ex 9 (.bin .geq (.t 6) (.t 8)), .mv 10 9, .gt 11 (.mv (.t 0)) 10, .gt 12 (.mv (.t 1)) 10, .gt 13 (.len true (.t 12)) 10, .gt 14 (.sls (.t 11) .none (.some (.t 13))) 10, .gt 15 (.mv (.t 1)) 10, .gt 16 (.bin .eql (.t 14) (.t 15)) 10, .ex 17 (.pick (.t 10) (.t 16) .n), .mv 4 17]) .ret))
theorem c_internal_stringslite_HasPrefix_eq : compF Go.Proofs.Tryz.prog [] 288 = some (c_internal_stringslite_HasPrefix.ac, [(.t 4)], 18) := by kernel_rfl

theorem f_slHasPrefix (W0 : World) (s p : Str) : Fn Go.Proofs.Tryz.prog W0 288 [CS s, CS p] (.c (CB (p.isPrefixOf s))) [] := by
  refine fnX (c := c_internal_stringslite_HasPrefix) mixed c_internal_stringslite_HasPrefix_eq (by simp) rfl fun hg => ?_
  refine dr ?_
  refine cP (fun h1 => ?_) (fun h1 => ?_)
  · refine dr ?_
    repeat (refine sHi p.length rfl (by omega) ?_; first | refine dr ?_ | exact dz)
    refine congrArg CB ?_
    rw [Bool.eq_iff_iff, List.isPrefixOf_iff_prefix, List.prefix_iff_eq_take]
    simp [eqS_d]
    exact eq_comm
  · refine dr ?_
    refine bF ?_
    rw [Bool.eq_false_iff]; intro h
    have := (List.isPrefixOf_iff_prefix.1 h).length_le
    omega


def c_strings_HasPrefix : XC := (.s (.r [.ex 4 (.mv .n)]) (.s (.r [.mv 5 0, .mv 6 1, .ex 7 (.call 288 [(.t 5), (.t 6)]), .mv 4 7]) .ret))
theorem c_strings_HasPrefix_eq : compF Go.Proofs.Tryz.prog [] 266 = some (c_strings_HasPrefix.ac, [(.t 4)], 8) := by kernel_rfl

theorem f_HasPrefix (W0 : World) (s p : Str) : Fn Go.Proofs.Tryz.prog W0 266 [CS s, CS p] (.c (CB (p.isPrefixOf s))) [] := by
  refine fnX (c := c_strings_HasPrefix) mixed c_strings_HasPrefix_eq (by simp) rfl fun hg => ?_
  refine dEr ?_
  repeat (refine c0 (f_slHasPrefix W0 _ _) rfl ?_; first | refine dEr ?_ | exact dz)


def c_impl_PathUnder : XC := (.s (.r [.ex 4 (.mv .n)]) (.s (.s (.r [.mv 5 0, .ex 6 (.call 112 [(.t 5)]), .ex 7 (.un .not (.t 6))]) (.cnd (.t 7) (.s (.r [.ex 4 (.mv .n)]) .ret) .skip)) (.s (.s (.r [.mv 8 1, .ex 9 (.bin .eql (.t 8) (.s [47]))]) (.cnd (.t 9) (.s (.r [.ex 4 (.mv .y)]) .ret) .skip)) (.s (.r [.mv 10 1, .ex 11 (.call 112 [(.t 10)]), .mv 12 11, .gt 13 (.mv (.t 0)) 12, .gt 14 (.mv (.t 1)) 12, .gt 15 (.bin .add (.t 14) (.s [47])) 12, .gt 16 (.call 266 [(.t 13), (.t 15)]) 12, .ex 17 (.pick (.t 12) (.t 16) .n), .mv 4 17]) .ret))))
theorem c_impl_PathUnder_eq : compF Go.Proofs.Tryz.prog [] 216 = some (c_impl_PathUnder.ac, [(.t 4)], 18) := by kernel_rfl

def und2 (s d : Str) : Bool := pOk s && (d == [47] || (pOk d && (d ++ [47]).isPrefixOf s))
theorem und2_eq {s d : Str} (hs : pOk s = true) (hd : pOk d = true) : und2 s d = und s d := by
  unfold und2 und; rw [hs, hd]; simp
theorem f_impl_PathUnder (W0 : World) (hM : HM W0) (s d : Str) : Fn Go.Proofs.Tryz.prog W0 216 [CS s, CS d] (.c (CB (und2 s d))) [] := by
  refine fnX (c := c_impl_PathUnder) mixed c_impl_PathUnder_eq (by simp) rfl fun hg => ?_
  refine dEr ?_
  repeat (refine c0 (f_impl_PathOk W0 hM s) rfl ?_; first | refine dEr ?_ | exact dz)
  refine cP (fun h1 => ?_) (fun h1 => ?_)
  · refine dr ?_
    exact bF (by simp [und2, h1])
  refine dr ?_
  refine cP (fun h2 => ?_) (fun h2 => ?_)
  · refine dr ?_
    exact bT (by simp [und2, h1, h2])
  refine dEr ?_
  repeat (refine c0 (f_impl_PathOk W0 hM d) rfl ?_; first | refine dEr ?_ | exact dz)
  refine cP (fun h3 => ?_) (fun h3 => ?_)
  · have hl := (pOk_len h3).2.1
    refine dEr ?_
    repeat ((first | refine c0 (f_HasPrefix W0 _ _) rfl ?_ | refine oB (by simp; omega) ?_); first | refine dEr ?_ | exact dz)
    refine congrArg CB ?_
    rw [Bool.eq_iff_iff]; simp [und2, h1, h2, h3]
  · refine dr ?_
    exact bF (by simp [und2, h2, h3])


def c_impl_dataOk : XC := (.s (.r [.ex 2 (.mv .n)]) (.s (.s (.r [.mv 6 0, .ex 7 (.len true (.t 6)), .ex 8 (.bin .gtr (.t 7) (.i 6))]) (.cnd (.t 8) (.s (.r [.ex 2 (.mv .n)]) .ret) .skip)) (.s (.s (.r [.ex 3 (.mv (.i 0))]) (.blk 0 (.loop (.s (.s (.r [.mv 9 3, .mv 10 0, .ex 11 (.len true (.t 10)), .ex 12 (.bin .lss (.t 9) (.t 11))]) (.cnd (.t 12) .skip (.exit 0))) (.s (.blk 1 (.s (.r [.mv 15 0, .mv 16 3, .ex 17 (.idx (.t 15) (.t 16)), .ex 18 (.bin .geq (.t 17) (.u 97)), .mv 19 18, .gt 20 (.mv (.t 0)) 19, .gt 21 (.mv (.t 3)) 19, .gt 22 (.idx (.t 20) (.t 21)) 19, .gt 23 (.bin .leq (.t 22) (.u 122)) 19, .ex 24 (.pick (.t 19) (.t 23) .n), .mv 4 24]) (.s (.r [.mv 25 0, .mv 26 3, .ex 27 (.idx (.t 25) (.t 26)), .ex 28 (.bin .geq (.t 27) (.u 48)), .mv 29 28, .gt 30 (.mv (.t 0)) 29, .gt 31 (.mv (.t 3)) 29, .gt 32 (.idx (.t 30) (.t 31)) 29, .gt 33 (.bin .leq (.t 32) (.u 57)) 29, .ex 34 (.pick (.t 29) (.t 33) .n), .mv 5 34]) (.s (.r [.mv 35 4, .ex 36 (.un .not (.t 35)), .mv 37 36, .gt 38 (.mv (.t 5)) 37, .gt 39 (.un .not (.t 38)) 37, .ex 40 (.pick (.t 37) (.t 39) .n)]) (.cnd (.t 40) (.s (.r [.ex 2 (.mv .n)]) .ret) .skip))))) (.r [.mv 13 3, .ex 14 (.bin .add (.t 13) (.i 1)), .mv 3 14])))))) (.s (.r [.ex 2 (.mv .y)]) .ret))))
theorem c_impl_dataOk_eq : compF Go.Proofs.Tryz.prog [] 174 = some (c_impl_dataOk.ac, [(.t 2)], 41) := by kernel_rfl

theorem f_dataOk (W0 : World) (s : Str) : Fn Go.Proofs.Tryz.prog W0 174 [CS s] (.c (CB (dataOk s))) [] := by
  refine fnX (c := c_impl_dataOk) mixed c_impl_dataOk_eq (by simp) rfl fun hg => ?_
  refine dr ?_
  refine cP (fun h1 => ?_) (fun h1 => ?_)
  · refine dr ?_
    exact bF (by rw [dataOk]; simp; omega)
  refine dr ?_
  refine lp (σ := Nat) (fun k => [(0, .c (CS s)), (3, I k)]) (fun _ => []) (fun k => k ≤ s.length ∧ (s.take k).all alnum = true) (fun k => s.length - k) 0 ⟨by simp, by simp⟩ ?_ ?_
  · refine dr ?_
    trivial
  rintro k ⟨hk, ha⟩
  refine dr ?_
  refine cP (fun h2 => ?_) (fun h2 => ?_)
  · have hk' : k < s.length := by omega
    have no : alnum s[k] = false → CB false = CB (dataOk s) := fun h => bF (by rw [dataOk, all_no hk' h]; rfl)
    have nx : alnum s[k] = true → ∃ x', (x' ≤ s.length ∧ (s.take x').all alnum = true) ∧ x' = k + 1 := fun h => ⟨k + 1, ⟨by omega, take_all hk' ha h⟩, rfl⟩
    refine dr ?_
    refine cP (fun h3 => ?_) (fun h3 => ?_)
    · refine dr ?_
      refine cP (fun h4 => ?_) (fun h4 => ?_)
      · refine dr ?_
        refine cP (fun h5 => ?_) (fun h5 => ?_)
        · refine dr ?_
          refine cP (fun h6 => ?_) (fun h6 => ?_)
          · refine dr ?_
            exact no (by simp [alnum, lower]; omega)
          · omega
        · refine dr ?_
          refine ⟨k + 1, ⟨by omega, take_all hk' ha (by simp [alnum, lower]; omega)⟩, by omega, ?_⟩
          refine dr ?_
          trivial
      · omega
    · refine dr ?_
      refine cP (fun h4 => ?_) (fun h4 => ?_)
      · refine dr ?_
        refine cP (fun h6 => ?_) (fun h6 => ?_)
        · refine dr ?_
          exact no (by simp [alnum, lower]; omega)
        · refine dr ?_
          refine ⟨k + 1, ⟨by omega, take_all hk' ha (by simp [alnum, lower]; omega)⟩, by omega, ?_⟩
          refine dr ?_
          trivial
      · refine dr ?_
        exact no (by simp [alnum, lower]; omega)
  · have : k = s.length := by omega
    subst this
    rw [List.take_length] at ha
    refine dr ?_
    exact bT (by rw [dataOk, ha]; simp; omega)


end Go.Proofs.YthblflnfhdnpdaaGreatDoor

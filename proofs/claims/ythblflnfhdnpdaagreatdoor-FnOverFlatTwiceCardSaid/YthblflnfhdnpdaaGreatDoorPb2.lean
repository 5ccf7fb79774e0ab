/- Contracts: the reference's trees; no condition. -/
import Derived.Test.YthblflnfhdnpdaaGreatDoorPa2
import Derived.Test.YthblflnfhdnpdaaGreatDoorPb1
namespace Go.Proofs.YthblflnfhdnpdaaGreatDoor
set_option linter.unusedSimpArgs false
set_option linter.unusedVariables false
open Go Go.RowKit


def c_spec_l2Data : XC := (.s (.r [.ex 2 (.mv .n)]) (.s (.s (.r [.ex 3 (.mv (.i 0))]) (.blk 0 (.loop (.s (.s (.r [.mv 4 3, .mv 5 0, .ex 6 (.len true (.t 5)), .ex 7 (.bin .lss (.t 4) (.t 6))]) (.cnd (.t 7) .skip (.exit 0))) (.s (.blk 1 (.s (.r [.mv 10 0, .mv 11 3, .ex 12 (.idx (.t 10) (.t 11)), .ex 13 (.bin .lss (.t 12) (.u 97)), .mv 14 13, .gf 15 (.mv (.t 0)) 14, .gf 16 (.mv (.t 3)) 14, .gf 17 (.idx (.t 15) (.t 16)) 14, .gf 18 (.bin .gtr (.t 17) (.u 122)) 14, .ex 19 (.pick (.t 14) .y (.t 18)), .mv 20 19, .gt 21 (.mv (.t 0)) 20, .gt 22 (.mv (.t 3)) 20, .gt 23 (.idx (.t 21) (.t 22)) 20, .gt 24 (.bin .lss (.t 23) (.u 48)) 20, .gt 25 (.mv (.t 24)) 20, .gf 26 (.mv (.t 0)) 25, .gf 27 (.mv (.t 3)) 25, .gf 28 (.idx (.t 26) (.t 27)) 25, .gf 29 (.bin .gtr (.t 28) (.u 57)) 25, .gt 30 (.pick (.t 25) .y (.t 29)) 20, .ex 31 (.pick (.t 20) (.t 30) .n)]) (.cnd (.t 31) (.s (.r [.ex 2 (.mv .n)]) .ret) .skip))) (.r [.mv 8 3, .ex 9 (.bin .add (.t 8) (.i 1)), .mv 3 9])))))) (.s (.r [.mv 32 0, .ex 33 (.len true (.t 32)), .ex 34 (.bin .leq (.t 33) (.i 6)), .mv 2 34]) .ret)))
theorem c_spec_l2Data_eq : compF Go.Proofs.Tryz.prog [] 220 = some (c_spec_l2Data.ac, [(.t 2)], 35) := by kernel_rfl

theorem f_l2Data (W0 : World) (s : Str) : Fn Go.Proofs.Tryz.prog W0 220 [CS s] (.c (CB (dataOk s))) [] := by
  refine fnX (c := c_spec_l2Data) mixed c_spec_l2Data_eq (by simp) rfl fun hg => ?_
  have g1 := goodS (hg _ (by simp : CS s ∈ _))
  refine dr ?_
  refine lp (σ := Nat) (fun k => [(0, .c (CS s)), (3, I k)]) (fun _ => []) (fun k => k ≤ s.length ∧ (s.take k).all alnum = true) (fun k => s.length - k) 0 ⟨by simp, by simp⟩ ?_ ?_
  · refine dr ?_
    trivial
  rintro k ⟨hk, ha⟩
  refine dr ?_
  refine cP (fun h1 => ?_) (fun h1 => ?_)
  · have hk' : k < s.length := by omega
    have no : alnum s[k] = false → CB false = CB (dataOk s) := fun h => bF (by rw [dataOk, all_no hk' h]; rfl)
    have yes : alnum s[k] = true → ∃ x', (x' ≤ s.length ∧ (s.take x').all alnum = true) ∧ x' = k + 1 := fun h => ⟨k + 1, ⟨by omega, take_all hk' ha h⟩, rfl⟩
    refine dr ?_
    refine cP (fun h2 => ?_) (fun h2 => ?_)
    · refine dr ?_
      refine cP (fun h3 => ?_) (fun h3 => ?_)
      · refine dr ?_
        exact no (by simp [alnum, lower]; omega)
      · refine dr ?_
        refine cP (fun h4 => ?_) (fun h4 => ?_)
        · refine dr ?_
          exact no (by simp [alnum, lower]; omega)
        · refine dr ?_
          refine ⟨k + 1, ⟨by omega, take_all hk' ha (by simp [alnum, lower]; omega)⟩, by omega, ?_⟩
          refine dr ?_
          trivial
    · refine dr ?_
      refine cP (fun h3 => ?_) (fun h3 => ?_)
      · refine dr ?_
        refine cP (fun h4 => ?_) (fun h4 => ?_)
        · refine dr ?_
          exact no (by simp [alnum, lower]; omega)
        · refine dr ?_
          refine cP (fun h5 => ?_) (fun h5 => ?_)
          · refine dr ?_
            exact no (by simp [alnum, lower]; omega)
          · refine dr ?_
            refine ⟨k + 1, ⟨by omega, take_all hk' ha (by simp [alnum, lower]; omega)⟩, by omega, ?_⟩
            refine dr ?_
            trivial
      · refine dr ?_
        refine ⟨k + 1, ⟨by omega, take_all hk' ha (by simp [alnum, lower]; omega)⟩, by omega, ?_⟩
        refine dr ?_
        trivial
  · have : k = s.length := by omega
    subst this
    rw [List.take_length] at ha
    refine dr ?_
    refine congrArg CB ?_
    rw [dataOk, ha, leI_d, Bool.eq_iff_iff]; simp; omega


def c_spec_l2Find : XC := (.s (.r [.ex 4 (.mv (.i 0))]) (.s (.s (.r [.ex 5 (.mv (.i 0))]) (.blk 0 (.loop (.s (.s (.r [.mv 6 5, .mv 7 0, .ex 8 (.len false (.t 7)), .ex 9 (.bin .lss (.t 6) (.t 8))]) (.cnd (.t 9) .skip (.exit 0))) (.s (.blk 1 (.s (.r [.mv 12 0, .mv 13 5, .ex 14 (.ia 3 (.t 12) (.t 13)), .ex 15 (.fa 0 (.t 14)), .ex 16 (.ld false 1 (.t 15)), .mv 17 1, .ex 18 (.bin .eql (.t 16) (.t 17))]) (.cnd (.t 18) (.s (.r [.mv 19 5, .mv 4 19]) .ret) .skip))) (.r [.mv 10 5, .ex 11 (.bin .add (.t 10) (.i 1)), .mv 5 11])))))) (.s (.r [.ex 4 (.mv (.k (.c (.sc (.int .i64 (.negSucc 0))))))]) .ret)))
theorem c_spec_l2Find_eq : compF Go.Proofs.Tryz.prog [] 242 = some (c_spec_l2Find.ac, [(.t 4)], 20) := by kernel_rfl

theorem f_l2Find (W0 : World) (t : List Ent) (p : Str) : Fn Go.Proofs.Tryz.prog W0 242 [eEnts t, CS p] (.c (CI (idx t p))) [] := by
  refine fnX (c := c_spec_l2Find) mixed c_spec_l2Find_eq (by simp) rfl fun hg => ?_
  have g1 := goodRow (hg _ (by simp : eEnts t ∈ _))
  refine dr ?_
  refine lp (σ := Nat) (fun k => [(0, .c (eEnts t)), (1, .c (CS p)), (5, I k)]) (fun _ => []) (fun k => k ≤ t.length ∧ ∀ i (h' : i < t.length), i < k → t[i].path ≠ p) (fun k => t.length - k) 0 ⟨by simp, by simp⟩ ?_ ?_
  · refine dr ?_
    trivial
  rintro k ⟨hk, ha⟩
  refine dr ?_
  refine cP (fun h1 => ?_) (fun h1 => ?_)
  · refine dr ?_
    refine cP (fun h2 => ?_) (fun h2 => ?_)
    · refine dr ?_
      rw [idx_of_first (by omega) h2 ha]
    · refine dr ?_
      refine ⟨k + 1, ⟨by omega, fun i h' hi => ?_⟩, by omega, ?_⟩
      · by_cases e : i = k
        · subst e; exact h2
        · exact ha i h' (by omega)
      · refine dr ?_
        trivial
  · refine dr ?_
    rw [idx_of_none fun i h' => ha i h' (by omega)]; rfl


def c_spec_l2Dir : XC := (.s (.r [.ex 4 (.mv .n)]) (.s (.s (.r [.mv 6 1, .ex 7 (.bin .eql (.t 6) (.s [47]))]) (.cnd (.t 7) (.s (.r [.ex 4 (.mv .y)]) .ret) .skip)) (.s (.r [.mv 8 0, .mv 9 1, .ex 10 (.call 242 [(.t 8), (.t 9)]), .mv 5 10]) (.s (.r [.mv 11 5, .ex 12 (.bin .geq (.t 11) (.i 0)), .mv 13 12, .gt 14 (.mv (.t 0)) 13, .gt 15 (.mv (.t 5)) 13, .gt 16 (.ia 3 (.t 14) (.t 15)) 13, .gt 17 (.fa 1 (.t 16)) 13, .gt 18 (.ld false 1 (.t 17)) 13, .ex 19 (.pick (.t 13) (.t 18) .n), .mv 4 19]) .ret))))
theorem c_spec_l2Dir_eq : compF Go.Proofs.Tryz.prog [] 166 = some (c_spec_l2Dir.ac, [(.t 4)], 20) := by kernel_rfl

theorem f_l2Dir (W0 : World) (t : List Ent) (p : Str) : Fn Go.Proofs.Tryz.prog W0 166 [eEnts t, CS p] (.c (CB (isDir t p))) [] := by
  refine fnX (c := c_spec_l2Dir) mixed c_spec_l2Dir_eq (by simp) rfl fun hg => ?_
  refine dr ?_
  refine cP (fun h1 => ?_) (fun h1 => ?_)
  · refine dr ?_
    exact bT (by simp [isDir, get, h1, rootE])
  refine dr ?_
  repeat (refine c0 (f_l2Find W0 t p) rfl ?_; first | refine dr ?_ | exact dz)
  intro hg1
  have hd : isDir t p = match find t p with | some e => e.dir | none => false := by unfold isDir get; rw [if_neg h1]; cases find t p <;> rfl
  rw [hd]
  rcases idx_cases t p with ⟨e1, e2, _⟩ | ⟨j, hj, e1, e2, _⟩
  · rw [e1, e2]
    refine dr ?_
    refine cP (fun h2 => ?_) (fun h2 => ?_)
    · omega
    · exact dz
  · rw [e1, e2]
    refine dr ?_
    refine cP (fun h2 => ?_) (fun h2 => ?_)
    · exact dz
    · omega


def c_spec_l2Get : XC := (.s (.r [.ex 4 (.alloc [(.c (.sc (.string ⟨#[]⟩))), (.c (.sc (.bool false))), (.c (.sc (.string ⟨#[]⟩)))]), .ex 5 (.mv .n)]) (.s (.s (.r [.mv 7 1, .ex 8 (.bin .eql (.t 7) (.s [47]))]) (.cnd (.t 8) (.s (.r [.ex 9 (.build [(.c (.sc (.string ⟨#[]⟩))), (.c (.sc (.bool false))), (.c (.sc (.string ⟨#[]⟩)))] [(0, (1, (.s [47]))), (1, (1, .y))]), .nu (.st 3 (.t 4) (.t 9)), .ex 5 (.mv .y)]) .ret) .skip)) (.s (.r [.mv 10 0, .mv 11 1, .ex 12 (.call 242 [(.t 10), (.t 11)]), .mv 6 12]) (.s (.s (.r [.mv 13 6, .ex 14 (.bin .lss (.t 13) (.i 0))]) (.cnd (.t 14) (.s (.r [.ex 15 (.build [(.c (.sc (.string ⟨#[]⟩))), (.c (.sc (.bool false))), (.c (.sc (.string ⟨#[]⟩)))] []), .nu (.st 3 (.t 4) (.t 15)), .ex 5 (.mv .n)]) .ret) .skip)) (.s (.r [.mv 16 0, .mv 17 6, .ex 18 (.ia 3 (.t 16) (.t 17)), .ex 19 (.ld true 3 (.t 18)), .nu (.st 3 (.t 4) (.t 19)), .ex 5 (.mv .y)]) .ret)))))
theorem c_spec_l2Get_eq : compF Go.Proofs.Tryz.prog [] 165 = some (c_spec_l2Get.ac, [(.cell 4 true 3), (.t 5)], 20) := by kernel_rfl

theorem f_l2Get (W0 : World) (t : List Ent) (p : Str) : Fn Go.Proofs.Tryz.prog W0 165 [eEnts t, CS p] (.c (eEntO (get t p))) [] := by
  refine fnX (c := c_spec_l2Get) mixed c_spec_l2Get_eq (by simp) rfl fun hg => ?_
  refine dr ?_
  refine cP (fun h1 => ?_) (fun h1 => ?_)
  · refine dr ?_
    rw [get, if_pos h1]; rfl
  rw [get, if_neg h1]
  refine dr ?_
  repeat (refine c0 (f_l2Find W0 t p) rfl ?_; first | refine dr ?_ | exact dz)
  intro hg1
  rcases idx_cases t p with ⟨e1, e2, _⟩ | ⟨j, hj, e1, e2, _⟩
  · rw [e1, e2]
    refine dr ?_
    refine cP (fun h2 => ?_) (fun h2 => ?_)
    · refine dr ?_
      rfl
    · omega
  · rw [e1, e2]
    refine dr ?_
    refine cP (fun h2 => ?_) (fun h2 => ?_)
    · omega
    · refine dr ?_
      rfl


def c_spec_TreeOk : XC := (.s (.r [.ex 2 (.mv .n)]) (.s (.s (.r [.mv 5 0, .ex 6 (.len false (.t 5)), .ex 7 (.bin .gtr (.t 6) (.i 16))]) (.cnd (.t 7) (.s (.r [.ex 2 (.mv .n)]) .ret) .skip)) (.s (.s (.r [.ex 3 (.mv (.i 0))]) (.blk 0 (.loop (.s (.s (.r [.mv 8 3, .mv 9 0, .ex 10 (.len false (.t 9)), .ex 11 (.bin .lss (.t 8) (.t 10))]) (.cnd (.t 11) .skip (.exit 0))) (.s (.blk 1 (.s (.r [.mv 14 0, .mv 15 3, .ex 16 (.ia 3 (.t 14) (.t 15)), .ex 17 (.ld true 3 (.t 16)), .ex 4 (.alloc [(.c (.sc (.string ⟨#[]⟩))), (.c (.sc (.bool false))), (.c (.sc (.string ⟨#[]⟩)))]), .nu (.st 3 (.t 4) (.t 17))]) (.s (.d [.ex 18 (.fa 0 (.t 4)), .ex 19 (.ld false 1 (.t 18)), .ex 20 (.call 175 [(.t 19)]), .ex 21 (.un .not (.t 20)), .mv 22 21, .gf 23 (.fa 2 (.t 4)) 22, .gf 24 (.ld false 1 (.t 23)) 22, .gf 25 (.call 220 [(.t 24)]) 22, .gf 26 (.un .not (.t 25)) 22, .ex 27 (.pick (.t 22) .y (.t 26)), .mv 28 27, .gf 29 (.fa 1 (.t 4)) 28, .gf 30 (.ld false 1 (.t 29)) 28, .gf 31 (.mv (.t 30)) 28, .gt 32 (.fa 2 (.t 4)) 31, .gt 33 (.ld false 1 (.t 32)) 31, .gt 34 (.bin .neq (.t 33) (.s [])) 31, .gf 35 (.pick (.t 31) (.t 34) .n) 28, .ex 36 (.pick (.t 28) .y (.t 35)), .mv 37 36, .gf 38 (.mv (.t 3)) 37, .gf 39 (.bin .gtr (.t 38) (.i 0)) 37, .gf 40 (.mv (.t 39)) 37, .gt 41 (.mv (.t 0)) 40, .gt 42 (.mv (.t 3)) 40, .gt 43 (.bin .sub (.t 42) (.i 1)) 40, .gt 44 (.ia 3 (.t 41) (.t 43)) 40, .gt 45 (.fa 0 (.t 44)) 40, .gt 46 (.ld false 1 (.t 45)) 40, .gt 47 (.fa 0 (.t 4)) 40, .gt 48 (.ld false 1 (.t 47)) 40, .gt 49 (.bin .geq (.t 46) (.t 48)) 40, .gf 50 (.pick (.t 40) (.t 49) .n) 37, .ex 51 (.pick (.t 37) .y (.t 50)), .mv 52 51, .gf 53 (.mv (.t 0)) 52, .gf 54 (.mv (.t 3)) 52, .gf 55 (.slr 3 (.t 53) .none (.some (.t 54))) 52, .gf 56 (.fa 0 (.t 4)) 52, .gf 57 (.ld false 1 (.t 56)) 52, .gf 58 (.call 167 [(.t 57)]) 52, .gf 59 (.call 166 [(.t 55), (.t 58)]) 52, .gf 60 (.un .not (.t 59)) 52, .ex 61 (.pick (.t 52) .y (.t 60))]) (.cnd (.t 61) (.s (.r [.ex 2 (.mv .n)]) .ret) .skip)))) (.r [.mv 12 3, .ex 13 (.bin .add (.t 12) (.i 1)), .mv 3 13])))))) (.s (.r [.ex 2 (.mv .y)]) .ret))))
theorem c_spec_TreeOk_eq : compF Go.Proofs.Tryz.prog [] 160 = some (c_spec_TreeOk.ac, [(.t 2)], 62) := by kernel_rfl

theorem f_spec_TreeOk (W0 : World) (t : List Ent) : Fn Go.Proofs.Tryz.prog W0 160 [eEnts t] (.c (CB (tOk t))) [] := by
  refine fnX (c := c_spec_TreeOk) mixed c_spec_TreeOk_eq (by simp) rfl fun hg => ?_
  have g1 := goodRow (hg _ (by simp : eEnts t ∈ _))
  refine dr ?_
  refine cP (fun h1 => ?_) (fun h1 => ?_)
  · refine dr ?_
    exact bF (by rw [tOk, Bool.and_eq_false_iff]; left; simp; omega)
  have hT : tOk t = okA [] t := by rw [tOk]; simp; omega
  rw [hT]
  refine dr ?_
  refine lp (σ := Nat) (fun k => [(0, .c (eEnts t)), (3, I k)]) (fun _ => []) (fun k => k ≤ t.length ∧ ∀ j (h : j < t.length), j < k → ok1 (t.take j) t[j] = true) (fun k => t.length - k) 0 ⟨by simp, by simp⟩ ?_ ?_
  · refine dr ?_
    trivial
  rintro k ⟨hk, ha⟩
  refine dr ?_
  refine cP (fun h2 => ?_) (fun h2 => ?_)
  rotate_left
  · refine dr ?_
    exact bT (okA0.2 fun j h => ha j h (by omega))
  have hk' : k < t.length := by omega
  have no : ok1 (t.take k) t[k] = false → CB false = CB (okA [] t) := fun h => bF (by
    rw [Bool.eq_false_iff]; intro e
    have := okA0.1 e k hk'
    rw [h] at this; cases this)
  refine dr ?_
  repeat (refine c0 (f_spec_PathOk W0 _) rfl ?_; first | refine dr ?_ | exact dz)
  refine cP (fun h3 => ?_) (fun h3 => ?_)
  · refine dr ?_
    exact no (by simp [ok1, h3])
  refine dr ?_
  repeat (refine c0 (f_l2Data W0 _) rfl ?_; first | refine dr ?_ | exact dz)
  refine cP (fun h4 => ?_) (fun h4 => ?_)
  · refine dr ?_
    exact no (by simp [ok1, h4])
  refine dr ?_
  refine cP (fun h5 => ?_) (fun h5 => ?_)
  · refine dr ?_
    refine cP (fun h6 => ?_) (fun h6 => ?_)
    · refine dr ?_
      exact no (by simp [ok1, h5, h6])
    · have h56 : (!(t[k].dir && t[k].data != [])) = true := by simp [h6]
      clear h5 h6
      refine dr ?_
      refine cP (fun h7 => ?_) (fun h7 => ?_)
      · have hl : (t.take k).getLast? = some t[k - 1] := by
          rw [List.getLast?_take, if_neg (by omega), List.getElem?_eq_getElem (by omega)]
          rfl
        refine dr ?_
        repeat (refine aM (j := k - 1) (by omega) (by omega) ?_; first | refine dr ?_ | exact dz)
        cases h8 : ltS t[k - 1].path t[k].path
        · refine dr ?_
          exact no (by simp [ok1, hl, h8])
        · refine dEr ?_
          repeat ((first | refine sHiM k rfl (by omega) ?_ | refine c0 (f_spec_PathUp W0 _) rfl ?_ | refine c0 (f_l2Dir W0 (t.take k) _) rfl ?_); first | refine dEr ?_ | exact dz)
          refine cP (fun h9 => ?_) (fun h9 => ?_)
          · refine dr ?_
            exact no (by simp [ok1, h9])
          · refine dr ?_
            refine ⟨k + 1, ⟨by omega, fun j h hj => ?_⟩, by omega, ?_⟩
            · by_cases e : j = k
              · subst e; rw [ok1, h3, h4, h56, h9, hl]; simp [h8]
              · exact ha j h (by omega)
            · refine dr ?_
              trivial
      · have hk0 : k = 0 := by omega
        subst hk0
        refine dEr ?_
        repeat ((first | refine sHiM 0 rfl (by omega) ?_ | refine c0 (f_spec_PathUp W0 _) rfl ?_ | refine c0 (f_l2Dir W0 (t.take 0) _) rfl ?_); first | refine dEr ?_ | exact dz)
        refine cP (fun h9 => ?_) (fun h9 => ?_)
        · refine dr ?_
          exact no (by simp only [ok1, h9, Bool.and_false])
        · refine dr ?_
          refine ⟨1, ⟨by omega, fun j h hj => ?_⟩, by omega, ?_⟩
          · have e : j = 0 := by omega
            subst e
            rw [ok1, h3, h4, h56, h9]; rfl
          · refine dr ?_
            trivial
  · have h56 : (!(t[k].dir && t[k].data != [])) = true := by simp [h5]
    clear h5
    refine dr ?_
    refine cP (fun h7 => ?_) (fun h7 => ?_)
    · have hl : (t.take k).getLast? = some t[k - 1] := by
        rw [List.getLast?_take, if_neg (by omega), List.getElem?_eq_getElem (by omega)]
        rfl
      refine dr ?_
      repeat (refine aM (j := k - 1) (by omega) (by omega) ?_; first | refine dr ?_ | exact dz)
      cases h8 : ltS t[k - 1].path t[k].path
      · refine dr ?_
        exact no (by simp [ok1, hl, h8])
      · refine dEr ?_
        repeat ((first | refine sHiM k rfl (by omega) ?_ | refine c0 (f_spec_PathUp W0 _) rfl ?_ | refine c0 (f_l2Dir W0 (t.take k) _) rfl ?_); first | refine dEr ?_ | exact dz)
        refine cP (fun h9 => ?_) (fun h9 => ?_)
        · refine dr ?_
          exact no (by simp [ok1, h9])
        · refine dr ?_
          refine ⟨k + 1, ⟨by omega, fun j h hj => ?_⟩, by omega, ?_⟩
          · by_cases e : j = k
            · subst e; rw [ok1, h3, h4, h56, h9, hl]; simp [h8]
            · exact ha j h (by omega)
          · refine dr ?_
            trivial
    · have hk0 : k = 0 := by omega
      subst hk0
      refine dEr ?_
      repeat ((first | refine sHiM 0 rfl (by omega) ?_ | refine c0 (f_spec_PathUp W0 _) rfl ?_ | refine c0 (f_l2Dir W0 (t.take 0) _) rfl ?_); first | refine dEr ?_ | exact dz)
      refine cP (fun h9 => ?_) (fun h9 => ?_)
      · refine dr ?_
        exact no (by simp only [ok1, h9, Bool.and_false])
      · refine dr ?_
        refine ⟨1, ⟨by omega, fun j h hj => ?_⟩, by omega, ?_⟩
        · have e : j = 0 := by omega
          subst e
          rw [ok1, h3, h4, h56, h9]; rfl
        · refine dr ?_
          trivial


end Go.Proofs.YthblflnfhdnpdaaGreatDoor

/- Contracts: the program's trees and layers; no condition but one on a package variable that start-up code lays. -/
import Derived.Test.YthblflnfhdnpdaaGreatDoorIb1
import Derived.Test.YthblflnfhdnpdaaGreatDoorSh3
import Derived.Test.YthblflnfhdnpdaaGreatDoorQa6
namespace Go.Proofs.YthblflnfhdnpdaaGreatDoor
set_option linter.unusedSimpArgs false
set_option linter.unusedVariables false
open Go Go.RowKit

theorem fnd_first {α : Type} {key : α → Str} {t : List α} {p : Str} {k : Nat} (h : k < t.length) (hp : key t[k] = p) (hn : ∀ i (h' : i < t.length), i < k → key t[i] ≠ p) : fnd key t p = some t[k] := by
  unfold fnd
  rw [List.find?_eq_some_iff_getElem]
  exact ⟨by simp [hp], k, h, rfl, fun i hi => by simpa using hn i (by omega) hi⟩
theorem fnd_all_no {α : Type} {key : α → Str} {t : List α} {p : Str} (hn : ∀ i (h' : i < t.length), key t[i] ≠ p) : fnd key t p = none :=
  fnd_none.2 fun e he => by obtain ⟨i, hi, rfl⟩ := List.mem_iff_getElem.1 he; exact hn i hi
def noM : Mark := ⟨[], 0, []⟩
def eMarkO : Option Mark → CV
  | none => .tup [eMark noM, CB false]
  | some m => .tup [eMark m, CB true]
theorem eMarkO_eq (o : Option Mark) : eMarkO o = .tup [eMark (o.getD noM), CB o.isSome] := by cases o <;> rfl


def c_impl_entAt : XC := (.s (.r [.ex 4 (.alloc [(.c (.sc (.string ⟨#[]⟩))), (.c (.sc (.bool false))), (.c (.sc (.string ⟨#[]⟩)))]), .ex 5 (.mv .n)]) (.s (.s (.r [.mv 8 0, .ex 9 (.len false (.t 8)), .ex 10 (.mv (.i 0))]) (.blk 0 (.loop (.s (.r [.ex 11 (.bin .lss (.t 10) (.t 9))]) (.s (.cnd (.t 11) .skip (.exit 0)) (.s (.blk 1 (.s (.r [.ex 12 (.ia 3 (.t 8) (.t 10)), .ex 13 (.ld true 3 (.t 12)), .ex 7 (.alloc [(.c (.sc (.string ⟨#[]⟩))), (.c (.sc (.bool false))), (.c (.sc (.string ⟨#[]⟩)))]), .nu (.st 3 (.t 7) (.t 13))]) (.s (.r [.ex 14 (.fa 0 (.t 7)), .ex 15 (.ld false 1 (.t 14)), .mv 16 1, .ex 17 (.bin .eql (.t 15) (.t 16))]) (.cnd (.t 17) (.s (.r [.ex 18 (.ld true 3 (.t 7)), .nu (.st 3 (.t 4) (.t 18)), .ex 5 (.mv .y)]) .ret) .skip)))) (.r [.ex 19 (.bin .add (.t 10) (.i 1)), .mv 10 19]))))))) (.s (.r [.ex 20 (.build [(.c (.sc (.string ⟨#[]⟩))), (.c (.sc (.bool false))), (.c (.sc (.string ⟨#[]⟩)))] []), .nu (.st 3 (.t 4) (.t 20)), .ex 5 (.mv .n)]) .ret)))
theorem c_impl_entAt_eq : compF Go.Proofs.Tryz.prog [] 99 = some (c_impl_entAt.ac, [(.cell 4 true 3), (.t 5)], 21) := by kernel_rfl

theorem f_entAt (W0 : World) (t : List Ent) (p : Str) : Fn Go.Proofs.Tryz.prog W0 99 [eEnts t, CS p] (.c (eEntO (find t p))) [] := by
  refine fnX (c := c_impl_entAt) mixed c_impl_entAt_eq (by simp) rfl fun hg => ?_
  have g1 := goodRow (hg _ (by simp : eEnts t ∈ _))
  refine dr ?_
  refine lp (σ := Nat) (fun k => [(1, .c (CS p)), (4, .ptr 64 0), (8, .c (eEnts t)), (9, I t.length), (10, I k)]) (fun _ => [(64, .box [.c (CS []), (.c (CB false)), .c (CS [])])]) (fun k => k ≤ t.length ∧ ∀ i (h' : i < t.length), i < k → t[i].path ≠ p) (fun k => t.length - k) 0 ⟨by simp, by simp⟩ ?_ ?_
  · refine dr ?_
    trivial
  rintro k ⟨hk, ha⟩
  refine dr ?_
  refine cP (fun h1 => ?_) (fun h1 => ?_)
  · refine dr ?_
    refine cP (fun h2 => ?_) (fun h2 => ?_)
    · refine dr ?_
      have : find t p = some t[k] := fnd_first (key := Ent.path) (by omega) h2 ha
      rw [this]; rfl
    · refine dr ?_
      refine ⟨k + 1, ⟨by omega, fun i h' hi => ?_⟩, by omega, ?_⟩
      · by_cases e : i = k
        · subst e; exact h2
        · exact ha i h' (by omega)
      · refine dr ?_
        trivial
  · refine dr ?_
    have : find t p = none := fnd_all_no (key := Ent.path) fun i h' => ha i h' (by omega)
    rw [this]; rfl


def c_impl_markAt : XC := (.s (.r [.ex 4 (.alloc [(.c (.sc (.string ⟨#[]⟩))), (.c (.sc (.int .i64 0))), (.c (.sc (.string ⟨#[]⟩)))]), .ex 5 (.mv .n)]) (.s (.s (.r [.mv 8 0, .ex 9 (.len false (.t 8)), .ex 10 (.mv (.i 0))]) (.blk 0 (.loop (.s (.r [.ex 11 (.bin .lss (.t 10) (.t 9))]) (.s (.cnd (.t 11) .skip (.exit 0)) (.s (.blk 1 (.s (.r [.ex 12 (.ia 3 (.t 8) (.t 10)), .ex 13 (.ld true 3 (.t 12)), .ex 7 (.alloc [(.c (.sc (.string ⟨#[]⟩))), (.c (.sc (.int .i64 0))), (.c (.sc (.string ⟨#[]⟩)))]), .nu (.st 3 (.t 7) (.t 13))]) (.s (.r [.ex 14 (.fa 0 (.t 7)), .ex 15 (.ld false 1 (.t 14)), .mv 16 1, .ex 17 (.bin .eql (.t 15) (.t 16))]) (.cnd (.t 17) (.s (.r [.ex 18 (.ld true 3 (.t 7)), .nu (.st 3 (.t 4) (.t 18)), .ex 5 (.mv .y)]) .ret) .skip)))) (.r [.ex 19 (.bin .add (.t 10) (.i 1)), .mv 10 19]))))))) (.s (.r [.ex 20 (.build [(.c (.sc (.string ⟨#[]⟩))), (.c (.sc (.int .i64 0))), (.c (.sc (.string ⟨#[]⟩)))] []), .nu (.st 3 (.t 4) (.t 20)), .ex 5 (.mv .n)]) .ret)))
theorem c_impl_markAt_eq : compF Go.Proofs.Tryz.prog [] 159 = some (c_impl_markAt.ac, [(.cell 4 true 3), (.t 5)], 21) := by kernel_rfl

theorem f_markAt (W0 : World) (t : List Mark) (p : Str) : Fn Go.Proofs.Tryz.prog W0 159 [eMarks t, CS p] (.c (eMarkO (mfind t p))) [] := by
  refine fnX (c := c_impl_markAt) mixed c_impl_markAt_eq (by simp) rfl fun hg => ?_
  have g1 := goodRow (hg _ (by simp : eMarks t ∈ _))
  refine dr ?_
  refine lp (σ := Nat) (fun k => [(1, .c (CS p)), (4, .ptr 64 0), (8, .c (eMarks t)), (9, I t.length), (10, I k)]) (fun _ => [(64, .box [.c (CS []), (.c (CI 0)), .c (CS [])])]) (fun k => k ≤ t.length ∧ ∀ i (h' : i < t.length), i < k → t[i].path ≠ p) (fun k => t.length - k) 0 ⟨by simp, by simp⟩ ?_ ?_
  · refine dr ?_
    trivial
  rintro k ⟨hk, ha⟩
  refine dr ?_
  refine cP (fun h1 => ?_) (fun h1 => ?_)
  · refine dr ?_
    refine cP (fun h2 => ?_) (fun h2 => ?_)
    · refine dr ?_
      have : mfind t p = some t[k] := fnd_first (key := Mark.path) (by omega) h2 ha
      rw [this]; rfl
    · refine dr ?_
      refine ⟨k + 1, ⟨by omega, fun i h' hi => ?_⟩, by omega, ?_⟩
      · by_cases e : i = k
        · subst e; exact h2
        · exact ha i h' (by omega)
      · refine dr ?_
        trivial
  · refine dr ?_
    have : mfind t p = none := fnd_all_no (key := Mark.path) fun i h' => ha i h' (by omega)
    rw [this]; rfl


def c_impl_copyEnts : XC := (.s (.r [.ex 2 (.asn (.k .nil) 3 59)]) (.s (.r [.mv 3 0, .ex 4 (.app true 3 40 59 (.k .nil) (.t 3)), .ex 2 (.asn (.t 4) 3 59)]) .ret))
theorem c_impl_copyEnts_eq : compF Go.Proofs.Tryz.prog [] 144 = some (c_impl_copyEnts.ac, [(.t 2)], 5) := by kernel_rfl

theorem f_copyEnts (W0 : World) (t : List Ent) (ht : t.length ≤ 1000000) : Fn Go.Proofs.Tryz.prog W0 144 [eEnts t] (.c (eEnts t)) [] := by
  refine fnX (c := c_impl_copyEnts) mixed c_impl_copyEnts_eq (by simp) rfl fun hg => ?_
  refine dr ?_
  repeat ((first | refine oB (by simp; omega) ?_ | refine oB (by simp) ?_); first | refine dr ?_ | exact dz)
  rfl


def c_impl_upCode : XC := (.s (.r [.ex 4 (.mv (.i 0))]) (.s (.r [.mv 8 1, .ex 9 (.call 158 [(.t 8)]), .mv 5 9]) (.s (.s (.r [.mv 10 5, .ex 11 (.bin .eql (.t 10) (.s [47]))]) (.cnd (.t 11) (.s (.r [.ex 4 (.mv (.i 0))]) .ret) .skip)) (.s (.r [.mv 13 0, .mv 14 5, .ex 15 (.call 99 [(.t 13), (.t 14)]), .mv 12 15, .ex 16 (.ext (.t 12) 0), .ex 17 (.ext (.t 12) 1), .ex 6 (.alloc [(.c (.sc (.string ⟨#[]⟩))), (.c (.sc (.bool false))), (.c (.sc (.string ⟨#[]⟩)))]), .nu (.st 3 (.t 6) (.t 16)), .mv 7 17]) (.s (.s (.r [.mv 18 7, .ex 19 (.un .not (.t 18))]) (.cnd (.t 19) (.s (.r [.ex 4 (.mv (.i 2))]) .ret) .skip)) (.s (.s (.r [.ex 20 (.fa 1 (.t 6)), .ex 21 (.ld false 1 (.t 20)), .ex 22 (.un .not (.t 21))]) (.cnd (.t 22) (.s (.r [.ex 4 (.mv (.i 3))]) .ret) .skip)) (.s (.r [.ex 4 (.mv (.i 0))]) .ret)))))))
theorem c_impl_upCode_eq : compF Go.Proofs.Tryz.prog [] 157 = some (c_impl_upCode.ac, [(.t 4)], 23) := by kernel_rfl

theorem f_upCode (W0 : World) (hM : HM W0) (t : List Ent) (p : Str) : Fn Go.Proofs.Tryz.prog W0 157 [eEnts t, CS p] (.c (CI (upC2 t p))) [] := by
  refine fnX (c := c_impl_upCode) mixed c_impl_upCode_eq (by simp) rfl fun hg => ?_
  refine dEr ?_
  repeat (refine c0 (f_impl_PathUp W0 hM p) rfl ?_; first | refine dEr ?_ | exact dz)
  refine cP (fun h1 => ?_) (fun h1 => ?_)
  · refine dr ?_
    rw [upC2, if_pos h1] <;> rfl
  have hc := f_entAt W0 t (pUp p)
  rw [upC2, if_neg h1]
  cases hx : find t (pUp p) with
  | none =>
    rw [hx] at hc
    refine dEr ?_
    repeat (refine c0 hc rfl ?_; first | refine dEr ?_ | exact dz)
    try rfl
  | some e =>
    rw [hx] at hc
    refine dEr ?_
    repeat (refine c0 hc rfl ?_; first | refine dEr ?_ | exact dz)
    refine cP (fun h2 => ?_) (fun h2 => ?_)
    · refine dr ?_
      exact congrArg CI (by simp [h2])
    · refine dr ?_
      exact congrArg CI (by simp [h2])


def c_impl_TreeOk : XC := (.s (.r [.ex 2 (.mv .n)]) (.s (.s (.r [.mv 5 0, .ex 6 (.len false (.t 5)), .ex 7 (.bin .gtr (.t 6) (.i 16))]) (.cnd (.t 7) (.s (.r [.ex 2 (.mv .n)]) .ret) .skip)) (.s (.s (.r [.mv 8 0, .ex 9 (.len false (.t 8)), .ex 10 (.mv (.i 0))]) (.blk 0 (.loop (.s (.r [.ex 11 (.bin .lss (.t 10) (.t 9))]) (.s (.cnd (.t 11) .skip (.exit 0)) (.s (.blk 1 (.s (.r [.mv 12 10, .ex 13 (.ia 3 (.t 8) (.t 10)), .ex 14 (.ld true 3 (.t 13)), .ex 4 (.alloc [(.c (.sc (.string ⟨#[]⟩))), (.c (.sc (.bool false))), (.c (.sc (.string ⟨#[]⟩)))]), .mv 3 12, .nu (.st 3 (.t 4) (.t 14))]) (.s (.s (.r [.ex 15 (.fa 0 (.t 4)), .ex 16 (.ld false 1 (.t 15)), .ex 17 (.call 112 [(.t 16)]), .ex 18 (.un .not (.t 17)), .mv 19 18, .gf 20 (.fa 2 (.t 4)) 19, .gf 21 (.ld false 1 (.t 20)) 19, .gf 22 (.call 174 [(.t 21)]) 19, .gf 23 (.un .not (.t 22)) 19, .ex 24 (.pick (.t 19) .y (.t 23)), .mv 25 24, .gf 26 (.fa 1 (.t 4)) 25, .gf 27 (.ld false 1 (.t 26)) 25, .gf 28 (.mv (.t 27)) 25, .gt 29 (.fa 2 (.t 4)) 28, .gt 30 (.ld false 1 (.t 29)) 28, .gt 31 (.bin .neq (.t 30) (.s [])) 28, .gf 32 (.pick (.t 28) (.t 31) .n) 25, .ex 33 (.pick (.t 25) .y (.t 32))]) (.cnd (.t 33) (.s (.r [.ex 2 (.mv .n)]) .ret) .skip)) (.s (.s (.d [.mv 34 3, .ex 35 (.bin .gtr (.t 34) (.i 0)), .mv 36 35, .gt 37 (.mv (.t 0)) 36, .gt 38 (.mv (.t 3)) 36, .gt 39 (.bin .sub (.t 38) (.i 1)) 36, .gt 40 (.ia 3 (.t 37) (.t 39)) 36, .gt 41 (.fa 0 (.t 40)) 36, .gt 42 (.ld false 1 (.t 41)) 36, .gt 43 (.fa 0 (.t 4)) 36, .gt 44 (.ld false 1 (.t 43)) 36, .gt 45 (.bin .geq (.t 42) (.t 44)) 36, .ex 46 (.pick (.t 36) (.t 45) .n)]) (.cnd (.t 46) (.s (.r [.ex 2 (.mv .n)]) .ret) .skip)) (.s (.r [.mv 47 0, .ex 48 (.fa 0 (.t 4)), .ex 49 (.ld false 1 (.t 48)), .ex 50 (.call 157 [(.t 47), (.t 49)]), .ex 51 (.bin .neq (.t 50) (.i 0))]) (.cnd (.t 51) (.s (.r [.ex 2 (.mv .n)]) .ret) .skip)))))) (.r [.ex 52 (.bin .add (.t 10) (.i 1)), .mv 10 52]))))))) (.s (.r [.ex 2 (.mv .y)]) .ret))))
theorem c_impl_TreeOk_eq : compF Go.Proofs.Tryz.prog [] 98 = some (c_impl_TreeOk.ac, [(.t 2)], 53) := by kernel_rfl

theorem f_impl_TreeOk (W0 : World) (hM : HM W0) (t : List Ent) : Fn Go.Proofs.Tryz.prog W0 98 [eEnts t] (.c (CB (tOk t))) [] := by
  refine fnX (c := c_impl_TreeOk) mixed c_impl_TreeOk_eq (by simp) rfl fun hg => ?_
  have g1 := goodRow (hg _ (by simp : eEnts t ∈ _))
  have no : ¬ TG t → CB false = CB (tOk t) := fun h => bF (by
    rw [Bool.eq_false_iff]; exact fun e => h (TG.of e))
  refine dr ?_
  refine cP (fun h1 => ?_) (fun h1 => ?_)
  · refine dr ?_
    exact no fun h => by have := h.len; omega
  refine dr ?_
  refine lp (σ := Nat) (fun k => [(0, .c (eEnts t)), (8, .c (eEnts t)), (9, I t.length), (10, I k)]) (fun _ => []) (fun k => k ≤ t.length ∧ ∀ j (h : j < t.length), j < k → eok t[j] = true ∧ isDir t (pUp t[j].path) = true ∧ (0 < j → ltS t[j - 1].path t[j].path = true)) (fun k => t.length - k) 0 ⟨by simp, by simp⟩ ?_ ?_
  · refine dr ?_
    trivial
  rintro k ⟨hk, ha⟩
  refine dr ?_
  refine cP (fun h2 => ?_) (fun h2 => ?_)
  rotate_left
  · refine dr ?_
    refine bT (tOk_iff.2 ⟨by omega, srt_iff.2 fun j hj => ?_, fun e he => ?_, fun e he => ?_⟩)
    · exact (ha (j + 1) hj (by omega)).2.2 (by omega)
    · obtain ⟨j, hj, rfl⟩ := List.mem_iff_getElem.1 he
      exact (ha j hj (by omega)).1
    · obtain ⟨j, hj, rfl⟩ := List.mem_iff_getElem.1 he
      exact (ha j hj (by omega)).2.1
  have hk' : k < t.length := by omega
  have no1 : eok t[k] = false → CB false = CB (tOk t) := fun h => no fun g => by
    have := g.ok _ (List.getElem_mem hk'); rw [h] at this; cases this
  refine dEr ?_
  repeat (refine c0 (f_impl_PathOk W0 hM _) rfl ?_; first | refine dEr ?_ | exact dz)
  refine cP (fun h3 => ?_) (fun h3 => ?_)
  · refine dr ?_
    exact no1 (by simp [eok, h3])
  refine dEr ?_
  repeat (refine c0 (f_dataOk W0 _) rfl ?_; first | refine dEr ?_ | exact dz)
  refine cP (fun h4 => ?_) (fun h4 => ?_)
  · refine dr ?_
    exact no1 (by simp [eok, h4])
  refine dr ?_
  refine cP (fun h5 => ?_) (fun h5 => ?_)
  · refine dr ?_
    refine cP (fun h6 => ?_) (fun h6 => ?_)
    · refine dr ?_
      exact no1 (by simp [eok, h5, h6])
    · have hok : eok t[k] = true := by rw [eok, h3, h4]; simp [h6]
      clear h6
      refine dr ?_
      refine cP (fun h7 => ?_) (fun h7 => ?_)
      · refine dr ?_
        repeat (refine aM (j := k - 1) (by omega) (by omega) ?_; first | refine dr ?_ | exact dz)
        cases h8 : ltS t[k - 1].path t[k].path
        · refine dr ?_
          exact no fun h => by
            have := srt_iff.1 h.srt (k - 1) (by omega)
            simp only [show k - 1 + 1 = k by omega] at this
            rw [h8] at this; cases this
        · refine dEr ?_
          repeat (refine c0 (f_upCode W0 hM t _) rfl ?_; first | refine dEr ?_ | exact dz)
          refine cP (fun h9 => ?_) (fun h9 => ?_)
          · refine dr ?_
            exact no fun h => h9 ((upC2_0).2 (h.up _ (List.getElem_mem hk')))
          · refine dr ?_
            refine ⟨k + 1, ⟨by omega, fun j h hj => ?_⟩, by omega, ?_⟩
            · by_cases e : j = k
              · subst e; exact ⟨hok, upC2_0.1 h9, fun _ => h8⟩
              · exact ha j h (by omega)
            · refine dr ?_
              trivial
      · refine dEr ?_
        repeat (refine c0 (f_upCode W0 hM t _) rfl ?_; first | refine dEr ?_ | exact dz)
        refine cP (fun h9 => ?_) (fun h9 => ?_)
        · refine dr ?_
          exact no fun h => h9 ((upC2_0).2 (h.up _ (List.getElem_mem hk')))
        · refine dr ?_
          refine ⟨k + 1, ⟨by omega, fun j h hj => ?_⟩, by omega, ?_⟩
          · by_cases e : j = k
            · subst e; exact ⟨hok, upC2_0.1 h9, fun h => by omega⟩
            · exact ha j h (by omega)
          · refine dr ?_
            trivial
  · have hok : eok t[k] = true := by simp [eok, h3, h4, h5]
    refine dr ?_
    refine cP (fun h7 => ?_) (fun h7 => ?_)
    · refine dr ?_
      repeat (refine aM (j := k - 1) (by omega) (by omega) ?_; first | refine dr ?_ | exact dz)
      cases h8 : ltS t[k - 1].path t[k].path
      · refine dr ?_
        exact no fun h => by
          have := srt_iff.1 h.srt (k - 1) (by omega)
          simp only [show k - 1 + 1 = k by omega] at this
          rw [h8] at this; cases this
      · refine dEr ?_
        repeat (refine c0 (f_upCode W0 hM t _) rfl ?_; first | refine dEr ?_ | exact dz)
        refine cP (fun h9 => ?_) (fun h9 => ?_)
        · refine dr ?_
          exact no fun h => h9 ((upC2_0).2 (h.up _ (List.getElem_mem hk')))
        · refine dr ?_
          refine ⟨k + 1, ⟨by omega, fun j h hj => ?_⟩, by omega, ?_⟩
          · by_cases e : j = k
            · subst e; exact ⟨hok, upC2_0.1 h9, fun _ => h8⟩
            · exact ha j h (by omega)
          · refine dr ?_
            trivial
    · refine dEr ?_
      repeat (refine c0 (f_upCode W0 hM t _) rfl ?_; first | refine dEr ?_ | exact dz)
      refine cP (fun h9 => ?_) (fun h9 => ?_)
      · refine dr ?_
        exact no fun h => h9 ((upC2_0).2 (h.up _ (List.getElem_mem hk')))
      · refine dr ?_
        refine ⟨k + 1, ⟨by omega, fun j h hj => ?_⟩, by omega, ?_⟩
        · by_cases e : j = k
          · subst e; exact ⟨hok, upC2_0.1 h9, fun h => by omega⟩
          · exact ha j h (by omega)
        · refine dr ?_
          trivial


def c_impl_TreeGet : XC := (.s (.r [.ex 4 (.alloc [(.c (.sc (.string ⟨#[]⟩))), (.c (.sc (.bool false))), (.c (.sc (.string ⟨#[]⟩)))]), .ex 5 (.mv .n)]) (.s (.s (.r [.mv 6 0, .ex 7 (.call 98 [(.t 6)]), .ex 8 (.un .not (.t 7))]) (.cnd (.t 8) (.s (.r [.ex 9 (.build [(.c (.sc (.string ⟨#[]⟩))), (.c (.sc (.bool false))), (.c (.sc (.string ⟨#[]⟩)))] []), .nu (.st 3 (.t 4) (.t 9)), .ex 5 (.mv .n)]) .ret) .skip)) (.s (.s (.r [.mv 10 1, .ex 11 (.bin .eql (.t 10) (.s [47]))]) (.cnd (.t 11) (.s (.r [.ex 12 (.build [(.c (.sc (.string ⟨#[]⟩))), (.c (.sc (.bool false))), (.c (.sc (.string ⟨#[]⟩)))] [(0, (1, (.s [47]))), (1, (1, .y))]), .nu (.st 3 (.t 4) (.t 12)), .ex 5 (.mv .y)]) .ret) .skip)) (.s (.r [.mv 13 0, .mv 14 1, .ex 15 (.call 99 [(.t 13), (.t 14)]), .ex 16 (.ext (.t 15) 0), .ex 17 (.ext (.t 15) 1), .nu (.st 3 (.t 4) (.t 16)), .mv 5 17]) .ret))))
theorem c_impl_TreeGet_eq : compF Go.Proofs.Tryz.prog [] 40 = some (c_impl_TreeGet.ac, [(.cell 4 true 3), (.t 5)], 18) := by kernel_rfl

theorem f_impl_TreeGet (W0 : World) (hM : HM W0) (t : List Ent) (p : Str) : Fn Go.Proofs.Tryz.prog W0 40 [eEnts t, CS p] (.c (eEntO (if tOk t = true then get t p else none))) [] := by
  refine fnX (c := c_impl_TreeGet) mixed c_impl_TreeGet_eq (by simp) rfl fun hg => ?_
  refine dEr ?_
  repeat (refine c0 (f_impl_TreeOk W0 hM _) rfl ?_; first | refine dEr ?_ | exact dz)
  refine cP (fun h1 => ?_) (fun h1 => ?_)
  · refine dr ?_
    rw [if_neg (by simp [h1])] <;> rfl
  rw [if_pos h1]
  refine dr ?_
  refine cP (fun h2 => ?_) (fun h2 => ?_)
  · refine dr ?_
    rw [get, if_pos h2] <;> rfl
  have hc := f_entAt W0 t p
  rw [eEntO_eq] at hc
  rw [get, if_neg h2, eEntO_eq]
  refine dEr ?_
  repeat (refine c0 hc rfl ?_; first | refine dEr ?_ | exact dz)
  rfl


def c_impl_belowBare : XC := (.s (.r [.ex 4 (.mv .n)]) (.s (.s (.r [.mv 7 0, .ex 8 (.len false (.t 7)), .ex 9 (.mv (.i 0))]) (.blk 0 (.loop (.s (.r [.ex 10 (.bin .lss (.t 9) (.t 8))]) (.s (.cnd (.t 10) .skip (.exit 0)) (.s (.blk 1 (.s (.r [.ex 11 (.ia 3 (.t 7) (.t 9)), .ex 12 (.ld true 3 (.t 11)), .ex 6 (.alloc [(.c (.sc (.string ⟨#[]⟩))), (.c (.sc (.int .i64 0))), (.c (.sc (.string ⟨#[]⟩)))]), .nu (.st 3 (.t 6) (.t 12))]) (.s (.r [.ex 13 (.fa 1 (.t 6)), .ex 14 (.ld false 1 (.t 13)), .ex 15 (.bin .eql (.t 14) (.i 4)), .mv 16 15, .gt 17 (.mv (.t 1)) 16, .gt 18 (.fa 0 (.t 6)) 16, .gt 19 (.ld false 1 (.t 18)) 16, .gt 20 (.call 216 [(.t 17), (.t 19)]) 16, .ex 21 (.pick (.t 16) (.t 20) .n)]) (.cnd (.t 21) (.s (.r [.ex 4 (.mv .y)]) .ret) .skip)))) (.r [.ex 22 (.bin .add (.t 9) (.i 1)), .mv 9 22]))))))) (.s (.r [.ex 4 (.mv .n)]) .ret)))
theorem c_impl_belowBare_eq : compF Go.Proofs.Tryz.prog [] 147 = some (c_impl_belowBare.ac, [(.t 4)], 23) := by kernel_rfl

def bare2 (l : List Mark) (p : Str) : Bool := l.any fun m => m.kind == 4 && und2 p m.path
theorem f_belowBare (W0 : World) (hM : HM W0) (t : List Mark) (p : Str) : Fn Go.Proofs.Tryz.prog W0 147 [eMarks t, CS p] (.c (CB (bare2 t p))) [] := by
  refine fnX (c := c_impl_belowBare) mixed c_impl_belowBare_eq (by simp) rfl fun hg => ?_
  have g1 := goodRow (hg _ (by simp : eMarks t ∈ _))
  refine dr ?_
  refine lp (σ := Nat) (fun k => [(1, .c (CS p)), (7, .c (eMarks t)), (8, I t.length), (9, I k)]) (fun _ => []) (fun k => k ≤ t.length ∧ bare2 (t.take k) p = false) (fun k => t.length - k) 0 ⟨by simp, by simp [bare2]⟩ ?_ ?_
  · refine dr ?_
    trivial
  rintro k ⟨hk, ha⟩
  refine dr ?_
  refine cP (fun h1 => ?_) (fun h1 => ?_)
  · have hk' : k < t.length := by omega
    have no : (t[k].kind == 4 && und2 p t[k].path) = false → bare2 (t.take (k + 1)) p = false := fun h => by
      rw [bare2] at ha ⊢
      rw [List.take_succ_eq_append_getElem hk', List.any_append, ha]; simpa using h
    have yes : (t[k].kind == 4 && und2 p t[k].path) = true → CB true = CB (bare2 t p) := fun h => bT (by
      rw [bare2, List.any_eq_true]; exact ⟨t[k], List.getElem_mem hk', h⟩)
    refine dr ?_
    refine cP (fun h2 => ?_) (fun h2 => ?_)
    · refine dEr ?_
      repeat (refine c0 (f_impl_PathUnder W0 hM _ _) rfl ?_; first | refine dEr ?_ | exact dz)
      refine cP (fun h3 => ?_) (fun h3 => ?_)
      · refine dr ?_
        exact yes (by simp [h2, h3])
      · refine dr ?_
        refine ⟨k + 1, ⟨by omega, no (by simp [h3])⟩, by omega, ?_⟩
        refine dr ?_
        trivial
    · refine dr ?_
      refine ⟨k + 1, ⟨by omega, no (by simp [h2])⟩, by omega, ?_⟩
      refine dr ?_
      trivial
  · refine dr ?_
    have : k = t.length := by omega
    subst this
    rw [List.take_length] at ha
    rw [ha]
theorem bare2_eq' {l : List Mark} (h : ∀ m ∈ l, pOk m.path = true) {p : Str} (hp : pOk p = true) : bare2 l p = bare l p := by
  rw [Bool.eq_iff_iff, bare2, bare, List.any_eq_true, List.any_eq_true]
  constructor
  · rintro ⟨m, hm, h1⟩; exact ⟨m, hm, by rw [← und2_eq hp (h m hm)]; exact h1⟩
  · rintro ⟨m, hm, h1⟩; exact ⟨m, hm, by rw [und2_eq hp (h m hm)]; exact h1⟩
theorem bare2_eq {l : List Mark} (h : LG l) {p : Str} (hp : pOk p = true) : bare2 l p = bare l p := bare2_eq' (fun _ hm => h.path hm) hp


def c_impl_hides : XC := (.s (.r [.ex 4 (.mv .n)]) (.s (.s (.r [.mv 7 0, .ex 8 (.len false (.t 7)), .ex 9 (.mv (.i 0))]) (.blk 0 (.loop (.s (.r [.ex 10 (.bin .lss (.t 9) (.t 8))]) (.s (.cnd (.t 10) .skip (.exit 0)) (.s (.blk 1 (.s (.r [.ex 11 (.ia 3 (.t 7) (.t 9)), .ex 12 (.ld true 3 (.t 11)), .ex 6 (.alloc [(.c (.sc (.string ⟨#[]⟩))), (.c (.sc (.int .i64 0))), (.c (.sc (.string ⟨#[]⟩)))]), .nu (.st 3 (.t 6) (.t 12))]) (.s (.r [.ex 13 (.fa 1 (.t 6)), .ex 14 (.ld false 1 (.t 13)), .ex 15 (.bin .neq (.t 14) (.i 2)), .mv 16 15, .gt 17 (.fa 0 (.t 6)) 16, .gt 18 (.ld false 1 (.t 17)) 16, .gt 19 (.mv (.t 1)) 16, .gt 20 (.bin .eql (.t 18) (.t 19)) 16, .gt 21 (.mv (.t 20)) 16, .gf 22 (.mv (.t 1)) 21, .gf 23 (.fa 0 (.t 6)) 21, .gf 24 (.ld false 1 (.t 23)) 21, .gf 25 (.call 216 [(.t 22), (.t 24)]) 21, .gt 26 (.pick (.t 21) .y (.t 25)) 16, .ex 27 (.pick (.t 16) (.t 26) .n)]) (.cnd (.t 27) (.s (.r [.ex 4 (.mv .y)]) .ret) .skip)))) (.r [.ex 28 (.bin .add (.t 9) (.i 1)), .mv 9 28]))))))) (.s (.r [.ex 4 (.mv .n)]) .ret)))
theorem c_impl_hides_eq : compF Go.Proofs.Tryz.prog [] 215 = some (c_impl_hides.ac, [(.t 4)], 29) := by kernel_rfl

def hides2 (l : List Mark) (p : Str) : Bool := l.any fun m => m.kind != 2 && (m.path == p || und2 p m.path)
theorem f_impl_hides (W0 : World) (hM : HM W0) (t : List Mark) (p : Str) : Fn Go.Proofs.Tryz.prog W0 215 [eMarks t, CS p] (.c (CB (hides2 t p))) [] := by
  refine fnX (c := c_impl_hides) mixed c_impl_hides_eq (by simp) rfl fun hg => ?_
  have g1 := goodRow (hg _ (by simp : eMarks t ∈ _))
  refine dr ?_
  refine lp (σ := Nat) (fun k => [(1, .c (CS p)), (7, .c (eMarks t)), (8, I t.length), (9, I k)]) (fun _ => []) (fun k => k ≤ t.length ∧ hides2 (t.take k) p = false) (fun k => t.length - k) 0 ⟨by simp, by simp [hides2]⟩ ?_ ?_
  · refine dr ?_
    trivial
  rintro k ⟨hk, ha⟩
  refine dr ?_
  refine cP (fun h1 => ?_) (fun h1 => ?_)
  · have hk' : k < t.length := by omega
    have no : (t[k].kind != 2 && (t[k].path == p || und2 p t[k].path)) = false → hides2 (t.take (k + 1)) p = false := fun h => by
      rw [hides2] at ha ⊢
      rw [List.take_succ_eq_append_getElem hk', List.any_append, ha]; simpa using h
    have yes : (t[k].kind != 2 && (t[k].path == p || und2 p t[k].path)) = true → CB true = CB (hides2 t p) := fun h => bT (by
      rw [hides2, List.any_eq_true]; exact ⟨t[k], List.getElem_mem hk', h⟩)
    refine dr ?_
    refine cP (fun h2 => ?_) (fun h2 => ?_)
    · refine dr ?_
      refine cP (fun h4 => ?_) (fun h4 => ?_)
      · refine dr ?_
        exact yes (by simp [h2, h4])
      · refine dEr ?_
        repeat (refine c0 (f_impl_PathUnder W0 hM _ _) rfl ?_; first | refine dEr ?_ | exact dz)
        refine cP (fun h3 => ?_) (fun h3 => ?_)
        · refine dr ?_
          exact yes (by simp [h2, h3])
        · refine dr ?_
          refine ⟨k + 1, ⟨by omega, no (by simp [h3, h4])⟩, by omega, ?_⟩
          refine dr ?_
          trivial
    · refine dr ?_
      refine ⟨k + 1, ⟨by omega, no (by simp [h2])⟩, by omega, ?_⟩
      refine dr ?_
      trivial
  · refine dr ?_
    have : k = t.length := by omega
    subst this
    rw [List.take_length] at ha
    rw [ha]
theorem hides2_eq {l : List Mark} (h : LG l) {p : Str} (hp : pOk p = true) : hides2 l p = hides l p := by
  rw [Bool.eq_iff_iff, hides2, List.any_eq_true]
  constructor
  · rintro ⟨m, hm, h1⟩
    simp only [Bool.and_eq_true, Bool.or_eq_true, beq_iff_eq, bne_iff_ne] at h1
    rw [und2_eq hp (h.path hm)] at h1
    exact hides_of hm h1.1 h1.2
  · intro h1
    obtain ⟨m, hm, hk, hu⟩ := of_hides h1
    refine ⟨m, hm, ?_⟩
    simp only [Bool.and_eq_true, Bool.or_eq_true, beq_iff_eq, bne_iff_ne]
    rw [und2_eq hp (h.path hm)]
    exact ⟨hk, hu⟩


def c_isDirM : XC := (.s (.r [.ex 1 (.box (.t 0)), .ex 2 (.mv .n)]) (.s (.r [.ex 3 (.fa 1 (.t 1)), .ex 4 (.ld false 1 (.t 3)), .ex 5 (.bin .eql (.t 4) (.i 2)), .mv 6 5, .gf 7 (.fa 1 (.t 1)) 6, .gf 8 (.ld false 1 (.t 7)) 6, .gf 9 (.bin .eql (.t 8) (.i 4)) 6, .ex 10 (.pick (.t 6) .y (.t 9)), .mv 2 10]) .ret))
theorem c_isDirM_eq : compF Go.Proofs.Tryz.prog [] 214 = some (c_isDirM.ac, [(.t 2)], 11) := by kernel_rfl

theorem f_isDirM (W0 : World) (m : Mark) : Fn Go.Proofs.Tryz.prog W0 214 [eMark m] (.c (CB (decide (m.kind = 2 ∨ m.kind = 4)))) [] := by
  refine fnX (c := c_isDirM) mixed c_isDirM_eq (by simp) rfl fun hg => ?_
  refine dr ?_
  refine cP (fun h1 => ?_) (fun h1 => ?_)
  · refine dr ?_
    exact bT (by simp [h1])
  · refine dr ?_
    refine congrArg CB ?_
    rw [Bool.eq_iff_iff]; simp [h1, eqI_d]


def c_impl_markOk : XC := (.s (.r [.ex 1 (.box (.t 0)), .ex 2 (.mv .n)]) (.s (.s (.r [.ex 3 (.fa 1 (.t 1)), .ex 4 (.ld false 1 (.t 3)), .ex 5 (.bin .lss (.t 4) (.i 1)), .mv 6 5, .gf 7 (.fa 1 (.t 1)) 6, .gf 8 (.ld false 1 (.t 7)) 6, .gf 9 (.bin .gtr (.t 8) (.i 4)) 6, .ex 10 (.pick (.t 6) .y (.t 9)), .mv 11 10, .gf 12 (.fa 0 (.t 1)) 11, .gf 13 (.ld false 1 (.t 12)) 11, .gf 14 (.call 112 [(.t 13)]) 11, .gf 15 (.un .not (.t 14)) 11, .ex 16 (.pick (.t 11) .y (.t 15))]) (.cnd (.t 16) (.s (.r [.ex 2 (.mv .n)]) .ret) .skip)) (.s (.s (.r [.ex 17 (.fa 1 (.t 1)), .ex 18 (.ld false 1 (.t 17)), .ex 19 (.bin .neq (.t 18) (.i 1))]) (.cnd (.t 19) (.s (.r [.ex 20 (.fa 2 (.t 1)), .ex 21 (.ld false 1 (.t 20)), .ex 22 (.bin .eql (.t 21) (.s [])), .mv 2 22]) .ret) .skip)) (.s (.r [.ex 23 (.fa 2 (.t 1)), .ex 24 (.ld false 1 (.t 23)), .ex 25 (.call 174 [(.t 24)]), .mv 2 25]) .ret))))
theorem c_impl_markOk_eq : compF Go.Proofs.Tryz.prog [] 213 = some (c_impl_markOk.ac, [(.t 2)], 26) := by kernel_rfl

theorem f_markOk (W0 : World) (hM : HM W0) (m : Mark) : Fn Go.Proofs.Tryz.prog W0 213 [eMark m] (.c (CB (mok m))) [] := by
  refine fnX (c := c_impl_markOk) mixed c_impl_markOk_eq (by simp) rfl fun hg => ?_
  refine dr ?_
  refine cP (fun h1 => ?_) (fun h1 => ?_)
  · refine dr ?_
    exact bF (by simp [mok]; omega)
  refine dr ?_
  refine cP (fun h2 => ?_) (fun h2 => ?_)
  · refine dr ?_
    exact bF (by simp [mok]; omega)
  refine dEr ?_
  repeat (refine c0 (f_impl_PathOk W0 hM _) rfl ?_; first | refine dEr ?_ | exact dz)
  refine cP (fun h3 => ?_) (fun h3 => ?_)
  · refine dr ?_
    exact bF (by simp [mok, h3])
  have hk : (decide (1 ≤ m.kind) && decide (m.kind ≤ 4)) = true := by simp; omega
  refine dr ?_
  refine cP (fun h4 => ?_) (fun h4 => ?_)
  · refine dr ?_
    refine congrArg CB ?_
    rw [mok, hk, h3, Bool.eq_iff_iff]
    simp [h4, eqS_d]
    intro e; rw [e]; rfl
  · refine dEr ?_
    repeat (refine c0 (f_dataOk W0 _) rfl ?_; first | refine dEr ?_ | exact dz)
    refine congrArg CB ?_
    rw [mok, hk, h3, Bool.eq_iff_iff]
    simp [h4]


end Go.Proofs.YthblflnfhdnpdaaGreatDoor

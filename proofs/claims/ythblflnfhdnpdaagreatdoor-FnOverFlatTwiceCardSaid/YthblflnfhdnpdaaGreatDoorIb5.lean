/- Contracts: the program's trees on layers; no condition but one on a package variable that start-up code lays. -/
import Derived.Test.YthblflnfhdnpdaaGreatDoorIb4
import Derived.Test.YthblflnfhdnpdaaGreatDoorBm2
import Derived.Test.YthblflnfhdnpdaaGreatDoorQa9
namespace Go.Proofs.YthblflnfhdnpdaaGreatDoor
set_option linter.unusedSimpArgs false
set_option linter.unusedVariables false
open Go Go.RowKit

def oTrees (o : Over) : Option (List Ent × List Ent) := match lower4 o with
  | none => none
  | some t => match lOn o.upper t with
    | none => none
    | some x => if o.upper = diff t x then some (t, x) else none
def eOT : Option (List Ent × List Ent) → CV
  | none => .tup [eEnts [], eEnts [], CB false]
  | some x => .tup [eEnts x.1, eEnts x.2, CB true]
theorem oTrees_ok {o : Over} : oOk o = (oTrees o).isSome := by
  unfold oOk oTrees view4
  cases lower4 o with
  | none => rfl
  | some t =>
    simp only
    cases lOn o.upper t with
    | none => rfl
    | some x =>
      simp only
      by_cases h : o.upper = diff t x
      · rw [if_pos h]; simp [h]
      · rw [if_neg h]; simp [h]
theorem oTrees_some {o : Over} {t x : List Ent} (h : oTrees o = some (t, x)) : oOk o = true ∧ lower4 o = some t ∧ view4 o = some x ∧ o.upper = diff t x := by
  refine ⟨by rw [oTrees_ok, h]; rfl, ?_⟩
  unfold oTrees at h
  split at h
  · cases h
  · rename_i t' h1
    split at h
    · cases h
    · rename_i x' h2
      split at h
      · rename_i h3; cases h; exact ⟨h1, by rw [view4, h1]; exact h2, h3⟩
      · cases h

def c_impl_overTrees : XC := (.s (.r [.ex 1 (.box (.t 0)), .ex 2 (.asn (.k .nil) 3 59), .ex 3 (.asn (.k .nil) 3 59), .ex 4 (.mv .n)]) (.s (.s (.r [.ex 12 (.fa 0 (.t 1)), .ex 13 (.ld false 1 (.t 12)), .ex 14 (.call 98 [(.t 13)]), .ex 15 (.un .not (.t 14)), .mv 16 15, .gf 17 (.fa 1 (.t 1)) 16, .gf 18 (.ld false 1 (.t 17)) 16, .gf 19 (.len false (.t 18)) 16, .gf 20 (.bin .gtr (.t 19) (.i 4)) 16, .ex 21 (.pick (.t 16) .y (.t 20))]) (.cnd (.t 21) (.s (.r [.ex 2 (.asn (.k .nil) 3 59), .ex 3 (.asn (.k .nil) 3 59), .ex 4 (.mv .n)]) .ret) .skip)) (.s (.r [.ex 22 (.fa 0 (.t 1)), .ex 23 (.ld false 1 (.t 22)), .ex 24 (.call 144 [(.t 23)]), .ex 5 (.asn (.t 24) 3 59)]) (.s (.s (.r [.ex 25 (.fa 1 (.t 1)), .ex 26 (.ld false 1 (.t 25)), .ex 27 (.len false (.t 26)), .ex 28 (.mv (.i 0))]) (.blk 0 (.loop (.s (.r [.ex 29 (.bin .lss (.t 28) (.t 27))]) (.s (.cnd (.t 29) .skip (.exit 0)) (.s (.blk 1 (.s (.r [.ex 30 (.ia 1 (.t 26) (.t 28)), .ex 31 (.ld false 1 (.t 30)), .ex 7 (.asn (.t 31) 3 49)]) (.s (.r [.mv 33 7, .mv 34 5, .ex 35 (.call 152 [(.t 33), (.t 34)]), .mv 32 35, .ex 36 (.ext (.t 32) 0), .ex 37 (.ext (.t 32) 1), .ex 8 (.asn (.t 36) 3 59), .mv 9 37]) (.s (.s (.r [.mv 38 9, .ex 39 (.un .not (.t 38))]) (.cnd (.t 39) (.s (.r [.ex 2 (.asn (.k .nil) 3 59), .ex 3 (.asn (.k .nil) 3 59), .ex 4 (.mv .n)]) .ret) .skip)) (.r [.mv 40 8, .ex 5 (.asn (.t 40) 3 59)]))))) (.r [.ex 41 (.bin .add (.t 28) (.i 1)), .mv 28 41]))))))) (.s (.r [.ex 43 (.fa 2 (.t 1)), .ex 44 (.ld false 1 (.t 43)), .mv 45 5, .ex 46 (.call 152 [(.t 44), (.t 45)]), .mv 42 46, .ex 47 (.ext (.t 42) 0), .ex 48 (.ext (.t 42) 1), .ex 10 (.asn (.t 47) 3 59), .mv 11 48]) (.s (.s (.d [.mv 49 11, .ex 50 (.un .not (.t 49)), .mv 51 50, .gf 52 (.fa 2 (.t 1)) 51, .gf 53 (.ld false 1 (.t 52)) 51, .gf 54 (.mv (.t 5)) 51, .gf 55 (.mv (.t 10)) 51, .gf 56 (.call 69 [(.t 54), (.t 55)]) 51, .gf 57 (.call 28 [(.t 53), (.t 56)]) 51, .gf 58 (.un .not (.t 57)) 51, .ex 59 (.pick (.t 51) .y (.t 58))]) (.cnd (.t 59) (.s (.r [.ex 2 (.asn (.k .nil) 3 59), .ex 3 (.asn (.k .nil) 3 59), .ex 4 (.mv .n)]) .ret) .skip)) (.s (.r [.mv 60 5, .mv 61 10, .ex 2 (.asn (.t 60) 3 59), .ex 3 (.asn (.t 61) 3 59), .ex 4 (.mv .y)]) .ret)))))))
theorem c_impl_overTrees_eq : compF Go.Proofs.Tryz.prog [] 66 = some (c_impl_overTrees.ac, [(.t 2), (.t 3), (.t 4)], 62) := by kernel_rfl

theorem f_overTrees (W0 : World) (hM : HM W0) (o : Over) : Fn Go.Proofs.Tryz.prog W0 66 [eOver o] (.c (eOT (oTrees o))) [] := by
  refine fnX (c := c_impl_overTrees) mixed c_impl_overTrees_eq (by simp) rfl fun hg => ?_
  have no : lower4 o = none → CV.tup [eEnts [], eEnts [], CB false] = eOT (oTrees o) := fun h => by rw [oTrees, h]; rfl
  refine dEr ?_
  repeat (refine c0 (f_impl_TreeOk W0 hM _) rfl ?_; first | refine dEr ?_ | exact dz)
  refine cP (fun h1 => ?_) (fun h1 => ?_)
  · refine dr ?_
    repeat (refine oB (by simp) ?_; first | refine dr ?_ | exact dz)
    exact no (by rw [lower4, if_neg (by simp [h1])])
  refine dr ?_
  refine cP (fun h2 => ?_) (fun h2 => ?_)
  · refine dr ?_
    repeat (refine oB (by simp) ?_; first | refine dr ?_ | exact dz)
    exact no (by rw [lower4, if_neg (by omega)])
  have hl4 : lower4 o = lowerA o.layers o.base := by rw [lower4, if_pos ⟨h1, by omega⟩]
  have hbl := (tOk_at h1).1
  refine dEr ?_
  repeat (refine c0 (f_copyEnts W0 _ (by omega)) rfl ?_; first | refine dEr ?_ | exact dz)
  refine lp2 (fun (k : Nat) (t : List Ent) => [(1, .ptr 16 0), (5, .c (eEnts t)), (26, .c (eMarkss o.layers)), (27, I o.layers.length), (28, I k)]) (fun _ _ => [(16, .box [.c (eEnts o.base), .c (eMarkss o.layers), .c (eMarks o.upper)]), (32, .row [] 3 59), (48, .row [] 3 59)]) (fun k t => k ≤ o.layers.length ∧ lowerA (o.layers.take k) o.base = some t ∧ tOk t = true) (fun k _ => o.layers.length - k) 0 o.base ⟨by simp, rfl, h1⟩ ?_ ?_
  · refine dr ?_
    trivial
  rintro k t ⟨hk, ha, ht⟩
  refine dr ?_
  refine cP (fun h3 => ?_) (fun h3 => ?_)
  · have hk' : k < o.layers.length := by omega
    have hn : lowerA (o.layers.take (k + 1)) o.base = lOn o.layers[k] t := by
      rw [List.take_succ_eq_append_getElem hk', lowerA_app, ha]
      simp only [lowerA]
      cases lOn o.layers[k] t <;> rfl
    have hc := f_impl_LayerOn W0 hM o.layers[k] t
    cases hx : lOn o.layers[k] t with
    | none =>
      rw [hx] at hc
      refine dEr ?_
      repeat ((first | refine c0 hc rfl ?_ | refine oB (by simp) ?_); first | refine dEr ?_ | exact dz)
      refine no ?_
      have e : o.layers = o.layers.take (k + 1) ++ o.layers.drop (k + 1) := by rw [List.take_append_drop]
      rw [hl4, e, lowerA_app, hn, hx]
    | some t' =>
      rw [hx] at hc
      refine dEr ?_
      repeat (refine c0 hc rfl ?_; first | refine dEr ?_ | exact dz)
      refine ⟨k + 1, t', ⟨by omega, by rw [hn, hx], lOn_tOk hx⟩, by omega, ?_⟩
      refine dr ?_
      trivial
  have hkl : k = o.layers.length := by omega
  rw [hkl, List.take_length] at ha
  have hl4' : lower4 o = some t := by rw [hl4, ha]
  have hc := f_impl_LayerOn W0 hM o.upper t
  have e : oTrees o = match lOn o.upper t with
    | none => none
    | some x => if o.upper = diff t x then some (t, x) else none := by rw [oTrees, hl4']
  rw [e]
  cases hx : lOn o.upper t with
  | none =>
    rw [hx] at hc
    refine dEr ?_
    repeat ((first | refine c0 hc rfl ?_ | refine oB (by simp) ?_); first | refine dEr ?_ | exact dz)
    try rfl
  | some x =>
    rw [hx] at hc
    have hd := f_impl_LayerDiff W0 hM t x
    rw [diffO, if_pos (by simp [ht, lOn_tOk hx])] at hd
    refine dEr ?_
    repeat ((first | refine c0 hc rfl ?_ | refine c0 hd rfl ?_ | refine c0 (f_impl_MarksSame W0 _ _) rfl ?_); first | refine dEr ?_ | exact dz)
    refine cP (fun h4 => ?_) (fun h4 => ?_)
    · refine dr ?_
      repeat (refine oB (by simp) ?_; first | refine dr ?_ | exact dz)
      show _ = eOT (if o.upper = diff t x then some (t, x) else none)
      rw [if_neg h4] <;> rfl
    · refine dr ?_
      repeat (refine oB (by simp) ?_; first | refine dr ?_ | exact dz)
      show _ = eOT (if o.upper = diff t x then some (t, x) else none)
      rw [if_pos h4] <;> rfl


def c_impl_OverOk : XC := (.s (.r [.ex 1 (.box (.t 0)), .ex 2 (.mv .n)]) (.s (.r [.ex 7 (.ld true 3 (.t 1)), .ex 8 (.call 66 [(.t 7)]), .mv 6 8, .ex 9 (.ext (.t 6) 0), .ex 10 (.ext (.t 6) 1), .ex 11 (.ext (.t 6) 2), .ex 3 (.asn (.t 9) 3 59), .ex 4 (.asn (.t 10) 3 59), .mv 5 11]) (.s (.r [.mv 12 5, .mv 2 12]) .ret)))
theorem c_impl_OverOk_eq : compF Go.Proofs.Tryz.prog [] 27 = some (c_impl_OverOk.ac, [(.t 2)], 13) := by kernel_rfl

theorem f_impl_OverOk (W0 : World) (hM : HM W0) (o : Over) : Fn Go.Proofs.Tryz.prog W0 27 [eOver o] (.c (CB (oOk o))) [] := by
  refine fnX (c := c_impl_OverOk) mixed c_impl_OverOk_eq (by simp) rfl fun hg => ?_
  have hc := f_overTrees W0 hM o
  cases hx : oTrees o with
  | none =>
    rw [hx] at hc
    refine dEr ?_
    repeat (refine c0 hc rfl ?_; first | refine dEr ?_ | exact dz)
    rw [oTrees_ok, hx] <;> rfl
  | some x =>
    rw [hx] at hc
    refine dEr ?_
    repeat (refine c0 hc rfl ?_; first | refine dEr ?_ | exact dz)
    rw [oTrees_ok, hx] <;> rfl


def c_impl_OverView : XC := (.s (.r [.ex 1 (.box (.t 0)), .ex 2 (.asn (.k .nil) 3 59), .ex 3 (.mv .n)]) (.s (.r [.ex 8 (.ld true 3 (.t 1)), .ex 9 (.call 66 [(.t 8)]), .mv 7 9, .ex 10 (.ext (.t 7) 0), .ex 11 (.ext (.t 7) 1), .ex 12 (.ext (.t 7) 2), .ex 4 (.asn (.t 10) 3 59), .ex 5 (.asn (.t 11) 3 59), .mv 6 12]) (.s (.r [.mv 13 5, .mv 14 6, .ex 2 (.asn (.t 13) 3 59), .mv 3 14]) .ret)))
theorem c_impl_OverView_eq : compF Go.Proofs.Tryz.prog [] 26 = some (c_impl_OverView.ac, [(.t 2), (.t 3)], 15) := by kernel_rfl

theorem f_impl_OverView (W0 : World) (hM : HM W0) (o : Over) : Fn Go.Proofs.Tryz.prog W0 26 [eOver o] (.c (eEntsO (if oOk o = true then view4 o else none))) [] := by
  refine fnX (c := c_impl_OverView) mixed c_impl_OverView_eq (by simp) rfl fun hg => ?_
  have hc := f_overTrees W0 hM o
  cases hx : oTrees o with
  | none =>
    rw [hx] at hc
    refine dEr ?_
    repeat (refine c0 hc rfl ?_; first | refine dEr ?_ | exact dz)
    rw [oTrees_ok, hx] <;> rfl
  | some x =>
    obtain ⟨t, x⟩ := x
    obtain ⟨h1, h2, h3, _⟩ := oTrees_some hx
    rw [hx] at hc
    refine dEr ?_
    repeat (refine c0 hc rfl ?_; first | refine dEr ?_ | exact dz)
    rw [if_pos h1, h3] <;> rfl


def c_impl_OverLower : XC := (.s (.r [.ex 1 (.box (.t 0)), .ex 2 (.asn (.k .nil) 3 59), .ex 3 (.mv .n)]) (.s (.r [.ex 8 (.ld true 3 (.t 1)), .ex 9 (.call 66 [(.t 8)]), .mv 7 9, .ex 10 (.ext (.t 7) 0), .ex 11 (.ext (.t 7) 1), .ex 12 (.ext (.t 7) 2), .ex 4 (.asn (.t 10) 3 59), .ex 5 (.asn (.t 11) 3 59), .mv 6 12]) (.s (.r [.mv 13 4, .mv 14 6, .ex 2 (.asn (.t 13) 3 59), .mv 3 14]) .ret)))
theorem c_impl_OverLower_eq : compF Go.Proofs.Tryz.prog [] 22 = some (c_impl_OverLower.ac, [(.t 2), (.t 3)], 15) := by kernel_rfl

theorem f_impl_OverLower (W0 : World) (hM : HM W0) (o : Over) : Fn Go.Proofs.Tryz.prog W0 22 [eOver o] (.c (eEntsO (if oOk o = true then lower4 o else none))) [] := by
  refine fnX (c := c_impl_OverLower) mixed c_impl_OverLower_eq (by simp) rfl fun hg => ?_
  have hc := f_overTrees W0 hM o
  cases hx : oTrees o with
  | none =>
    rw [hx] at hc
    refine dEr ?_
    repeat (refine c0 hc rfl ?_; first | refine dEr ?_ | exact dz)
    rw [oTrees_ok, hx] <;> rfl
  | some x =>
    obtain ⟨t, x⟩ := x
    obtain ⟨h1, h2, h3, _⟩ := oTrees_some hx
    rw [hx] at hc
    refine dEr ?_
    repeat (refine c0 hc rfl ?_; first | refine dEr ?_ | exact dz)
    rw [if_pos h1, h2] <;> rfl


end Go.Proofs.YthblflnfhdnpdaaGreatDoor

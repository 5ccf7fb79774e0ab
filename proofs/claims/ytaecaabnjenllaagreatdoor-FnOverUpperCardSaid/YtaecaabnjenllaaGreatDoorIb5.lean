/- Contracts: the program's trees on layers; no condition but one on a package variable that start-up code lays. -/
import Derived.Test.YtaecaabnjenllaaGreatDoorIb4
import Derived.Test.YtaecaabnjenllaaGreatDoorBm2
import Derived.Test.YtaecaabnjenllaaGreatDoorQa9
namespace Go.Proofs.YtaecaabnjenllaaGreatDoor
set_option linter.unusedSimpArgs false
set_option linter.unusedVariables false
open Go Go.RowKit

def oTrees (o : Over) : Option (List Ent × List Ent) := match lower4 o with
  | none => none
  | some t => match lOn o.upper t with
    | none => none
    | some x => if o.upper = diff t x then some (t, x) else none
def eOT : Option (List Ent × List Ent) → CV
  | none => .tup [eEnts [], eEnts [], CB false]
  | some x => .tup [eEnts x.1, eEnts x.2, CB true]
theorem oTrees_ok {o : Over} : oOk o = (oTrees o).isSome := by
  unfold oOk oTrees view4
  cases lower4 o with
  | none => rfl
  | some t =>
    simp only
    cases lOn o.upper t with
    | none => rfl
    | some x =>
      simp only
      by_cases h : o.upper = diff t x
      · rw [if_pos h]; simp [h]
      · rw [if_neg h]; simp [h]
theorem oTrees_some {o : Over} {t x : List Ent} (h : oTrees o = some (t, x)) : oOk o = true ∧ lower4 o = some t ∧ view4 o = some x ∧ o.upper = diff t x := by
  refine ⟨by rw [oTrees_ok, h]; rfl, ?_⟩
  unfold oTrees at h
  split at h
  · cases h
  · rename_i t' h1
    split at h
    · cases h
    · rename_i x' h2
      split at h
      · rename_i h3; cases h; exact ⟨h1, by rw [view4, h1]; exact h2, h3⟩
      · cases h

def c_impl_overTrees : XC := (.s (.r [.ex 1 (.box (.t 0)), .ex 2 (.asn (.k .nil) 3 44), .ex 3 (.asn (.k .nil) 3 44), .ex 4 (.mv .n)]) (.s (.s (.r [.ex 12 (.fa 0 (.t 1)), .ex 13 (.ld false 1 (.t 12)), .ex 14 (.call 50 [(.t 13)]), .ex 15 (.un .not (.t 14)), .mv 16 15, .gf 17 (.fa 1 (.t 1)) 16, .gf 18 (.ld false 1 (.t 17)) 16, .gf 19 (.len false (.t 18)) 16, .gf 20 (.bin .gtr (.t 19) (.i 4)) 16, .ex 21 (.pick (.t 16) .y (.t 20))]) (.cnd (.t 21) (.s (.r [.ex 2 (.asn (.k .nil) 3 44), .ex 3 (.asn (.k .nil) 3 44), .ex 4 (.mv .n)]) .ret) .skip)) (.s (.r [.ex 22 (.fa 0 (.t 1)), .ex 23 (.ld false 1 (.t 22)), .ex 24 (.call 79 [(.t 23)]), .ex 5 (.asn (.t 24) 3 44)]) (.s (.s (.r [.ex 25 (.fa 1 (.t 1)), .ex 26 (.ld false 1 (.t 25)), .ex 27 (.len false (.t 26)), .ex 28 (.mv (.i 0))]) (.blk 0 (.loop (.s (.r [.ex 29 (.bin .lss (.t 28) (.t 27))]) (.s (.cnd (.t 29) .skip (.exit 0)) (.s (.blk 1 (.s (.r [.ex 30 (.ia 1 (.t 26) (.t 28)), .ex 31 (.ld false 1 (.t 30)), .ex 7 (.asn (.t 31) 3 66)]) (.s (.r [.mv 33 7, .mv 34 5, .ex 35 (.call 18 [(.t 33), (.t 34)]), .mv 32 35, .ex 36 (.ext (.t 32) 0), .ex 37 (.ext (.t 32) 1), .ex 8 (.asn (.t 36) 3 44), .mv 9 37]) (.s (.s (.r [.mv 38 9, .ex 39 (.un .not (.t 38))]) (.cnd (.t 39) (.s (.r [.ex 2 (.asn (.k .nil) 3 44), .ex 3 (.asn (.k .nil) 3 44), .ex 4 (.mv .n)]) .ret) .skip)) (.r [.mv 40 8, .ex 5 (.asn (.t 40) 3 44)]))))) (.r [.ex 41 (.bin .add (.t 28) (.i 1)), .mv 28 41]))))))) (.s (.r [.ex 43 (.fa 2 (.t 1)), .ex 44 (.ld false 1 (.t 43)), .mv 45 5, .ex 46 (.call 18 [(.t 44), (.t 45)]), .mv 42 46, .ex 47 (.ext (.t 42) 0), .ex 48 (.ext (.t 42) 1), .ex 10 (.asn (.t 47) 3 44), .mv 11 48]) (.s (.s (.d [.mv 49 11, .ex 50 (.un .not (.t 49)), .mv 51 50, .gf 52 (.fa 2 (.t 1)) 51, .gf 53 (.ld false 1 (.t 52)) 51, .gf 54 (.mv (.t 5)) 51, .gf 55 (.mv (.t 10)) 51, .gf 56 (.call 20 [(.t 54), (.t 55)]) 51, .gf 57 (.call 19 [(.t 53), (.t 56)]) 51, .gf 58 (.un .not (.t 57)) 51, .ex 59 (.pick (.t 51) .y (.t 58))]) (.cnd (.t 59) (.s (.r [.ex 2 (.asn (.k .nil) 3 44), .ex 3 (.asn (.k .nil) 3 44), .ex 4 (.mv .n)]) .ret) .skip)) (.s (.r [.mv 60 5, .mv 61 10, .ex 2 (.asn (.t 60) 3 44), .ex 3 (.asn (.t 61) 3 44), .ex 4 (.mv .y)]) .ret)))))))
theorem c_impl_overTrees_eq : compF Go.Proofs.Tryz.prog [] 45 = some (c_impl_overTrees.ac, [(.t 2), (.t 3), (.t 4)], 62) := by kernel_rfl

theorem f_overTrees (W0 : World) (hM : HM W0) (o : Over) : Fn Go.Proofs.Tryz.prog W0 45 [eOver o] (.c (eOT (oTrees o))) [] := by
  refine fnX (c := c_impl_overTrees) mixed c_impl_overTrees_eq (by simp) rfl fun hg => ?_
  have no : lower4 o = none → CV.tup [eEnts [], eEnts [], CB false] = eOT (oTrees o) := fun h => by rw [oTrees, h]; rfl
  refine dEr ?_
  repeat (refine c0 (f_impl_TreeOk W0 hM _) rfl ?_; first | refine dEr ?_ | exact dz)
  refine cP (fun h1 => ?_) (fun h1 => ?_)
  · refine dr ?_
    repeat (refine oB (by simp) ?_; first | refine dr ?_ | exact dz)
    exact no (by rw [lower4, if_neg (by simp [h1])])
  refine dr ?_
  refine cP (fun h2 => ?_) (fun h2 => ?_)
  · refine dr ?_
    repeat (refine oB (by simp) ?_; first | refine dr ?_ | exact dz)
    exact no (by rw [lower4, if_neg (by omega)])
  have hl4 : lower4 o = lowerA o.layers o.base := by rw [lower4, if_pos ⟨h1, by omega⟩]
  have hbl := (tOk_at h1).1
  refine dEr ?_
  repeat (refine c0 (f_copyEnts W0 _ (by omega)) rfl ?_; first | refine dEr ?_ | exact dz)
  refine lp2 (fun (k : Nat) (t : List Ent) => [(1, .ptr 16 0), (5, .c (eEnts t)), (26, .c (eMarkss o.layers)), (27, I o.layers.length), (28, I k)]) (fun _ _ => [(16, .box [.c (eEnts o.base), .c (eMarkss o.layers), .c (eMarks o.upper)]), (32, .row [] 3 44), (48, .row [] 3 44)]) (fun k t => k ≤ o.layers.length ∧ lowerA (o.layers.take k) o.base = some t ∧ tOk t = true) (fun k _ => o.layers.length - k) 0 o.base ⟨by simp, rfl, h1⟩ ?_ ?_
  · refine dr ?_
    trivial
  rintro k t ⟨hk, ha, ht⟩
  refine dr ?_
  refine cP (fun h3 => ?_) (fun h3 => ?_)
  · have hk' : k < o.layers.length := by omega
    have hn : lowerA (o.layers.take (k + 1)) o.base = lOn o.layers[k] t := by
      rw [List.take_succ_eq_append_getElem hk', lowerA_app, ha]
      simp only [lowerA]
      cases lOn o.layers[k] t <;> rfl
    have hc := f_impl_LayerOn W0 hM o.layers[k] t
    cases hx : lOn o.layers[k] t with
    | none =>
      rw [hx] at hc
      refine dEr ?_
      repeat ((first | refine c0 hc rfl ?_ | refine oB (by simp) ?_); first | refine dEr ?_ | exact dz)
      refine no ?_
      have e : o.layers = o.layers.take (k + 1) ++ o.layers.drop (k + 1) := by rw [List.take_append_drop]
      rw [hl4, e, lowerA_app, hn, hx]
    | some t' =>
      rw [hx] at hc
      refine dEr ?_
      repeat (refine c0 hc rfl ?_; first | refine dEr ?_ | exact dz)
      refine ⟨k + 1, t', ⟨by omega, by rw [hn, hx], lOn_tOk hx⟩, by omega, ?_⟩
      refine dr ?_
      trivial
  have hkl : k = o.layers.length := by omega
  rw [hkl, List.take_length] at ha
  have hl4' : lower4 o = some t := by rw [hl4, ha]
  have hc := f_impl_LayerOn W0 hM o.upper t
  have e : oTrees o = match lOn o.upper t with
    | none => none
    | some x => if o.upper = diff t x then some (t, x) else none := by rw [oTrees, hl4']
  rw [e]
  cases hx : lOn o.upper t with
  | none =>
    rw [hx] at hc
    refine dEr ?_
    repeat ((first | refine c0 hc rfl ?_ | refine oB (by simp) ?_); first | refine dEr ?_ | exact dz)
    try rfl
  | some x =>
    rw [hx] at hc
    have hd := f_impl_LayerDiff W0 hM t x
    rw [diffO, if_pos (by simp [ht, lOn_tOk hx])] at hd
    refine dEr ?_
    repeat ((first | refine c0 hc rfl ?_ | refine c0 hd rfl ?_ | refine c0 (f_impl_MarksSame W0 _ _) rfl ?_); first | refine dEr ?_ | exact dz)
    refine cP (fun h4 => ?_) (fun h4 => ?_)
    · refine dr ?_
      repeat (refine oB (by simp) ?_; first | refine dr ?_ | exact dz)
      show _ = eOT (if o.upper = diff t x then some (t, x) else none)
      rw [if_neg h4] <;> rfl
    · refine dr ?_
      repeat (refine oB (by simp) ?_; first | refine dr ?_ | exact dz)
      show _ = eOT (if o.upper = diff t x then some (t, x) else none)
      rw [if_pos h4] <;> rfl


def c_impl_OverOk : XC := (.s (.r [.ex 1 (.box (.t 0)), .ex 2 (.mv .n)]) (.s (.r [.ex 7 (.ld true 3 (.t 1)), .ex 8 (.call 45 [(.t 7)]), .mv 6 8, .ex 9 (.ext (.t 6) 0), .ex 10 (.ext (.t 6) 1), .ex 11 (.ext (.t 6) 2), .ex 3 (.asn (.t 9) 3 44), .ex 4 (.asn (.t 10) 3 44), .mv 5 11]) (.s (.r [.mv 12 5, .mv 2 12]) .ret)))
theorem c_impl_OverOk_eq : compF Go.Proofs.Tryz.prog [] 29 = some (c_impl_OverOk.ac, [(.t 2)], 13) := by kernel_rfl

theorem f_impl_OverOk (W0 : World) (hM : HM W0) (o : Over) : Fn Go.Proofs.Tryz.prog W0 29 [eOver o] (.c (CB (oOk o))) [] := by
  refine fnX (c := c_impl_OverOk) mixed c_impl_OverOk_eq (by simp) rfl fun hg => ?_
  have hc := f_overTrees W0 hM o
  cases hx : oTrees o with
  | none =>
    rw [hx] at hc
    refine dEr ?_
    repeat (refine c0 hc rfl ?_; first | refine dEr ?_ | exact dz)
    rw [oTrees_ok, hx] <;> rfl
  | some x =>
    rw [hx] at hc
    refine dEr ?_
    repeat (refine c0 hc rfl ?_; first | refine dEr ?_ | exact dz)
    rw [oTrees_ok, hx] <;> rfl


def c_impl_OverView : XC := (.s (.r [.ex 1 (.box (.t 0)), .ex 2 (.asn (.k .nil) 3 44), .ex 3 (.mv .n)]) (.s (.r [.ex 8 (.ld true 3 (.t 1)), .ex 9 (.call 45 [(.t 8)]), .mv 7 9, .ex 10 (.ext (.t 7) 0), .ex 11 (.ext (.t 7) 1), .ex 12 (.ext (.t 7) 2), .ex 4 (.asn (.t 10) 3 44), .ex 5 (.asn (.t 11) 3 44), .mv 6 12]) (.s (.r [.mv 13 5, .mv 14 6, .ex 2 (.asn (.t 13) 3 44), .mv 3 14]) .ret)))
theorem c_impl_OverView_eq : compF Go.Proofs.Tryz.prog [] 13 = some (c_impl_OverView.ac, [(.t 2), (.t 3)], 15) := by kernel_rfl

theorem f_impl_OverView (W0 : World) (hM : HM W0) (o : Over) : Fn Go.Proofs.Tryz.prog W0 13 [eOver o] (.c (eEntsO (if oOk o = true then view4 o else none))) [] := by
  refine fnX (c := c_impl_OverView) mixed c_impl_OverView_eq (by simp) rfl fun hg => ?_
  have hc := f_overTrees W0 hM o
  cases hx : oTrees o with
  | none =>
    rw [hx] at hc
    refine dEr ?_
    repeat (refine c0 hc rfl ?_; first | refine dEr ?_ | exact dz)
    rw [oTrees_ok, hx] <;> rfl
  | some x =>
    obtain ⟨t, x⟩ := x
    obtain ⟨h1, h2, h3, _⟩ := oTrees_some hx
    rw [hx] at hc
    refine dEr ?_
    repeat (refine c0 hc rfl ?_; first | refine dEr ?_ | exact dz)
    rw [if_pos h1, h3] <;> rfl


def c_impl_OverLower : XC := (.s (.r [.ex 1 (.box (.t 0)), .ex 2 (.asn (.k .nil) 3 44), .ex 3 (.mv .n)]) (.s (.r [.ex 8 (.ld true 3 (.t 1)), .ex 9 (.call 45 [(.t 8)]), .mv 7 9, .ex 10 (.ext (.t 7) 0), .ex 11 (.ext (.t 7) 1), .ex 12 (.ext (.t 7) 2), .ex 4 (.asn (.t 10) 3 44), .ex 5 (.asn (.t 11) 3 44), .mv 6 12]) (.s (.r [.mv 13 4, .mv 14 6, .ex 2 (.asn (.t 13) 3 44), .mv 3 14]) .ret)))
theorem c_impl_OverLower_eq : compF Go.Proofs.Tryz.prog [] 16 = some (c_impl_OverLower.ac, [(.t 2), (.t 3)], 15) := by kernel_rfl

theorem f_impl_OverLower (W0 : World) (hM : HM W0) (o : Over) : Fn Go.Proofs.Tryz.prog W0 16 [eOver o] (.c (eEntsO (if oOk o = true then lower4 o else none))) [] := by
  refine fnX (c := c_impl_OverLower) mixed c_impl_OverLower_eq (by simp) rfl fun hg => ?_
  have hc := f_overTrees W0 hM o
  cases hx : oTrees o with
  | none =>
    rw [hx] at hc
    refine dEr ?_
    repeat (refine c0 hc rfl ?_; first | refine dEr ?_ | exact dz)
    rw [oTrees_ok, hx] <;> rfl
  | some x =>
    obtain ⟨t, x⟩ := x
    obtain ⟨h1, h2, h3, _⟩ := oTrees_some hx
    rw [hx] at hc
    refine dEr ?_
    repeat (refine c0 hc rfl ?_; first | refine dEr ?_ | exact dz)
    rw [if_pos h1, h2] <;> rfl


def c_impl_OverGet : XC := (.s (.r [.ex 2 (.box (.t 0)), .ex 4 (.alloc [(.c (.sc (.string ⟨#[]⟩))), (.c (.sc (.bool false))), (.c (.sc (.string ⟨#[]⟩)))]), .ex 5 (.mv (.i 0)), .ex 6 (.mv .n)]) (.s (.r [.ex 19 (.ld true 3 (.t 2)), .ex 20 (.call 13 [(.t 19)]), .mv 18 20, .ex 21 (.ext (.t 18) 0), .ex 22 (.ext (.t 18) 1), .ex 7 (.asn (.t 21) 3 44), .mv 8 22]) (.s (.s (.r [.mv 23 8, .ex 24 (.un .not (.t 23))]) (.cnd (.t 24) (.s (.r [.ex 25 (.build [(.c (.sc (.string ⟨#[]⟩))), (.c (.sc (.bool false))), (.c (.sc (.string ⟨#[]⟩)))] []), .nu (.st 3 (.t 4) (.t 25)), .ex 5 (.mv (.i 0)), .ex 6 (.mv .n)]) .ret) .skip)) (.s (.r [.mv 27 7, .mv 28 1, .ex 29 (.call 33 [(.t 27), (.t 28)]), .mv 26 29, .ex 30 (.ext (.t 26) 0), .ex 31 (.ext (.t 26) 1), .ex 9 (.alloc [(.c (.sc (.string ⟨#[]⟩))), (.c (.sc (.bool false))), (.c (.sc (.string ⟨#[]⟩)))]), .nu (.st 3 (.t 9) (.t 30)), .mv 10 31]) (.s (.s (.r [.mv 32 10, .ex 33 (.un .not (.t 32))]) (.cnd (.t 33) (.s (.r [.ex 34 (.build [(.c (.sc (.string ⟨#[]⟩))), (.c (.sc (.bool false))), (.c (.sc (.string ⟨#[]⟩)))] []), .nu (.st 3 (.t 4) (.t 34)), .ex 5 (.mv (.i 0)), .ex 6 (.mv .n)]) .ret) .skip)) (.s (.r [.ex 11 (.mv (.i 0))]) (.s (.s (.r [.ex 35 (.fa 1 (.t 2)), .ex 36 (.ld false 1 (.t 35)), .ex 37 (.len false (.t 36)), .ex 38 (.mv (.i 0))]) (.blk 0 (.loop (.s (.r [.ex 39 (.bin .lss (.t 38) (.t 37))]) (.s (.cnd (.t 39) .skip (.exit 0)) (.s (.blk 1 (.s (.r [.mv 40 38, .ex 41 (.ia 1 (.t 36) (.t 38)), .ex 42 (.ld false 1 (.t 41)), .mv 12 40, .ex 13 (.asn (.t 42) 3 66)]) (.s (.r [.mv 44 13, .mv 45 1, .ex 46 (.call 51 [(.t 44), (.t 45)]), .mv 43 46, .ex 47 (.ext (.t 43) 0), .ex 48 (.ext (.t 43) 1), .ex 14 (.alloc [(.c (.sc (.string ⟨#[]⟩))), (.c (.sc (.int .i64 0))), (.c (.sc (.string ⟨#[]⟩)))]), .nu (.st 3 (.t 14) (.t 47)), .mv 15 48]) (.s (.r [.mv 49 15]) (.cnd (.t 49) (.r [.mv 50 12, .ex 51 (.bin .add (.t 50) (.i 1)), .mv 11 51]) .skip))))) (.r [.ex 52 (.bin .add (.t 38) (.i 1)), .mv 38 52]))))))) (.s (.s (.r [.ex 54 (.fa 2 (.t 2)), .ex 55 (.ld false 1 (.t 54)), .mv 56 1, .ex 57 (.call 51 [(.t 55), (.t 56)]), .mv 53 57, .ex 58 (.ext (.t 53) 0), .ex 59 (.ext (.t 53) 1), .ex 16 (.alloc [(.c (.sc (.string ⟨#[]⟩))), (.c (.sc (.int .i64 0))), (.c (.sc (.string ⟨#[]⟩)))]), .nu (.st 3 (.t 16) (.t 58)), .mv 17 59]) (.s (.r [.mv 60 17]) (.cnd (.t 60) (.r [.ex 61 (.fa 1 (.t 2)), .ex 62 (.ld false 1 (.t 61)), .ex 63 (.len false (.t 62)), .ex 64 (.bin .add (.t 63) (.i 1)), .mv 11 64]) .skip))) (.s (.r [.ex 65 (.ld true 3 (.t 9)), .mv 66 11, .nu (.st 3 (.t 4) (.t 65)), .mv 5 66, .ex 6 (.mv .y)]) .ret)))))))))
theorem c_impl_OverGet_eq : compF Go.Proofs.Tryz.prog [] 31 = some (c_impl_OverGet.ac, [(.cell 4 true 3), (.t 5), (.t 6)], 67) := by kernel_rfl

theorem f_impl_OverGet (W0 : World) (hM : HM W0) (o : Over) (p : Str) : Fn Go.Proofs.Tryz.prog W0 31 [eOver o, CS p] (.c (eOGet (oGet o p))) [] := by
  refine fnX (c := c_impl_OverGet) mixed c_impl_OverGet_eq (by simp) rfl fun hg => ?_
  have hc := f_impl_OverView W0 hM o
  rw [oGet]
  cases h1 : oOk o with
  | false =>
    rw [h1] at hc
    refine dEr ?_
    repeat (refine c0 hc rfl ?_; first | refine dEr ?_ | exact dz)
    rfl
  | true =>
    obtain ⟨t, x, e1, e2, _⟩ := oOk_some h1
    rw [if_pos h1, e2] at hc
    rw [if_pos rfl, e2]
    have hx := view4_tOk e2
    have hc2 := f_impl_TreeGet W0 hM x p
    rw [if_pos hx] at hc2
    cases hy : get x p with
    | none =>
      rw [hy] at hc2
      refine dEr ?_
      repeat ((first | refine c0 hc rfl ?_ | refine c0 hc2 rfl ?_); first | refine dEr ?_ | exact dz)
      simp only [hy] <;> rfl
    | some e =>
      rw [hy] at hc2
      have hl := (lower4_some e1).2.1
      obtain ⟨lk1, lk2⟩ := oOk_layers h1
      refine dEr ?_
      repeat ((first | refine c0 hc rfl ?_ | refine c0 hc2 rfl ?_); first | refine dEr ?_ | exact dz)
      simp only [hy]
      refine lp (σ := Nat) (fun k => [(1, .c (CS p)), (2, .ptr 32 0), (4, .ptr 64 0), (9, .ptr 144 0), (11, I (topN (allL o) p k)), (36, .c (eMarkss o.layers)), (37, I o.layers.length), (38, I k)]) (fun _ => [(32, .box [.c (eEnts o.base), .c (eMarkss o.layers), .c (eMarks o.upper)]), (64, .box [.c (CS []), .c (CB false), .c (CS [])]), (144, .box [.c (CS e.path), .c (CB e.dir), .c (CS e.data)])]) (fun k => k ≤ o.layers.length) (fun k => o.layers.length - k) 0 (by simp) ?_ ?_
      · refine dr ?_
        trivial
      intro k hk
      refine dr ?_
      have hle := topN_le (all := allL o) (p := p) (k := k)
      refine cP (fun h3 => ?_) (fun h3 => ?_)
      · have hk' : k < o.layers.length := by omega
        have hcm := f_markAt W0 o.layers[k] p
        rw [eMarkO_eq] at hcm
        have hg : (allL o).getD k [] = o.layers[k] := by
          unfold allL; simp [List.getD, List.getElem?_append_left hk', hk']
        have hlk := (LG.of (lk1 _ (List.getElem_mem hk'))).kind0 (p := p)
        refine dEr ?_
        repeat (refine c0 hcm rfl ?_; first | refine dEr ?_ | exact dz)
        refine cP (fun h4 => ?_) (fun h4 => ?_)
        · have : topN (allL o) p (k + 1) = k + 1 := by
            rw [topN, hg, if_pos (fun e => by rw [hlk.1 e] at h4; cases h4)]
          refine dr ?_
          refine ⟨k + 1, by omega, by omega, ?_⟩
          refine dr ?_
          repeat (refine oB (by rw [this] <;> rfl) ?_; first | refine dr ?_ | exact dz)
          trivial
        · have : topN (allL o) p (k + 1) = topN (allL o) p k := by
            rw [topN, hg, if_neg (fun e => e (hlk.2 (by simpa using h4)))]
          refine dr ?_
          refine ⟨k + 1, by omega, by omega, ?_⟩
          refine dr ?_
          repeat (refine oB (by rw [this]) ?_; first | refine dr ?_ | exact dz)
          trivial
      · have hkl : k = o.layers.length := by omega
        have hcm := f_markAt W0 o.upper p
        rw [eMarkO_eq] at hcm
        have hal : (allL o).length = k + 1 := by simp [allL, hkl]
        have hg : (allL o).getD k [] = o.upper := by
          unfold allL; simp [List.getD, hkl]
        have hlk := (LG.of lk2).kind0 (p := p)
        refine dEr ?_
        repeat (refine c0 hcm rfl ?_; first | refine dEr ?_ | exact dz)
        refine cP (fun h4 => ?_) (fun h4 => ?_)
        · have : topN (allL o) p (allL o).length = k + 1 := by
            rw [hal, topN, hg, if_pos (fun e => by rw [hlk.1 e] at h4; cases h4)]
          refine dr ?_
          rw [this, hkl] <;> rfl
        · have : topN (allL o) p (allL o).length = topN (allL o) p k := by
            rw [hal, topN, hg, if_neg (fun e => e (hlk.2 (by simpa using h4)))]
          refine dr ?_
          rw [this] <;> rfl


end Go.Proofs.YtaecaabnjenllaaGreatDoor

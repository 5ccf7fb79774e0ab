/- Contracts: what the program does to trees on layers; no condition but one on a package variable that start-up code lays. -/
import Derived.Test.YthblflnfhdnpdaaGreatDoorIb5
import Derived.Test.YthblflnfhdnpdaaGreatDoorIb6
import Derived.Test.YthblflnfhdnpdaaGreatDoorPa5
import Derived.Test.YthblflnfhdnpdaaGreatDoorPc1
namespace Go.Proofs.YthblflnfhdnpdaaGreatDoor
set_option linter.unusedSimpArgs false
set_option linter.unusedVariables false
open Go Go.RowKit


def c_impl_copyMarks : XC := (.s (.r [.ex 2 (.asn (.k .nil) 3 49)]) (.s (.r [.mv 3 0, .ex 4 (.app true 3 40 49 (.k .nil) (.t 3)), .ex 2 (.asn (.t 4) 3 49)]) .ret))
theorem c_impl_copyMarks_eq : compF Go.Proofs.Tryz.prog [] 61 = some (c_impl_copyMarks.ac, [(.t 2)], 5) := by kernel_rfl

theorem f_copyMarks (W0 : World) (t : List Mark) (ht : t.length ≤ 1000000) : Fn Go.Proofs.Tryz.prog W0 61 [eMarks t] (.c (eMarks t)) [] := by
  refine fnX (c := c_impl_copyMarks) mixed c_impl_copyMarks_eq (by simp) rfl fun hg => ?_
  refine dr ?_
  repeat ((first | refine oB (by simp; omega) ?_ | refine oB (by simp) ?_); first | refine dr ?_ | exact dz)
  rfl


def c_impl_copyOver : XC := (.s (.r [.ex 1 (.box (.t 0)), .ex 2 (.alloc [.nil, .nil, .nil])]) (.s (.r [.ex 3 (.asn (.k .nil) 1 25)]) (.s (.s (.r [.ex 6 (.fa 1 (.t 1)), .ex 7 (.ld false 1 (.t 6)), .ex 8 (.len false (.t 7)), .ex 9 (.mv (.i 0))]) (.blk 0 (.loop (.s (.r [.ex 10 (.bin .lss (.t 9) (.t 8))]) (.s (.cnd (.t 10) .skip (.exit 0)) (.s (.blk 1 (.s (.r [.ex 11 (.ia 1 (.t 7) (.t 9)), .ex 12 (.ld false 1 (.t 11)), .ex 5 (.asn (.t 12) 3 49)]) (.r [.mv 13 3, .mv 14 5, .ex 15 (.call 61 [(.t 14)]), .ex 16 (.bsl 1 25 [(.t 15)]), .ex 17 (.app false 1 24 25 (.t 13) (.t 16)), .ex 3 (.asn (.t 17) 1 25)]))) (.r [.ex 18 (.bin .add (.t 9) (.i 1)), .mv 9 18]))))))) (.s (.d [.ex 19 (.fa 0 (.t 1)), .ex 20 (.ld false 1 (.t 19)), .ex 21 (.call 144 [(.t 20)]), .mv 22 3, .ex 23 (.fa 2 (.t 1)), .ex 24 (.ld false 1 (.t 23)), .ex 25 (.call 61 [(.t 24)]), .ex 26 (.build [.nil, .nil, .nil] [(0, (1, (.t 21))), (1, (1, (.t 22))), (2, (1, (.t 25)))]), .nu (.st 3 (.t 2) (.t 26))]) .ret))))
theorem c_impl_copyOver_eq : compF Go.Proofs.Tryz.prog [] 60 = some (c_impl_copyOver.ac, [(.cell 2 true 3)], 27) := by kernel_rfl

theorem f_copyOver (W0 : World) (o : Over) (h : OZ 1000000 o) : FunW Go.Proofs.Tryz.prog W0 60 [.c (eOver o)] [] (fun _ : Unit => True) (fun _ => .agg [.c (eEnts o.base), .own 4 o.layers.length, .c (eMarks o.upper)]) (fun _ => [(4, .row (o.layers.map eMarks) 1 25)]) := by
  refine FunW.swp (R := fun _ => .agg [.c (eEnts o.base), .own 48 o.layers.length, .c (eMarks o.upper)]) (M := fun _ => [(48, .row (o.layers.map eMarks) 1 25)]) (vs := [.c (eOver o)]) (mp := []) ?_ 4 48
  refine funW (c := c_impl_copyOver) mixed c_impl_copyOver_eq (by simp) rfl rfl fun hg => ?_
  obtain ⟨z1, z2, z3, z4⟩ := h
  refine dr ?_
  refine lp (σ := Nat) (fun k => [(1, .ptr 16 0), (2, .ptr 32 0), (3, .own 48 k), (7, .c (eMarkss o.layers)), (8, I o.layers.length), (9, I k)]) (fun k => [(16, .box [.c (eEnts o.base), .c (eMarkss o.layers), .c (eMarks o.upper)]), (32, .box [.nil, .nil, .nil]), (48, .row ((o.layers.take k).map eMarks) 1 25)]) (fun k => k ≤ o.layers.length) (fun k => o.layers.length - k) 0 (by simp) ?_ ?_
  · refine dr ?_
    repeat (refine oB (by simp) ?_; first | refine dr ?_ | exact dz)
    trivial
  intro k hk
  refine dr ?_
  refine cP (fun h1 => ?_) (fun h1 => ?_)
  · have hk' : k < o.layers.length := by omega
    have hz := z3 _ (List.getElem_mem hk')
    refine dEr ?_
    repeat ((first | refine c0 (f_copyMarks W0 _ hz) rfl ?_ | refine oB (by simp; omega) ?_); first | refine dEr ?_ | exact dz)
    refine ⟨k + 1, by omega, by omega, ?_⟩
    rw [List.take_succ_eq_append_getElem hk', List.map_append]
    refine dr ?_
    trivial
  have hkl : k = o.layers.length := by omega
  subst hkl
  rw [List.take_length]
  refine dEr ?_
  repeat ((first | refine c0 (f_copyEnts W0 _ z1) rfl ?_ | refine c0 (f_copyMarks W0 _ z4) rfl ?_); first | refine dEr ?_ | exact dz)
  refine ⟨none, _, _, ?_, (), trivial, rfl, rfl⟩
  refine dr ?_
  trivial
theorem f_copyOverC (W0 : World) (o : Over) (h : OZ 1000000 o) : Fn Go.Proofs.Tryz.prog W0 60 [eOver o] (.c (eOver o)) [] := by
  refine fnX (c := c_impl_copyOver) mixed c_impl_copyOver_eq (by simp) rfl fun hg => ?_
  obtain ⟨z1, z2, z3, z4⟩ := h
  refine dr ?_
  refine lp (σ := Nat) (fun k => [(1, .ptr 16 0), (2, .ptr 32 0), (3, .own 48 k), (7, .c (eMarkss o.layers)), (8, I o.layers.length), (9, I k)]) (fun k => [(16, .box [.c (eEnts o.base), .c (eMarkss o.layers), .c (eMarks o.upper)]), (32, .box [.nil, .nil, .nil]), (48, .row ((o.layers.take k).map eMarks) 1 25)]) (fun k => k ≤ o.layers.length) (fun k => o.layers.length - k) 0 (by simp) ?_ ?_
  · refine dr ?_
    repeat (refine oB (by simp) ?_; first | refine dr ?_ | exact dz)
    trivial
  intro k hk
  refine dr ?_
  refine cP (fun h1 => ?_) (fun h1 => ?_)
  · have hk' : k < o.layers.length := by omega
    have hz := z3 _ (List.getElem_mem hk')
    refine dEr ?_
    repeat ((first | refine c0 (f_copyMarks W0 _ hz) rfl ?_ | refine oB (by simp; omega) ?_); first | refine dEr ?_ | exact dz)
    refine ⟨k + 1, by omega, by omega, ?_⟩
    rw [List.take_succ_eq_append_getElem hk', List.map_append]
    refine dr ?_
    trivial
  have hkl : k = o.layers.length := by omega
  subst hkl
  rw [List.take_length]
  refine dEr ?_
  repeat ((first | refine c0 (f_copyEnts W0 _ z1) rfl ?_ | refine c0 (f_copyMarks W0 _ z4) rfl ?_); first | refine dEr ?_ | exact dz)
  rfl


def c_impl_OverDo : XC := (.s (.r [.ex 2 (.box (.t 0)), .ex 3 (.box (.t 1)), .ex 4 (.alloc [.nil, .nil, .nil]), .ex 5 (.mv (.i 0))]) (.s (.r [.ex 13 (.ld true 3 (.t 2)), .ex 14 (.call 66 [(.t 13)]), .mv 12 14, .ex 15 (.ext (.t 12) 0), .ex 16 (.ext (.t 12) 1), .ex 17 (.ext (.t 12) 2), .ex 6 (.asn (.t 15) 3 59), .ex 7 (.asn (.t 16) 3 59), .mv 8 17]) (.s (.s (.r [.mv 18 8, .ex 19 (.un .not (.t 18))]) (.cnd (.t 19) (.s (.r [.ex 20 (.build [.nil, .nil, .nil] []), .nu (.st 3 (.t 4) (.t 20)), .ex 5 (.mv (.i 1))]) .ret) .skip)) (.s (.r [.ex 21 (.ld true 3 (.t 2)), .ex 22 (.call 60 [(.t 21)]), .ex 9 (.alloc [.nil, .nil, .nil]), .nu (.st 3 (.t 9) (.t 22))]) (.s (.r [.mv 24 7, .ex 25 (.ld true 4 (.t 3)), .ex 26 (.call 68 [(.t 24), (.t 25)]), .mv 23 26, .ex 27 (.ext (.t 23) 0), .ex 28 (.ext (.t 23) 1), .ex 10 (.asn (.t 27) 3 59), .mv 11 28]) (.s (.s (.r [.mv 29 11, .ex 30 (.bin .eql (.t 29) (.i 0))]) (.cnd (.t 30) (.r [.mv 31 6, .mv 32 10, .ex 33 (.call 69 [(.t 31), (.t 32)]), .ex 34 (.fa 2 (.t 9)), .nu (.st 1 (.t 34) (.t 33))]) .skip)) (.s (.r [.ex 35 (.ld true 3 (.t 9)), .mv 36 11, .nu (.st 3 (.t 4) (.t 35)), .mv 5 36]) .ret)))))))
theorem c_impl_OverDo_eq : compF Go.Proofs.Tryz.prog [] 19 = some (c_impl_OverDo.ac, [(.cell 4 true 3), (.t 5)], 37) := by kernel_rfl

theorem oTrees_of {o : Over} {t x : List Ent} (g : OG o t x) : oTrees o = some (t, x) := by
  unfold oTrees
  rw [g.low]
  simp only
  rw [g.on]
  simp only
  rw [if_pos g.up]
theorem oTrees_no {o : Over} (h : oOk o = false) : oTrees o = none := by
  rw [oTrees_ok] at h
  cases hx : oTrees o with
  | none => rfl
  | some x => rw [hx] at h; cases h
theorem f_impl_OverDo (W0 : World) (hM : HM W0) (o : Over) (op : Op) : Fn Go.Proofs.Tryz.prog W0 19 [eOver o, eOp op] (.c (eOC (oDo o op))) [] := by
  refine fnX (c := c_impl_OverDo) mixed c_impl_OverDo_eq (by simp) rfl fun hg => ?_
  have q := f_overTrees W0 hM o
  cases h1 : oOk o with
  | false =>
    rw [oTrees_no h1] at q
    refine dEr ?_
    repeat (refine c0 q rfl ?_; first | refine dEr ?_ | exact dz)
    rw [oDo, if_neg (by simp [h1])] <;> rfl
  | true =>
    obtain ⟨t, x, g⟩ := OG.of h1
    rw [oTrees_of g] at q
    rw [g.doEq]
    have q2 := f_impl_TreeDo W0 hM x op
    have q3 := f_copyOverC W0 o (g.os.oz.mono (by omega))
    have q4 := (treeDo_ok g.gx (op := op))
    generalize treeDo x op = r at *
    obtain ⟨y, c⟩ := r
    refine dEr ?_
    repeat ((first | refine c0 q rfl ?_ | refine c0 q3 rfl ?_ | refine c0 q2 rfl ?_); first | refine dEr ?_ | exact dz)
    refine cP (fun h2 => ?_) (fun h2 => ?_)
    · obtain ⟨_, _, k1, k2⟩ := q4 h2
      simp only at k1
      have q5 := f_impl_LayerDiff W0 hM t y
      rw [diffO, if_pos (by rw [k1, g.gt, k2]; rfl)] at q5
      refine dEr ?_
      repeat (refine c0 q5 rfl ?_; first | refine dEr ?_ | exact dz)
      rw [if_pos h2, h2] <;> rfl
    · refine dr ?_
      rw [if_neg h2] <;> rfl


def c_impl_OverSink : XC := (.s (.r [.ex 1 (.box (.t 0)), .ex 2 (.alloc [.nil, .nil, .nil])]) (.s (.r [.ex 7 (.ld true 3 (.t 1)), .ex 8 (.call 66 [(.t 7)]), .mv 6 8, .ex 9 (.ext (.t 6) 0), .ex 10 (.ext (.t 6) 1), .ex 11 (.ext (.t 6) 2), .ex 3 (.asn (.t 9) 3 59), .ex 4 (.asn (.t 10) 3 59), .mv 5 11]) (.s (.s (.r [.mv 12 5, .ex 13 (.un .not (.t 12))]) (.cnd (.t 13) (.s (.r [.ex 14 (.build [.nil, .nil, .nil] []), .nu (.st 3 (.t 2) (.t 14))]) .ret) .skip)) (.s (.r [.mv 15 3, .ex 16 (.fa 2 (.t 1)), .ex 17 (.ld false 1 (.t 16)), .ex 18 (.call 61 [(.t 17)]), .ex 19 (.build [.nil, .nil, .nil] [(0, (1, (.t 15))), (2, (1, (.t 18)))]), .nu (.st 3 (.t 2) (.t 19))]) .ret))))
theorem c_impl_OverSink_eq : compF Go.Proofs.Tryz.prog [] 17 = some (c_impl_OverSink.ac, [(.cell 2 true 3)], 20) := by kernel_rfl

theorem f_impl_OverSink (W0 : World) (hM : HM W0) (o : Over) : Fn Go.Proofs.Tryz.prog W0 17 [eOver o] (.c (eOver (oSink o))) [] := by
  refine fnX (c := c_impl_OverSink) mixed c_impl_OverSink_eq (by simp) rfl fun hg => ?_
  have q := f_overTrees W0 hM o
  cases h1 : oOk o with
  | false =>
    rw [oTrees_no h1] at q
    refine dEr ?_
    repeat (refine c0 q rfl ?_; first | refine dEr ?_ | exact dz)
    rw [oSink, if_neg (by simp [h1])] <;> rfl
  | true =>
    obtain ⟨t, x, g⟩ := OG.of h1
    have hz := g.os.u
    rw [oTrees_of g] at q
    rw [g.sink.1]
    refine dEr ?_
    repeat ((first | refine c0 q rfl ?_ | refine c0 (f_copyMarks W0 _ (by omega)) rfl ?_); first | refine dEr ?_ | exact dz)
    rfl


def c_impl_OverFlat : XC := (.s (.r [.ex 1 (.box (.t 0)), .ex 2 (.alloc [.nil, .nil, .nil]), .ex 3 (.mv .n)]) (.s (.s (.r [.ex 10 (.ld true 3 (.t 1)), .ex 11 (.call 27 [(.t 10)]), .ex 12 (.un .not (.t 11))]) (.cnd (.t 12) (.s (.r [.ex 13 (.build [.nil, .nil, .nil] []), .nu (.st 3 (.t 2) (.t 13)), .ex 3 (.mv .n)]) .ret) .skip)) (.s (.r [.ex 14 (.ld true 3 (.t 1)), .ex 15 (.call 60 [(.t 14)]), .ex 4 (.alloc [.nil, .nil, .nil]), .nu (.st 3 (.t 4) (.t 15))]) (.s (.s (.r [.ex 16 (.fa 1 (.t 4)), .ex 17 (.ld false 1 (.t 16)), .ex 18 (.len false (.t 17)), .ex 19 (.bin .lss (.t 18) (.i 2))]) (.cnd (.t 19) (.s (.r [.ex 20 (.ld true 3 (.t 4)), .nu (.st 3 (.t 2) (.t 20)), .ex 3 (.mv .n)]) .ret) .skip)) (.s (.r [.ex 21 (.fa 1 (.t 4)), .ex 22 (.ld false 1 (.t 21)), .ex 23 (.ia 1 (.t 22) (.i 0)), .ex 24 (.ld false 1 (.t 23)), .ex 25 (.call 61 [(.t 24)]), .ex 5 (.asn (.t 25) 3 49)]) (.s (.s (.r [.ex 26 (.fa 1 (.t 4)), .ex 27 (.ld false 1 (.t 26)), .ex 28 (.slr 1 (.t 27) (.some (.i 1)) .none), .ex 29 (.len false (.t 28)), .ex 30 (.mv (.i 0))]) (.blk 0 (.loop (.s (.r [.ex 31 (.bin .lss (.t 30) (.t 29))]) (.s (.cnd (.t 31) .skip (.exit 0)) (.s (.blk 1 (.s (.r [.ex 32 (.ia 1 (.t 28) (.t 30)), .ex 33 (.ld false 1 (.t 32)), .ex 7 (.asn (.t 33) 3 49)]) (.s (.r [.mv 35 7, .mv 36 5, .ex 37 (.call 62 [(.t 35), (.t 36)]), .mv 34 37, .ex 38 (.ext (.t 34) 0), .ex 39 (.ext (.t 34) 1), .ex 8 (.asn (.t 38) 3 49), .mv 9 39]) (.s (.s (.r [.mv 40 9, .ex 41 (.un .not (.t 40))]) (.cnd (.t 41) (.s (.r [.ex 42 (.ld true 3 (.t 4)), .nu (.st 3 (.t 2) (.t 42)), .ex 3 (.mv .n)]) .ret) .skip)) (.r [.mv 43 8, .ex 5 (.asn (.t 43) 3 49)]))))) (.r [.ex 44 (.bin .add (.t 30) (.i 1)), .mv 30 44]))))))) (.s (.r [.mv 45 5, .ex 46 (.bsl 1 25 [(.t 45)]), .ex 47 (.fa 1 (.t 4)), .nu (.st 1 (.t 47) (.t 46))]) (.s (.r [.ex 48 (.ld true 3 (.t 4)), .nu (.st 3 (.t 2) (.t 48)), .ex 3 (.mv .y)]) .ret))))))))
theorem c_impl_OverFlat_eq : compF Go.Proofs.Tryz.prog [] 14 = some (c_impl_OverFlat.ac, [(.cell 2 true 3), (.t 3)], 49) := by kernel_rfl

theorem f_impl_OverFlat (W0 : World) (hM : HM W0) (o : Over) : Fn Go.Proofs.Tryz.prog W0 14 [eOver o] (.c (eOB (oFlat o))) [] := by
  refine fnX (c := c_impl_OverFlat) mixed c_impl_OverFlat_eq (by simp) rfl fun hg => ?_
  refine dEr ?_
  repeat (refine c0 (f_impl_OverOk W0 hM o) rfl ?_; first | refine dEr ?_ | exact dz)
  refine cP (fun h1 => ?_) (fun h1 => ?_)
  · refine dr ?_
    rw [oFlat, if_neg (by simp [h1])] <;> rfl
  have hz := OS.ok h1
  rw [oFlat, if_pos h1]
  refine dEr ?_
  repeat (refine c0 (f_copyOverC W0 o (hz.oz.mono (by omega))) rfl ?_; first | refine dEr ?_ | exact dz)
  refine cP (fun h2 => ?_) (fun h2 => ?_)
  · refine dr ?_
    have e : flatO o = none := by
      unfold flatO
      split
      · rename_i a b r he; rw [he] at h2; simp at h2; omega
      · rfl
    rw [e] <;> rfl
  have h0 : 0 < o.layers.length := by omega
  obtain ⟨a, b, r, hl⟩ : ∃ a b r, o.layers = a :: b :: r := by
    cases hl : o.layers with
    | nil => rw [hl] at h0; simp at h0
    | cons a s => cases s with
      | nil => rw [hl] at h2; simp at h2
      | cons b r => exact ⟨a, b, r, rfl⟩
  have e0 : flatO o = flatA o.layers[0] (o.layers.drop 1) := by
    have e : o.layers[0] = a := by simp [hl]
    rw [e]
    unfold flatO
    rw [hl]; rfl
  rw [e0]
  have hn4 := hz.n
  have hn5 := hz.l _ (List.getElem_mem h0)
  have q9 := f_copyMarks W0 o.layers[0] (by omega)
  refine dEr ?_
  repeat ((first | refine aM (j := 0) rfl (by omega) ?_ | refine c0 q9 rfl ?_ | refine sLoM 1 rfl (by omega) ?_); first | refine dEr ?_ | exact dz)
  generalize hL : o.layers.drop 1 = L at *
  have hLn : L.length ≤ 4 := by rw [← hL, List.length_drop]; omega
  refine lp2 (fun (k : Nat) (one : List Mark) => [(2, .ptr 32 0), (4, .ptr 64 0), (5, .c (eMarks one)), (28, .c (eMarkss L)), (29, I L.length), (30, I k)]) (fun _ _ => [(32, .box [.nil, .nil, .nil]), (64, .box [.c (eEnts o.base), .c (eMarkss o.layers), .c (eMarks o.upper)])]) (fun k one => k ≤ L.length ∧ flatA one (L.drop k) = flatA o.layers[0] L) (fun k _ => L.length - k) 0 o.layers[0] ⟨by omega, rfl⟩ ?_ ?_
  · refine dr ?_
    trivial
  rintro k one ⟨k2, k3⟩
  refine dr ?_
  refine cP (fun h3 => ?_) (fun h3 => ?_)
  · have hk' : k < L.length := by omega
    rw [List.drop_eq_getElem_cons hk', flatA_cons] at k3
    have q := f_impl_LayerJoin W0 hM L[k] one
    cases hj : lJoin L[k] one with
    | none =>
      rw [hj] at q k3
      refine dEr ?_
      repeat (refine c0 q rfl ?_; first | refine dEr ?_ | exact dz)
      rw [← k3] <;> rfl
    | some j =>
      rw [hj] at q k3
      refine dEr ?_
      repeat (refine c0 q rfl ?_; first | refine dEr ?_ | exact dz)
      refine ⟨k + 1, j, ⟨by omega, k3⟩, by omega, ?_⟩
      refine dr ?_
      trivial
  · have hkl : k = L.length := by omega
    rw [hkl, List.drop_length, flatA] at k3
    refine dr ?_
    rw [← k3] <;> rfl


end Go.Proofs.YthblflnfhdnpdaaGreatDoor

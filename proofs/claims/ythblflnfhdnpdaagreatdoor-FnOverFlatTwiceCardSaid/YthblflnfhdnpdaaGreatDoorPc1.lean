/- Contracts: what is done to a tree on layers (reference); no condition. -/
import Derived.Test.YthblflnfhdnpdaaGreatDoorPb9
import Derived.Test.YthblflnfhdnpdaaGreatDoorPb6
import Derived.Test.YthblflnfhdnpdaaGreatDoorPb7
import Derived.Test.YthblflnfhdnpdaaGreatDoorPa5
import Derived.Test.YthblflnfhdnpdaaGreatDoorDb1
namespace Go.Proofs.YthblflnfhdnpdaaGreatDoor
set_option linter.unusedSimpArgs false
set_option linter.unusedVariables false
open Go Go.RowKit

/-- A loop, by the state at its head, kept in any way. -/
theorem lq {k0 : List Nat} {body : (Fr → XM → Prop) → Fr → XM → Prop} {F : Fr} {m : XM} {σ : Type} (fr : σ → Fr) (mm : σ → XM) (inv : σ → Prop) (me : σ → Nat) (x0 : σ) (h0 : inv x0) (hk : KeepX k0 (some 3) F m (fr x0) (mm x0))
    (hb : ∀ x, inv x → body (fun F' m' => ∃ x', inv x' ∧ me x' < me x ∧ KeepX k0 (some 3) F' m' (fr x') (mm x')) (fr x) (mm x)) : LoopX k0 body F m :=
  ⟨σ, fr, mm, inv, me, some 3, some 3, _, ⟨x0, h0, hk⟩, fun _ _ _ h => h, hb⟩
theorem lq2 {k0 : List Nat} {body : (Fr → XM → Prop) → Fr → XM → Prop} {F : Fr} {m : XM} {α β : Type} (fr : α → β → Fr) (mm : α → β → XM) (inv : α → β → Prop) (me : α → β → Nat) (a0 : α) (b0 : β) (h0 : inv a0 b0) (hk : KeepX k0 (some 3) F m (fr a0 b0) (mm a0 b0))
    (hb : ∀ a b, inv a b → body (fun F' m' => ∃ a' b', inv a' b' ∧ me a' b' < me a b ∧ KeepX k0 (some 3) F' m' (fr a' b') (mm a' b')) (fr a b) (mm a b)) : LoopX k0 body F m :=
  ⟨α × β, fun x => fr x.1 x.2, fun x => mm x.1 x.2, fun x => inv x.1 x.2, fun x => me x.1 x.2, some 3, some 3, fun x F' m' => ∃ a' b', inv a' b' ∧ me a' b' < me x.1 x.2 ∧ KeepX k0 (some 3) F' m' (fr a' b') (mm a' b'),
    ⟨(a0, b0), h0, hk⟩, fun _ _ _ ⟨a, b, h⟩ => ⟨(a, b), h⟩, fun x h => hb x.1 x.2 h⟩
theorem lq3 {k0 : List Nat} {body : (Fr → XM → Prop) → Fr → XM → Prop} {F : Fr} {m : XM} {α β γ : Type} (fr : α → β → γ → Fr) (mm : α → β → γ → XM) (inv : α → β → γ → Prop) (me : α → β → γ → Nat) (a0 : α) (b0 : β) (c0 : γ) (h0 : inv a0 b0 c0) (hk : KeepX k0 (some 3) F m (fr a0 b0 c0) (mm a0 b0 c0))
    (hb : ∀ a b c, inv a b c → body (fun F' m' => ∃ a' b' c', inv a' b' c' ∧ me a' b' c' < me a b c ∧ KeepX k0 (some 3) F' m' (fr a' b' c') (mm a' b' c')) (fr a b c) (mm a b c)) : LoopX k0 body F m :=
  ⟨α × β × γ, fun x => fr x.1 x.2.1 x.2.2, fun x => mm x.1 x.2.1 x.2.2, fun x => inv x.1 x.2.1 x.2.2, fun x => me x.1 x.2.1 x.2.2, some 3, some 3, fun x F' m' => ∃ a' b' c', inv a' b' c' ∧ me a' b' c' < me x.1 x.2.1 x.2.2 ∧ KeepX k0 (some 3) F' m' (fr a' b' c') (mm a' b' c'),
    ⟨(a0, b0, c0), h0, hk⟩, fun _ _ _ ⟨a, b, c, h⟩ => ⟨(a, b, c), h⟩, fun x h => hb x.1 x.2.1 x.2.2 h⟩

/-- Sizes of a tree on layers. -/
structure OZ (k : Nat) (o : Over) : Prop where
  b : o.base.length ≤ k
  n : o.layers.length ≤ k
  l : ∀ l ∈ o.layers, l.length ≤ k
  u : o.upper.length ≤ k
theorem OS.oz {o : Over} (h : OS o) : OZ 32 o := ⟨by have := h.b; omega, by have := h.n; omega, h.l, h.u⟩
theorem OZ.mono {o : Over} {n m : Nat} (h : OZ n o) (hm : n ≤ m) : OZ m o := ⟨by have := h.b; omega, by have := h.n; omega, fun l hl => by have := h.l l hl; omega, by have := h.u; omega⟩


def c_spec_l4Copy : XC := (.s (.r [.ex 1 (.box (.t 0)), .ex 2 (.alloc [.nil, .nil, .nil])]) (.s (.d [.ex 5 .bsl0, .ex 6 (.fa 0 (.t 1)), .ex 7 (.ld false 1 (.t 6)), .ex 8 (.app true 3 40 59 (.t 5) (.t 7)), .ex 9 .bsl0, .ex 10 (.fa 2 (.t 1)), .ex 11 (.ld false 1 (.t 10)), .ex 12 (.app true 3 40 49 (.t 9) (.t 11)), .ex 13 (.build [.nil, .nil, .nil] [(0, (1, (.t 8))), (2, (1, (.t 12)))]), .ex 3 (.alloc [.nil, .nil, .nil]), .nu (.st 3 (.t 3) (.t 13))]) (.s (.s (.r [.ex 4 (.mv (.i 0))]) (.blk 0 (.loop (.s (.s (.r [.mv 14 4, .ex 15 (.fa 1 (.t 1)), .ex 16 (.ld false 1 (.t 15)), .ex 17 (.len false (.t 16)), .ex 18 (.bin .lss (.t 14) (.t 17))]) (.cnd (.t 18) .skip (.exit 0))) (.s (.blk 1 (.d [.ex 21 (.fa 1 (.t 3)), .ex 22 (.ld false 1 (.t 21)), .ex 23 .bsl0, .ex 24 (.fa 1 (.t 1)), .ex 25 (.ld false 1 (.t 24)), .mv 26 4, .ex 27 (.ia 1 (.t 25) (.t 26)), .ex 28 (.ld false 1 (.t 27)), .ex 29 (.app true 3 40 49 (.t 23) (.t 28)), .ex 30 (.bsl 1 25 [(.t 29)]), .ex 31 (.app false 1 24 25 (.t 22) (.t 30)), .ex 32 (.fa 1 (.t 3)), .nu (.st 1 (.t 32) (.t 31))])) (.r [.mv 19 4, .ex 20 (.bin .add (.t 19) (.i 1)), .mv 4 20])))))) (.s (.r [.ex 33 (.ld true 3 (.t 3)), .nu (.st 3 (.t 2) (.t 33))]) .ret))))
theorem c_spec_l4Copy_eq : compF Go.Proofs.Tryz.prog [] 63 = some (c_spec_l4Copy.ac, [(.cell 2 true 3)], 34) := by kernel_rfl

theorem f_l4Copy (W0 : World) (o : Over) (h : OZ 1000000 o) : FunW Go.Proofs.Tryz.prog W0 63 [.c (eOver o)] [] (fun _ : Unit => True) (fun _ => .agg [.c (eEnts o.base), .own 4 o.layers.length, .c (eMarks o.upper)]) (fun _ => [(4, .row (o.layers.map eMarks) 1 25)]) := by
  refine funW (c := c_spec_l4Copy) mixed c_spec_l4Copy_eq (by simp) rfl rfl fun hg => ?_
  obtain ⟨z1, z2, z3, z4⟩ := h
  refine dr ?_
  refine lq (σ := Nat) (fun k => [(1, .ptr 16 0), (2, .ptr 32 0), (3, .ptr 48 0), (4, I k)]) (fun k => [(4, .row ((o.layers.take k).map eMarks) 1 25), (16, .box [.c (eEnts o.base), .c (eMarkss o.layers), .c (eMarks o.upper)]), (32, .box [.nil, .nil, .nil]), (48, .box [.c (eEnts o.base), .own 4 k, .c (eMarks o.upper)])]) (fun k => k ≤ o.layers.length) (fun k => o.layers.length - k) 0 (by simp) ?_ ?_
  · refine KeepX.trans (z := some 128) (z' := some 3) (F1 := [(1, .ptr 16 0), (2, .ptr 32 0), (3, .ptr 48 0), (4, I 0)]) (m1 := [(16, .box [.c (eEnts o.base), .c (eMarkss o.layers), .c (eMarks o.upper)]), (32, .box [.nil, .nil, .nil]), (48, .box [.c (eEnts o.base), .nil, .own 192 o.upper.length]), (192, .row (o.upper.map eMark) 3 49)]) ?_ ?_
    · refine dr ?_
      repeat (refine oB (by simp <;> rfl) ?_; first | refine dr ?_ | exact dz)
      trivial
    refine KeepX.trans (z := some 192) (z' := some 3) (F1 := [(1, .ptr 16 0), (2, .ptr 32 0), (3, .ptr 48 0), (4, I 0)]) (m1 := [(16, .box [.c (eEnts o.base), .c (eMarkss o.layers), .c (eMarks o.upper)]), (32, .box [.nil, .nil, .nil]), (48, .box [.c (eEnts o.base), .nil, .c (eMarks o.upper)])]) ?_ ?_
    · refine dr ?_
      repeat (refine oB (by simp <;> rfl) ?_; first | refine dr ?_ | exact dz)
      trivial
    · show KeepS _ _ _ _ _
      exact KeepS.nilB 48 [.c (eEnts o.base), .nil, .c (eMarks o.upper)] [.c (eEnts o.base), .own 4 0, .c (eMarks o.upper)] 4 25 rfl rfl ⟨nr0, nr1, nr0, trivial⟩
  intro k hk
  refine dr ?_
  refine cP (fun h1 => ?_) (fun h1 => ?_)
  · have hk' : k < o.layers.length := by omega
    have hz := z3 _ (List.getElem_mem hk')
    refine dr ?_
    repeat ((first | refine oB (by simp; omega) ?_ | refine oB (by simp) ?_); first | refine dr ?_ | exact dz)
    refine ⟨k + 1, by omega, by omega, ?_⟩
    rw [List.take_succ_eq_append_getElem hk', List.map_append]
    refine KeepS.push (C := (o.layers.take k).map eMarks) (L := o.layers[k].map eMark) 4 464 rfl rfl (by simp) ?_
    refine dr ?_
    trivial
  have hkl : k = o.layers.length := by omega
  subst hkl
  rw [List.take_length]
  refine dr ?_
  refine ⟨none, _, _, ?_, (), trivial, rfl, rfl⟩
  refine dr ?_
  trivial
theorem f_l4CopyC (W0 : World) (o : Over) (h : OZ 1000000 o) : Fn Go.Proofs.Tryz.prog W0 63 [eOver o] (.c (eOver o)) [] := by
  refine fnX (c := c_spec_l4Copy) mixed c_spec_l4Copy_eq (by simp) rfl fun hg => ?_
  obtain ⟨z1, z2, z3, z4⟩ := h
  refine dr ?_
  refine lq (σ := Nat) (fun k => [(1, .ptr 16 0), (2, .ptr 32 0), (3, .ptr 48 0), (4, I k)]) (fun k => [(4, .row ((o.layers.take k).map eMarks) 1 25), (16, .box [.c (eEnts o.base), .c (eMarkss o.layers), .c (eMarks o.upper)]), (32, .box [.nil, .nil, .nil]), (48, .box [.c (eEnts o.base), .own 4 k, .c (eMarks o.upper)])]) (fun k => k ≤ o.layers.length) (fun k => o.layers.length - k) 0 (by simp) ?_ ?_
  · refine KeepX.trans (z := some 128) (z' := some 3) (F1 := [(1, .ptr 16 0), (2, .ptr 32 0), (3, .ptr 48 0), (4, I 0)]) (m1 := [(16, .box [.c (eEnts o.base), .c (eMarkss o.layers), .c (eMarks o.upper)]), (32, .box [.nil, .nil, .nil]), (48, .box [.c (eEnts o.base), .nil, .own 192 o.upper.length]), (192, .row (o.upper.map eMark) 3 49)]) ?_ ?_
    · refine dr ?_
      repeat (refine oB (by simp <;> rfl) ?_; first | refine dr ?_ | exact dz)
      trivial
    refine KeepX.trans (z := some 192) (z' := some 3) (F1 := [(1, .ptr 16 0), (2, .ptr 32 0), (3, .ptr 48 0), (4, I 0)]) (m1 := [(16, .box [.c (eEnts o.base), .c (eMarkss o.layers), .c (eMarks o.upper)]), (32, .box [.nil, .nil, .nil]), (48, .box [.c (eEnts o.base), .nil, .c (eMarks o.upper)])]) ?_ ?_
    · refine dr ?_
      repeat (refine oB (by simp <;> rfl) ?_; first | refine dr ?_ | exact dz)
      trivial
    · show KeepS _ _ _ _ _
      exact KeepS.nilB 48 [.c (eEnts o.base), .nil, .c (eMarks o.upper)] [.c (eEnts o.base), .own 4 0, .c (eMarks o.upper)] 4 25 rfl rfl ⟨nr0, nr1, nr0, trivial⟩
  intro k hk
  refine dr ?_
  refine cP (fun h1 => ?_) (fun h1 => ?_)
  · have hk' : k < o.layers.length := by omega
    have hz := z3 _ (List.getElem_mem hk')
    refine dr ?_
    repeat ((first | refine oB (by simp; omega) ?_ | refine oB (by simp) ?_); first | refine dr ?_ | exact dz)
    refine ⟨k + 1, by omega, by omega, ?_⟩
    rw [List.take_succ_eq_append_getElem hk', List.map_append]
    refine KeepS.push (C := (o.layers.take k).map eMarks) (L := o.layers[k].map eMark) 4 464 rfl rfl (by simp) ?_
    refine dr ?_
    trivial
  have hkl : k = o.layers.length := by omega
  subst hkl
  rw [List.take_length]
  refine dr ?_
  rfl


def c_spec_l4With : XC := (.s (.r [.ex 2 (.box (.t 0)), .ex 4 (.alloc [.nil, .nil, .nil])]) (.s (.r [.ex 8 (.ld true 3 (.t 2)), .ex 9 (.call 72 [(.t 8)]), .mv 7 9, .ex 10 (.ext (.t 7) 0), .ex 11 (.ext (.t 7) 1), .ex 5 (.asn (.t 10) 3 59), .mv 6 11]) (.s (.r [.mv 12 5, .mv 13 1, .ex 14 (.call 74 [(.t 12), (.t 13)]), .ex 15 (.fa 2 (.t 2)), .nu (.st 1 (.t 15) (.t 14))]) (.s (.r [.ex 16 (.ld true 3 (.t 2)), .nu (.st 3 (.t 4) (.t 16))]) .ret))))
theorem c_spec_l4With_eq : compF Go.Proofs.Tryz.prog [] 71 = some (c_spec_l4With.ac, [(.cell 4 true 3)], 17) := by kernel_rfl

theorem f_l4With (W0 : World) (o : Over) (t x : List Ent) (h1 : lower4 o = some t) (ht : tOk t = true) (hx : tOk x = true) : Fn Go.Proofs.Tryz.prog W0 71 [eOver o, eEnts x] (.c (eOver ⟨o.base, o.layers, diff t x⟩)) [] := by
  refine fnX (c := c_spec_l4With) mixed c_spec_l4With_eq (by simp) rfl fun hg => ?_
  have q := f_l4Lower W0 o
  rw [h1] at q
  refine dEr ?_
  repeat ((first | refine c0 q rfl ?_ | refine c0 (f_l3Diff W0 t x ht hx) rfl ?_); first | refine dEr ?_ | exact dz)
  rfl


def c_spec_OverDo : XC := (.s (.r [.ex 2 (.box (.t 0)), .ex 3 (.box (.t 1)), .ex 4 (.alloc [.nil, .nil, .nil]), .ex 5 (.mv (.i 0))]) (.s (.s (.r [.ex 10 (.ld true 3 (.t 2)), .ex 11 (.call 21 [(.t 10)]), .ex 12 (.un .not (.t 11))]) (.cnd (.t 12) (.s (.r [.ex 13 (.build [.nil, .nil, .nil] []), .nu (.st 3 (.t 4) (.t 13)), .ex 5 (.mv (.i 1))]) .ret) .skip)) (.s (.r [.ex 15 (.ld true 3 (.t 2)), .ex 16 (.call 57 [(.t 15)]), .mv 14 16, .ex 17 (.ext (.t 14) 0), .ex 18 (.ext (.t 14) 1), .ex 6 (.asn (.t 17) 3 59), .mv 7 18]) (.s (.r [.mv 20 6, .ex 21 (.ld true 4 (.t 3)), .ex 22 (.call 70 [(.t 20), (.t 21)]), .mv 19 22, .ex 23 (.ext (.t 19) 0), .ex 24 (.ext (.t 19) 1), .ex 8 (.asn (.t 23) 3 59), .mv 9 24]) (.s (.s (.r [.mv 25 9, .ex 26 (.bin .neq (.t 25) (.i 0))]) (.cnd (.t 26) (.s (.r [.ex 27 (.ld true 3 (.t 2)), .ex 28 (.call 63 [(.t 27)]), .mv 29 9, .nu (.st 3 (.t 4) (.t 28)), .mv 5 29]) .ret) .skip)) (.s (.r [.ex 30 (.ld true 3 (.t 2)), .ex 31 (.call 63 [(.t 30)]), .mv 32 8, .ex 33 (.call 71 [(.t 31), (.t 32)]), .mv 34 9, .nu (.st 3 (.t 4) (.t 33)), .mv 5 34]) .ret))))))
theorem c_spec_OverDo_eq : compF Go.Proofs.Tryz.prog [] 20 = some (c_spec_OverDo.ac, [(.cell 4 true 3), (.t 5)], 35) := by kernel_rfl

theorem f_spec_OverDo (W0 : World) (o : Over) (op : Op) : Fn Go.Proofs.Tryz.prog W0 20 [eOver o, eOp op] (.c (eOC (oDo o op))) [] := by
  refine fnX (c := c_spec_OverDo) mixed c_spec_OverDo_eq (by simp) rfl fun hg => ?_
  refine dEr ?_
  repeat (refine c0 (f_spec_OverOk W0 o) rfl ?_; first | refine dEr ?_ | exact dz)
  refine cP (fun h1 => ?_) (fun h1 => ?_)
  · refine dr ?_
    rw [oDo, if_neg (by simp [h1])] <;> rfl
  obtain ⟨t, x, g⟩ := OG.of h1
  rw [g.doEq]
  have q1 := f_l4View W0 o
  rw [g.vw] at q1
  have q2 := f_spec_TreeDo W0 x op
  have q3 := f_l4CopyC W0 o (g.os.oz.mono (by omega))
  have q4 := (treeDo_ok g.gx (op := op))
  generalize treeDo x op = r at *
  obtain ⟨y, c⟩ := r
  refine dEr ?_
  repeat ((first | refine c0 q1 rfl ?_ | refine c0 q2 rfl ?_); first | refine dEr ?_ | exact dz)
  refine cP (fun h2 => ?_) (fun h2 => ?_)
  · refine dEr ?_
    repeat (refine c0 q3 rfl ?_; first | refine dEr ?_ | exact dz)
    rw [if_neg h2] <;> rfl
  · obtain ⟨_, _, k1, k2⟩ := q4 h2
    simp only at k1
    have q5 := f_l4With W0 o t y g.low g.gt (by rw [k1]; exact k2)
    refine dEr ?_
    repeat ((first | refine c0 q3 rfl ?_ | refine c0 q5 rfl ?_); first | refine dEr ?_ | exact dz)
    rw [if_pos h2, h2] <;> rfl


def c_spec_OverPush : XC := (.s (.r [.ex 1 (.box (.t 0)), .ex 2 (.alloc [.nil, .nil, .nil]), .ex 3 (.mv .n)]) (.s (.s (.r [.ex 5 (.ld true 3 (.t 1)), .ex 6 (.call 21 [(.t 5)]), .ex 7 (.un .not (.t 6))]) (.cnd (.t 7) (.s (.r [.ex 8 (.build [.nil, .nil, .nil] []), .nu (.st 3 (.t 2) (.t 8)), .ex 3 (.mv .n)]) .ret) .skip)) (.s (.r [.ex 9 (.ld true 3 (.t 1)), .ex 10 (.opn 63 [(.t 9)]), .ex 4 (.alloc [.nil, .nil, .nil]), .nu (.st 3 (.t 4) (.t 10))]) (.s (.s (.r [.ex 11 (.fa 1 (.t 1)), .ex 12 (.ld false 1 (.t 11)), .ex 13 (.len false (.t 12)), .ex 14 (.bin .geq (.t 13) (.i 4))]) (.cnd (.t 14) (.s (.r [.ex 15 (.ld true 3 (.t 4)), .nu (.st 3 (.t 2) (.t 15)), .ex 3 (.mv .n)]) .ret) .skip)) (.s (.r [.ex 16 (.fa 1 (.t 4)), .ex 17 (.ld false 1 (.t 16)), .ex 18 (.fa 2 (.t 4)), .ex 19 (.ld false 1 (.t 18)), .ex 20 (.bsl 1 25 [(.t 19)]), .ex 21 (.app false 1 24 25 (.t 17) (.t 20)), .ex 22 (.fa 1 (.t 4)), .nu (.st 1 (.t 22) (.t 21))]) (.s (.r [.ex 23 .bsl0, .ex 24 (.fa 2 (.t 4)), .nu (.st 1 (.t 24) (.t 23))]) (.s (.r [.ex 25 (.ld true 3 (.t 4)), .nu (.st 3 (.t 2) (.t 25)), .ex 3 (.mv .y)]) .ret)))))))
theorem c_spec_OverPush_eq : compF Go.Proofs.Tryz.prog [63] 56 = some (c_spec_OverPush.ac, [(.cell 2 true 3), (.t 3)], 26) := by kernel_rfl

theorem f_spec_OverPush (W0 : World) (o : Over) : Fn Go.Proofs.Tryz.prog W0 56 [eOver o] (.c (eOB (oPush o))) [] := by
  refine fnX (c := c_spec_OverPush) mixed c_spec_OverPush_eq (by simp) rfl fun hg => ?_
  refine dEr ?_
  repeat (refine c0 (f_spec_OverOk W0 o) rfl ?_; first | refine dEr ?_ | exact dz)
  refine cP (fun h1 => ?_) (fun h1 => ?_)
  · refine dr ?_
    rw [oPush, if_neg (by simp [h1])] <;> rfl
  have hz := OS.ok h1
  rw [oPush, if_pos h1]
  refine dr ?_
  refine oW (f_l4Copy W0 o (hz.oz.mono (by omega))) rfl trivial rfl rfl ⟨(), trivial⟩ fun _ _ => ⟨rfl, ?_⟩
  refine dEr ?_
  refine cP (fun h2 => ?_) (fun h2 => ?_)
  · refine dr ?_
    repeat (refine oB (by simp) ?_; first | refine dr ?_ | exact dz)
    rw [if_pos (by omega)] <;> rfl
  · have := hz.n
    refine dr ?_
    repeat ((first | refine oB (by simp; omega) ?_ | refine oB (by simp) ?_); first | refine dr ?_ | exact dz)
    rw [if_neg (by omega)]
    exact congrArg (fun y => CV.tup [.agg [eEnts o.base, y, eMarks []], CB true]) (by simp [eMarkss])


def c_spec_OverSink : XC := (.s (.r [.ex 1 (.box (.t 0)), .ex 2 (.alloc [.nil, .nil, .nil])]) (.s (.s (.r [.ex 4 (.ld true 3 (.t 1)), .ex 5 (.call 21 [(.t 4)]), .ex 6 (.un .not (.t 5))]) (.cnd (.t 6) (.s (.r [.ex 7 (.build [.nil, .nil, .nil] []), .nu (.st 3 (.t 2) (.t 7))]) .ret) .skip)) (.s (.r [.ex 8 (.ld true 3 (.t 1)), .ex 9 (.call 63 [(.t 8)]), .ex 3 (.alloc [.nil, .nil, .nil]), .nu (.st 3 (.t 3) (.t 9))]) (.s (.r [.ex 11 (.ld true 3 (.t 1)), .ex 12 (.call 72 [(.t 11)]), .mv 10 12, .ex 13 (.ext (.t 10) 0), .ex 14 (.ext (.t 10) 1), .ex 15 (.fa 0 (.t 3)), .nu (.st 1 (.t 15) (.t 13))]) (.s (.r [.ex 16 .bsl0, .ex 17 (.fa 1 (.t 3)), .nu (.st 1 (.t 17) (.t 16))]) (.s (.r [.ex 18 (.ld true 3 (.t 3)), .nu (.st 3 (.t 2) (.t 18))]) .ret))))))
theorem c_spec_OverSink_eq : compF Go.Proofs.Tryz.prog [] 25 = some (c_spec_OverSink.ac, [(.cell 2 true 3)], 19) := by kernel_rfl

theorem f_spec_OverSink (W0 : World) (o : Over) : Fn Go.Proofs.Tryz.prog W0 25 [eOver o] (.c (eOver (oSink o))) [] := by
  refine fnX (c := c_spec_OverSink) mixed c_spec_OverSink_eq (by simp) rfl fun hg => ?_
  refine dEr ?_
  repeat (refine c0 (f_spec_OverOk W0 o) rfl ?_; first | refine dEr ?_ | exact dz)
  refine cP (fun h1 => ?_) (fun h1 => ?_)
  · refine dr ?_
    rw [oSink, if_neg (by simp [h1])] <;> rfl
  obtain ⟨t, x, g⟩ := OG.of h1
  rw [g.sink.1]
  have q := f_l4Lower W0 o
  rw [g.low] at q
  refine dEr ?_
  repeat ((first | refine c0 (f_l4CopyC W0 o (g.os.oz.mono (by omega))) rfl ?_ | refine c0 q rfl ?_); first | refine dEr ?_ | exact dz)
  rfl


def c_spec_OverFlat : XC := (.s (.r [.ex 1 (.box (.t 0)), .ex 2 (.alloc [.nil, .nil, .nil]), .ex 3 (.mv .n)]) (.s (.s (.r [.ex 8 (.ld true 3 (.t 1)), .ex 9 (.call 21 [(.t 8)]), .ex 10 (.un .not (.t 9))]) (.cnd (.t 10) (.s (.r [.ex 11 (.build [.nil, .nil, .nil] []), .nu (.st 3 (.t 2) (.t 11)), .ex 3 (.mv .n)]) .ret) .skip)) (.s (.r [.ex 12 (.ld true 3 (.t 1)), .ex 13 (.call 63 [(.t 12)]), .ex 4 (.alloc [.nil, .nil, .nil]), .nu (.st 3 (.t 4) (.t 13))]) (.s (.s (.r [.ex 14 (.fa 1 (.t 4)), .ex 15 (.ld false 1 (.t 14)), .ex 16 (.len false (.t 15)), .ex 17 (.bin .lss (.t 16) (.i 2))]) (.cnd (.t 17) (.s (.r [.ex 18 (.ld true 3 (.t 4)), .nu (.st 3 (.t 2) (.t 18)), .ex 3 (.mv .n)]) .ret) .skip)) (.s (.r [.ex 19 (.fa 1 (.t 4)), .ex 20 (.ld false 1 (.t 19)), .ex 21 (.ia 1 (.t 20) (.i 0)), .ex 22 (.ld false 1 (.t 21)), .ex 5 (.asn (.t 22) 3 49)]) (.s (.s (.r [.ex 6 (.mv (.i 1))]) (.blk 0 (.loop (.s (.s (.r [.mv 23 6, .ex 24 (.fa 1 (.t 4)), .ex 25 (.ld false 1 (.t 24)), .ex 26 (.len false (.t 25)), .ex 27 (.bin .lss (.t 23) (.t 26))]) (.cnd (.t 27) .skip (.exit 0))) (.s (.blk 1 (.s (.r [.ex 7 (.mv .n)]) (.s (.r [.ex 31 (.fa 1 (.t 4)), .ex 32 (.ld false 1 (.t 31)), .mv 33 6, .ex 34 (.ia 1 (.t 32) (.t 33)), .ex 35 (.ld false 1 (.t 34)), .mv 36 5, .ex 37 (.call 64 [(.t 35), (.t 36)]), .mv 30 37, .ex 38 (.ext (.t 30) 0), .ex 39 (.ext (.t 30) 1), .ex 5 (.asn (.t 38) 3 49), .mv 7 39]) (.s (.r [.mv 40 7, .ex 41 (.un .not (.t 40))]) (.cnd (.t 41) (.s (.r [.ex 42 (.ld true 3 (.t 4)), .nu (.st 3 (.t 2) (.t 42)), .ex 3 (.mv .n)]) .ret) .skip))))) (.r [.mv 28 6, .ex 29 (.bin .add (.t 28) (.i 1)), .mv 6 29])))))) (.s (.r [.mv 43 5, .ex 44 (.bsl 1 25 [(.t 43)]), .ex 45 (.fa 1 (.t 4)), .nu (.st 1 (.t 45) (.t 44))]) (.s (.r [.ex 46 (.ld true 3 (.t 4)), .nu (.st 3 (.t 2) (.t 46)), .ex 3 (.mv .y)]) .ret))))))))
theorem c_spec_OverFlat_eq : compF Go.Proofs.Tryz.prog [] 15 = some (c_spec_OverFlat.ac, [(.cell 2 true 3), (.t 3)], 47) := by kernel_rfl

theorem flatA_cons {one l : List Mark} {r : List (List Mark)} : flatA one (l :: r) = match lJoin l one with
    | some j => flatA j r
    | none => none := by rw [flatA]; cases lJoin l one <;> rfl
theorem f_spec_OverFlat (W0 : World) (o : Over) : Fn Go.Proofs.Tryz.prog W0 15 [eOver o] (.c (eOB (oFlat o))) [] := by
  refine fnX (c := c_spec_OverFlat) mixed c_spec_OverFlat_eq (by simp) rfl fun hg => ?_
  refine dEr ?_
  repeat (refine c0 (f_spec_OverOk W0 o) rfl ?_; first | refine dEr ?_ | exact dz)
  refine cP (fun h1 => ?_) (fun h1 => ?_)
  · refine dr ?_
    rw [oFlat, if_neg (by simp [h1])] <;> rfl
  have hz := OS.ok h1
  rw [oFlat, if_pos h1]
  refine dEr ?_
  repeat (refine c0 (f_l4CopyC W0 o (hz.oz.mono (by omega))) rfl ?_; first | refine dEr ?_ | exact dz)
  refine cP (fun h2 => ?_) (fun h2 => ?_)
  · refine dr ?_
    have e : flatO o = none := by
      unfold flatO
      split
      · rename_i a b r he; rw [he] at h2; simp at h2; omega
      · rfl
    rw [e] <;> rfl
  have h0 : 0 < o.layers.length := by omega
  obtain ⟨a, b, r, hl⟩ : ∃ a b r, o.layers = a :: b :: r := by
    cases hl : o.layers with
    | nil => rw [hl] at h0; simp at h0
    | cons a s => cases s with
      | nil => rw [hl] at h2; simp at h2
      | cons b r => exact ⟨a, b, r, rfl⟩
  have e0 : flatO o = flatA o.layers[0] (o.layers.drop 1) := by
    have e : o.layers[0] = a := by simp [hl]
    rw [e]
    unfold flatO
    rw [hl]; rfl
  rw [e0]
  have hn4 := hz.n
  refine dr ?_
  repeat (refine aM (j := 0) rfl (by omega) ?_; first | refine dr ?_ | exact dz)
  refine lp2 (fun (k : Nat) (one : List Mark) => [(2, .ptr 32 0), (4, .ptr 64 0), (5, .c (eMarks one)), (6, I k)]) (fun _ _ => [(32, .box [.nil, .nil, .nil]), (64, .box [.c (eEnts o.base), .c (eMarkss o.layers), .c (eMarks o.upper)])]) (fun k one => 1 ≤ k ∧ k ≤ o.layers.length ∧ flatA one (o.layers.drop k) = flatA o.layers[0] (o.layers.drop 1)) (fun k _ => o.layers.length - k) 1 o.layers[0] ⟨by omega, by omega, rfl⟩ ?_ ?_
  · refine dr ?_
    trivial
  rintro k one ⟨k1, k2, k3⟩
  refine dr ?_
  refine cP (fun h3 => ?_) (fun h3 => ?_)
  · have hk' : k < o.layers.length := by omega
    rw [List.drop_eq_getElem_cons hk', flatA_cons] at k3
    have q := f_spec_LayerJoin W0 o.layers[k] one
    cases hj : lJoin o.layers[k] one with
    | none =>
      rw [hj] at q k3
      refine dEr ?_
      repeat (refine c0 q rfl ?_; first | refine dEr ?_ | exact dz)
      rw [← k3] <;> rfl
    | some j =>
      rw [hj] at q k3
      refine dEr ?_
      repeat (refine c0 q rfl ?_; first | refine dEr ?_ | exact dz)
      refine ⟨k + 1, j, ⟨by omega, by omega, k3⟩, by omega, ?_⟩
      refine dr ?_
      trivial
  · have hkl : k = o.layers.length := by omega
    rw [hkl, List.drop_length, flatA] at k3
    refine dr ?_
    rw [← k3] <;> rfl


end Go.Proofs.YthblflnfhdnpdaaGreatDoor

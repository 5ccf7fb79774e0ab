/- Contracts: what is done to a tree, in full (reference); no condition. -/
import Derived.Test.YthblflnfhdnpdaaGreatDoorPb8
namespace Go.Proofs.YthblflnfhdnpdaaGreatDoor
set_option linter.unusedSimpArgs false
set_option linter.unusedVariables false
open Go Go.RowKit


def c_spec_l2Off : XC := (.s (.r [.ex 4 (.asn (.k .nil) 3 59)]) (.s (.r [.ex 7 .bsl0, .ex 5 (.asn (.t 7) 3 59)]) (.s (.s (.r [.ex 6 (.mv (.i 0))]) (.blk 0 (.loop (.s (.s (.r [.mv 8 6, .mv 9 0, .ex 10 (.len false (.t 9)), .ex 11 (.bin .lss (.t 8) (.t 10))]) (.cnd (.t 11) .skip (.exit 0))) (.s (.blk 1 (.s (.r [.mv 14 0, .mv 15 6, .ex 16 (.ia 3 (.t 14) (.t 15)), .ex 17 (.fa 0 (.t 16)), .ex 18 (.ld false 1 (.t 17)), .mv 19 1, .ex 20 (.bin .neq (.t 18) (.t 19))]) (.cnd (.t 20) (.r [.mv 21 5, .mv 22 0, .mv 23 6, .ex 24 (.ia 3 (.t 22) (.t 23)), .ex 25 (.ld true 3 (.t 24)), .ex 26 (.bsl 3 59 [(.t 25)]), .ex 27 (.app false 3 40 59 (.t 21) (.t 26)), .ex 5 (.asn (.t 27) 3 59)]) .skip))) (.r [.mv 12 6, .ex 13 (.bin .add (.t 12) (.i 1)), .mv 6 13])))))) (.s (.r [.mv 28 5, .ex 4 (.asn (.t 28) 3 59)]) .ret))))
theorem c_spec_l2Off_eq : compF Go.Proofs.Tryz.prog [] 241 = some (c_spec_l2Off.ac, [(.t 4)], 29) := by kernel_rfl

theorem f_l2Off (W0 : World) (t : List Ent) (p : Str) (ht : t.length ≤ 1000000) : Fn Go.Proofs.Tryz.prog W0 241 [eEnts t, CS p] (.c (eEnts (offT t p))) [] := by
  refine fnX (c := c_spec_l2Off) mixed c_spec_l2Off_eq (by simp) rfl fun hg => ?_
  refine dr ?_
  refine lp2 (fun (k : Nat) (out : List Ent) => [(0, .c (eEnts t)), (1, .c (CS p)), (5, .own 80 out.length), (6, I k)]) (fun _ out => [(80, .row (out.map eEnt) 3 59)]) (fun k out => k ≤ t.length ∧ out = (t.take k).filter (fun e => e.path != p) ∧ out.length ≤ k) (fun k _ => t.length - k) 0 [] ⟨by simp, rfl, by simp⟩ ?_ ?_
  · refine dr ?_
    trivial
  rintro k out ⟨hk, ho, hle⟩
  refine dr ?_
  refine cP (fun h1 => ?_) (fun h1 => ?_)
  · have hk' : k < t.length := by omega
    refine dr ?_
    refine cP (fun h2 => ?_) (fun h2 => ?_)
    · refine dr ?_
      repeat ((first | refine oB (by simp; omega) ?_ | refine oB (by simp) ?_); first | refine dr ?_ | exact dz)
      refine ⟨k + 1, out ++ [t[k]], ⟨by omega, by rw [filt_t hk' (by simp [h2]), ho], by simp; omega⟩, by omega, ?_⟩
      refine dr ?_
      repeat (refine oB (by simp <;> rfl) ?_; first | refine dr ?_ | exact dz)
      trivial
    · refine dr ?_
      refine ⟨k + 1, out, ⟨by omega, by rw [filt_f hk' (by simp [h2]), ho], by omega⟩, by omega, ?_⟩
      refine dr ?_
      trivial
  have hkl : k = t.length := by omega
  rw [hkl, List.take_length] at ho
  refine dr ?_
  repeat (refine oB (by simp) ?_; first | refine dr ?_ | exact dz)
  rw [offT, ← ho] <;> rfl


def c_spec_l2Move : XC := (.s (.r [.ex 6 (.asn (.k .nil) 3 59)]) (.s (.r [.ex 10 .bsl0, .ex 7 (.asn (.t 10) 3 59)]) (.s (.s (.r [.ex 8 (.mv (.i 0))]) (.blk 0 (.loop (.s (.s (.r [.mv 11 8, .mv 12 0, .ex 13 (.len false (.t 12)), .ex 14 (.bin .lss (.t 11) (.t 13))]) (.cnd (.t 14) .skip (.exit 0))) (.s (.blk 1 (.s (.r [.mv 17 0, .mv 18 8, .ex 19 (.ia 3 (.t 17) (.t 18)), .ex 20 (.ld true 3 (.t 19)), .ex 9 (.alloc [(.c (.sc (.string ⟨#[]⟩))), (.c (.sc (.bool false))), (.c (.sc (.string ⟨#[]⟩)))]), .nu (.st 3 (.t 9) (.t 20))]) (.s (.r [.ex 22 (.fa 0 (.t 9)), .ex 23 (.ld false 1 (.t 22)), .mv 24 1, .mv 25 2, .ex 26 (.call 277 [(.t 23), (.t 24), (.t 25)]), .mv 21 26, .ex 27 (.ext (.t 21) 0), .ex 28 (.ext (.t 21) 1), .ex 29 (.fa 0 (.t 9)), .nu (.st 1 (.t 29) (.t 27))]) (.r [.mv 30 7, .ex 31 (.ld true 3 (.t 9)), .ex 32 (.call 239 [(.t 30), (.t 31)]), .ex 7 (.asn (.t 32) 3 59)])))) (.r [.mv 15 8, .ex 16 (.bin .add (.t 15) (.i 1)), .mv 8 16])))))) (.s (.r [.mv 33 7, .ex 6 (.asn (.t 33) 3 59)]) .ret))))
theorem c_spec_l2Move_eq : compF Go.Proofs.Tryz.prog [] 240 = some (c_spec_l2Move.ac, [(.t 6)], 34) := by kernel_rfl

theorem f_l2Move (W0 : World) (t : List Ent) (f to : Str) (ht : t.length ≤ 1000000) : Fn Go.Proofs.Tryz.prog W0 240 [eEnts t, CS f, CS to] (.c (eEnts (movT t f to))) [] := by
  refine fnX (c := c_spec_l2Move) mixed c_spec_l2Move_eq (by simp) rfl fun hg => ?_
  refine dr ?_
  refine lz2 112 (fun (k : Nat) (out : List Ent) => [(0, .c (eEnts t)), (1, .c (CS f)), (2, .c (CS to)), (7, .c (eEnts out)), (8, I k)]) (fun _ _ => []) (fun k out => k ≤ t.length ∧ out = (t.take k).foldl (fun out e => put out (movE f to e)) [] ∧ out.length ≤ k) (fun k _ => t.length - k) 0 [] ⟨by simp, rfl, by simp⟩ ?_ ?_
  · refine dr ?_
    trivial
  rintro k out ⟨hk, ho, hle⟩
  refine dr ?_
  refine cP (fun h1 => ?_) (fun h1 => ?_)
  · have hk' : k < t.length := by omega
    have hn : (t.take (k + 1)).foldl (fun out e => put out (movE f to e)) [] = put out (movE f to t[k]) := by rw [fold_next hk', ← ho]
    have hpl : (put out (movE f to t[k])).length ≤ out.length + 1 := putG_len
    have hp := f_spec_PathMove W0 t[k].path f to
    rw [eOpt_eq] at hp
    refine dEr ?_
    repeat ((first | refine c0 hp rfl ?_ | refine c0 (f_l2Put W0 _ (movE f to t[k]) (by omega)) rfl ?_); first | refine dEr ?_ | exact dz)
    refine ⟨k + 1, _, ⟨by omega, hn.symm, by omega⟩, by omega, ?_⟩
    refine dr ?_
    trivial
  have hkl : k = t.length := by omega
  rw [hkl, List.take_length] at ho
  refine dr ?_
  rw [movT, ← ho]


def c_spec_l2Do : XC := (.s (.r [.ex 3 (.box (.t 1)), .ex 4 (.asn (.k .nil) 3 59)]) (.s (.s (.r [.ex 5 (.fa 0 (.t 3)), .ex 6 (.ld false 1 (.t 5))]) (.blk 0 (.s (.r [.ex 8 (.bin .eql (.t 6) (.i 1)), .mv 7 8]) (.cnd (.t 7) (.s (.r [.mv 9 0, .ex 10 (.fa 1 (.t 3)), .ex 11 (.ld false 1 (.t 10)), .ex 12 (.build [(.c (.sc (.string ⟨#[]⟩))), (.c (.sc (.bool false))), (.c (.sc (.string ⟨#[]⟩)))] [(0, (1, (.t 11))), (1, (1, .y))]), .ex 13 (.call 239 [(.t 9), (.t 12)]), .ex 4 (.asn (.t 13) 3 59)]) .ret) (.s (.r [.ex 15 (.bin .eql (.t 6) (.i 2)), .mv 14 15]) (.cnd (.t 14) (.s (.r [.mv 16 0, .ex 17 (.fa 1 (.t 3)), .ex 18 (.ld false 1 (.t 17)), .ex 19 (.fa 3 (.t 3)), .ex 20 (.ld false 1 (.t 19)), .ex 21 (.build [(.c (.sc (.string ⟨#[]⟩))), (.c (.sc (.bool false))), (.c (.sc (.string ⟨#[]⟩)))] [(0, (1, (.t 18))), (2, (1, (.t 20)))]), .ex 22 (.call 239 [(.t 16), (.t 21)]), .ex 4 (.asn (.t 22) 3 59)]) .ret) (.s (.r [.ex 24 (.bin .eql (.t 6) (.i 5)), .mv 23 24]) (.cnd (.t 23) (.s (.r [.mv 25 0, .ex 26 (.fa 1 (.t 3)), .ex 27 (.ld false 1 (.t 26)), .ex 28 (.fa 2 (.t 3)), .ex 29 (.ld false 1 (.t 28)), .ex 30 (.call 240 [(.t 25), (.t 27), (.t 29)]), .ex 4 (.asn (.t 30) 3 59)]) .ret) .skip)))))))) (.s (.r [.mv 31 0, .ex 32 (.fa 1 (.t 3)), .ex 33 (.ld false 1 (.t 32)), .ex 34 (.call 241 [(.t 31), (.t 33)]), .ex 4 (.asn (.t 34) 3 59)]) .ret)))
theorem c_spec_l2Do_eq : compF Go.Proofs.Tryz.prog [] 163 = some (c_spec_l2Do.ac, [(.t 4)], 35) := by kernel_rfl

theorem f_l2Do (W0 : World) (t : List Ent) (op : Op) (ht : t.length ≤ 100000) : Fn Go.Proofs.Tryz.prog W0 163 [eEnts t, eOp op] (.c (eEnts (doT t op))) [] := by
  refine fnX (c := c_spec_l2Do) mixed c_spec_l2Do_eq (by simp) rfl fun hg => ?_
  refine dr ?_
  refine cP (fun h1 => ?_) (fun h1 => ?_)
  · refine dEr ?_
    repeat (refine c0 (f_l2Put W0 _ ⟨op.path, true, []⟩ (by omega)) rfl ?_; first | refine dEr ?_ | exact dz)
    rw [doT, if_pos h1]
  refine dr ?_
  refine cP (fun h2 => ?_) (fun h2 => ?_)
  · refine dEr ?_
    repeat (refine c0 (f_l2Put W0 _ ⟨op.path, false, op.data⟩ (by omega)) rfl ?_; first | refine dEr ?_ | exact dz)
    rw [doT, if_neg h1, if_pos h2]
  refine dr ?_
  refine cP (fun h3 => ?_) (fun h3 => ?_)
  · refine dEr ?_
    repeat (refine c0 (f_l2Move W0 _ _ _ (by omega)) rfl ?_; first | refine dEr ?_ | exact dz)
    rw [doT, if_neg h1, if_neg h2, if_pos h3]
  refine dEr ?_
  repeat (refine c0 (f_l2Off W0 _ _ (by omega)) rfl ?_; first | refine dEr ?_ | exact dz)
  rw [doT, if_neg h1, if_neg h2, if_neg h3]


def c_spec_TreeDo : XC := (.s (.r [.ex 3 (.box (.t 1)), .ex 4 (.asn (.k .nil) 3 59), .ex 5 (.mv (.i 0))]) (.s (.s (.r [.mv 7 0, .ex 8 (.call 160 [(.t 7)]), .ex 9 (.un .not (.t 8))]) (.cnd (.t 9) (.s (.r [.ex 10 .bsl0, .ex 4 (.asn (.t 10) 3 59), .ex 5 (.mv (.i 1))]) .ret) .skip)) (.s (.s (.r [.ex 11 (.ld true 4 (.t 3)), .ex 12 (.call 161 [(.t 11)]), .ex 13 (.un .not (.t 12))]) (.cnd (.t 13) (.s (.r [.ex 14 .bsl0, .mv 15 0, .ex 16 (.app true 3 40 59 (.t 14) (.t 15)), .ex 4 (.asn (.t 16) 3 59), .ex 5 (.mv (.i 1))]) .ret) .skip)) (.s (.r [.mv 17 0, .ex 18 (.ld true 4 (.t 3)), .ex 19 (.call 162 [(.t 17), (.t 18)]), .mv 6 19]) (.s (.s (.r [.mv 20 6, .ex 21 (.bin .neq (.t 20) (.i 0))]) (.cnd (.t 21) (.s (.r [.ex 22 .bsl0, .mv 23 0, .ex 24 (.app true 3 40 59 (.t 22) (.t 23)), .mv 25 6, .ex 4 (.asn (.t 24) 3 59), .mv 5 25]) .ret) .skip)) (.s (.r [.mv 26 0, .ex 27 (.ld true 4 (.t 3)), .ex 28 (.call 163 [(.t 26), (.t 27)]), .mv 29 6, .ex 4 (.asn (.t 28) 3 59), .mv 5 29]) .ret))))))
theorem c_spec_TreeDo_eq : compF Go.Proofs.Tryz.prog [] 70 = some (c_spec_TreeDo.ac, [(.t 4), (.t 5)], 30) := by kernel_rfl

theorem f_spec_TreeDo (W0 : World) (t : List Ent) (op : Op) : Fn Go.Proofs.Tryz.prog W0 70 [eEnts t, eOp op] (.c (eTD (treeDo t op))) [] := by
  refine fnX (c := c_spec_TreeDo) mixed c_spec_TreeDo_eq (by simp) rfl fun hg => ?_
  refine dEr ?_
  repeat (refine c0 (f_spec_TreeOk W0 _) rfl ?_; first | refine dEr ?_ | exact dz)
  refine cP (fun h1 => ?_) (fun h1 => ?_)
  · refine dr ?_
    repeat (refine oB (by simp) ?_; first | refine dr ?_ | exact dz)
    rw [treeDo, if_neg (by simp [h1])] <;> rfl
  have hl := (tOk_at h1).1
  rw [treeDo, if_pos h1]
  refine dEr ?_
  repeat (refine c0 (f_spec_OpOk W0 op) rfl ?_; first | refine dEr ?_ | exact dz)
  refine cP (fun h2 => ?_) (fun h2 => ?_)
  · refine dr ?_
    repeat ((first | refine oB (by simp; omega) ?_ | refine oB (by simp) ?_); first | refine dr ?_ | exact dz)
    rw [if_neg (by simp [h2])] <;> rfl
  rw [if_pos h2]
  refine dEr ?_
  repeat (refine c0 (f_l2Code W0 t op (by omega)) rfl ?_; first | refine dEr ?_ | exact dz)
  refine cP (fun h3 => ?_) (fun h3 => ?_)
  · refine dr ?_
    repeat ((first | refine oB (by simp; omega) ?_ | refine oB (by simp) ?_); first | refine dr ?_ | exact dz)
    rw [if_neg h3] <;> rfl
  · refine dEr ?_
    repeat (refine c0 (f_l2Do W0 t op (by omega)) rfl ?_; first | refine dEr ?_ | exact dz)
    rw [if_pos h3, h3] <;> rfl


end Go.Proofs.YthblflnfhdnpdaaGreatDoor

/- Contracts: the reference's puts; no condition. -/
import Derived.Test.YthblflnfhdnpdaaGreatDoorPa3
import Derived.Test.YthblflnfhdnpdaaGreatDoorPb2
namespace Go.Proofs.YthblflnfhdnpdaaGreatDoor
set_option linter.unusedSimpArgs false
set_option linter.unusedVariables false
open Go Go.RowKit


def c_spec_l2Put : XC := (.s (.r [.ex 3 (.box (.t 1)), .ex 4 (.asn (.k .nil) 3 59)]) (.s (.r [.ex 7 .bsl0, .ex 5 (.asn (.t 7) 3 59)]) (.s (.r [.ex 6 (.mv (.i 0))]) (.s (.blk 0 (.loop (.s (.s (.d [.mv 8 6, .mv 9 0, .ex 10 (.len false (.t 9)), .ex 11 (.bin .lss (.t 8) (.t 10)), .mv 12 11, .gt 13 (.mv (.t 0)) 12, .gt 14 (.mv (.t 6)) 12, .gt 15 (.ia 3 (.t 13) (.t 14)) 12, .gt 16 (.fa 0 (.t 15)) 12, .gt 17 (.ld false 1 (.t 16)) 12, .gt 18 (.fa 0 (.t 3)) 12, .gt 19 (.ld false 1 (.t 18)) 12, .gt 20 (.bin .lss (.t 17) (.t 19)) 12, .ex 21 (.pick (.t 12) (.t 20) .n)]) (.cnd (.t 21) .skip (.exit 0))) (.blk 1 (.s (.r [.mv 22 5, .mv 23 0, .mv 24 6, .ex 25 (.ia 3 (.t 23) (.t 24)), .ex 26 (.ld true 3 (.t 25)), .ex 27 (.bsl 3 59 [(.t 26)]), .ex 28 (.app false 3 40 59 (.t 22) (.t 27)), .ex 5 (.asn (.t 28) 3 59)]) (.r [.mv 29 6, .ex 30 (.bin .add (.t 29) (.i 1)), .mv 6 30])))))) (.s (.r [.mv 31 5, .ex 32 (.ld true 3 (.t 3)), .ex 33 (.bsl 3 59 [(.t 32)]), .ex 34 (.app false 3 40 59 (.t 31) (.t 33)), .ex 5 (.asn (.t 34) 3 59)]) (.s (.s (.d [.mv 35 6, .mv 36 0, .ex 37 (.len false (.t 36)), .ex 38 (.bin .lss (.t 35) (.t 37)), .mv 39 38, .gt 40 (.mv (.t 0)) 39, .gt 41 (.mv (.t 6)) 39, .gt 42 (.ia 3 (.t 40) (.t 41)) 39, .gt 43 (.fa 0 (.t 42)) 39, .gt 44 (.ld false 1 (.t 43)) 39, .gt 45 (.fa 0 (.t 3)) 39, .gt 46 (.ld false 1 (.t 45)) 39, .gt 47 (.bin .eql (.t 44) (.t 46)) 39, .ex 48 (.pick (.t 39) (.t 47) .n)]) (.cnd (.t 48) (.r [.mv 49 6, .ex 50 (.bin .add (.t 49) (.i 1)), .mv 6 50]) .skip)) (.s (.r [.mv 51 5, .mv 52 0, .mv 53 6, .ex 54 (.slr 3 (.t 52) (.some (.t 53)) .none), .ex 55 (.app false 3 40 59 (.t 51) (.t 54)), .ex 4 (.asn (.t 55) 3 59)]) .ret)))))))
theorem c_spec_l2Put_eq : compF Go.Proofs.Tryz.prog [] 239 = some (c_spec_l2Put.ac, [(.t 4)], 56) := by kernel_rfl

theorem f_l2Put (W0 : World) (t : List Ent) (e : Ent) (ht : t.length ≤ 1000000) : Fn Go.Proofs.Tryz.prog W0 239 [eEnts t, eEnt e] (.c (eEnts (put t e))) [] := by
  refine fnX (c := c_spec_l2Put) mixed c_spec_l2Put_eq (by simp) rfl fun hg => ?_
  refine dr ?_
  refine lp (σ := Nat) (fun k => [(0, .c (eEnts t)), (3, .ptr 48 0), (5, .own 80 k), (6, I k)]) (fun k => [(48, .box [.c (CS e.path), (.c (CB e.dir)), .c (CS e.data)]), (80, .row ((t.take k).map eEnt) 3 59)]) (fun k => k ≤ t.length ∧ (t.take k).all (fun x => ltS x.path e.path) = true) (fun k => t.length - k) 0 ⟨by simp, by simp⟩ ?_ ?_
  · refine dr ?_
    trivial
  rintro k ⟨hk, ha⟩
  refine dr ?_
  refine cP (fun h1 => ?_) (fun h1 => ?_)
  · have hk' : k < t.length := by omega
    refine dr ?_
    refine cP (fun h2 => ?_) (fun h2 => ?_)
    · refine dr ?_
      repeat ((first | refine oB (by simp; omega) ?_ | refine oB (by simp) ?_); first | refine dr ?_ | exact dz)
      refine ⟨k + 1, ⟨by omega, take_all hk' ha h2⟩, by omega, ?_⟩
      refine dr ?_
      repeat ((first | refine oB (by simp; omega) ?_ | refine oB (tmn hk') ?_); first | refine dr ?_ | exact dz)
      trivial
    · refine dr ?_
      repeat ((first | refine oB (by simp; omega) ?_ | refine oB (by simp) ?_); first | refine dr ?_ | exact dz)
      refine cP (fun h3 => ?_) (fun h3 => ?_)
      rotate_left
      · omega
      refine dr ?_
      refine cP (fun h4 => ?_) (fun h4 => ?_)
      · refine dr ?_
        repeat ((first | refine sLoM (k + 1) (by omega) (by omega) ?_ | refine oB (by simp; omega) ?_ | refine oB (by simp) ?_); first | refine dr ?_ | exact dz)
        show _ = eEnts (putG _ t e)
        rw [put_at hk' ha h2 h4]; simp [eEnts]; rfl
      · refine dr ?_
        repeat ((first | refine sLoM k (by omega) (by omega) ?_ | refine oB (by simp; omega) ?_ | refine oB (by simp) ?_); first | refine dr ?_ | exact dz)
        show _ = eEnts (putG _ t e)
        rw [put_in hk' ha h2 h4]; simp [eEnts]; rfl
  · refine dr ?_
    repeat ((first | refine oB (by simp; omega) ?_ | refine oB (by simp) ?_); first | refine dr ?_ | exact dz)
    refine cP (fun h3 => ?_) (fun h3 => ?_)
    · omega
    refine dr ?_
    repeat ((first | refine sLoM k (by omega) (by omega) ?_ | refine oB (by simp; omega) ?_ | refine oB (by simp) ?_); first | refine dr ?_ | exact dz)
    show _ = eEnts (putG _ t e)
    rw [put_end (by omega) ha]
    have : k = t.length := by omega
    simp [eEnts, this]; rfl


def c_spec_l3Put : XC := (.s (.r [.ex 3 (.box (.t 1)), .ex 4 (.asn (.k .nil) 3 49)]) (.s (.r [.ex 7 .bsl0, .ex 5 (.asn (.t 7) 3 49)]) (.s (.r [.ex 6 (.mv (.i 0))]) (.s (.blk 0 (.loop (.s (.s (.d [.mv 8 6, .mv 9 0, .ex 10 (.len false (.t 9)), .ex 11 (.bin .lss (.t 8) (.t 10)), .mv 12 11, .gt 13 (.mv (.t 0)) 12, .gt 14 (.mv (.t 6)) 12, .gt 15 (.ia 3 (.t 13) (.t 14)) 12, .gt 16 (.fa 0 (.t 15)) 12, .gt 17 (.ld false 1 (.t 16)) 12, .gt 18 (.fa 0 (.t 3)) 12, .gt 19 (.ld false 1 (.t 18)) 12, .gt 20 (.bin .lss (.t 17) (.t 19)) 12, .ex 21 (.pick (.t 12) (.t 20) .n)]) (.cnd (.t 21) .skip (.exit 0))) (.blk 1 (.s (.r [.mv 22 5, .mv 23 0, .mv 24 6, .ex 25 (.ia 3 (.t 23) (.t 24)), .ex 26 (.ld true 3 (.t 25)), .ex 27 (.bsl 3 49 [(.t 26)]), .ex 28 (.app false 3 40 49 (.t 22) (.t 27)), .ex 5 (.asn (.t 28) 3 49)]) (.r [.mv 29 6, .ex 30 (.bin .add (.t 29) (.i 1)), .mv 6 30])))))) (.s (.r [.mv 31 5, .ex 32 (.ld true 3 (.t 3)), .ex 33 (.bsl 3 49 [(.t 32)]), .ex 34 (.app false 3 40 49 (.t 31) (.t 33)), .ex 5 (.asn (.t 34) 3 49)]) (.s (.s (.d [.mv 35 6, .mv 36 0, .ex 37 (.len false (.t 36)), .ex 38 (.bin .lss (.t 35) (.t 37)), .mv 39 38, .gt 40 (.mv (.t 0)) 39, .gt 41 (.mv (.t 6)) 39, .gt 42 (.ia 3 (.t 40) (.t 41)) 39, .gt 43 (.fa 0 (.t 42)) 39, .gt 44 (.ld false 1 (.t 43)) 39, .gt 45 (.fa 0 (.t 3)) 39, .gt 46 (.ld false 1 (.t 45)) 39, .gt 47 (.bin .eql (.t 44) (.t 46)) 39, .ex 48 (.pick (.t 39) (.t 47) .n)]) (.cnd (.t 48) (.r [.mv 49 6, .ex 50 (.bin .add (.t 49) (.i 1)), .mv 6 50]) .skip)) (.s (.r [.mv 51 5, .mv 52 0, .mv 53 6, .ex 54 (.slr 3 (.t 52) (.some (.t 53)) .none), .ex 55 (.app false 3 40 49 (.t 51) (.t 54)), .ex 4 (.asn (.t 55) 3 49)]) .ret)))))))
theorem c_spec_l3Put_eq : compF Go.Proofs.Tryz.prog [] 169 = some (c_spec_l3Put.ac, [(.t 4)], 56) := by kernel_rfl

theorem f_l3Put (W0 : World) (t : List Mark) (e : Mark) (ht : t.length ≤ 1000000) : Fn Go.Proofs.Tryz.prog W0 169 [eMarks t, eMark e] (.c (eMarks (lput t e))) [] := by
  refine fnX (c := c_spec_l3Put) mixed c_spec_l3Put_eq (by simp) rfl fun hg => ?_
  refine dr ?_
  refine lp (σ := Nat) (fun k => [(0, .c (eMarks t)), (3, .ptr 48 0), (5, .own 80 k), (6, I k)]) (fun k => [(48, .box [.c (CS e.path), (I e.kind), .c (CS e.data)]), (80, .row ((t.take k).map eMark) 3 49)]) (fun k => k ≤ t.length ∧ (t.take k).all (fun x => ltS x.path e.path) = true) (fun k => t.length - k) 0 ⟨by simp, by simp⟩ ?_ ?_
  · refine dr ?_
    trivial
  rintro k ⟨hk, ha⟩
  refine dr ?_
  refine cP (fun h1 => ?_) (fun h1 => ?_)
  · have hk' : k < t.length := by omega
    refine dr ?_
    refine cP (fun h2 => ?_) (fun h2 => ?_)
    · refine dr ?_
      repeat ((first | refine oB (by simp; omega) ?_ | refine oB (by simp) ?_); first | refine dr ?_ | exact dz)
      refine ⟨k + 1, ⟨by omega, take_all hk' ha h2⟩, by omega, ?_⟩
      refine dr ?_
      repeat ((first | refine oB (by simp; omega) ?_ | refine oB (tmn hk') ?_); first | refine dr ?_ | exact dz)
      trivial
    · refine dr ?_
      repeat ((first | refine oB (by simp; omega) ?_ | refine oB (by simp) ?_); first | refine dr ?_ | exact dz)
      refine cP (fun h3 => ?_) (fun h3 => ?_)
      rotate_left
      · omega
      refine dr ?_
      refine cP (fun h4 => ?_) (fun h4 => ?_)
      · refine dr ?_
        repeat ((first | refine sLoM (k + 1) (by omega) (by omega) ?_ | refine oB (by simp; omega) ?_ | refine oB (by simp) ?_); first | refine dr ?_ | exact dz)
        show _ = eMarks (putG _ t e)
        rw [put_at hk' ha h2 h4]; simp [eMarks]; rfl
      · refine dr ?_
        repeat ((first | refine sLoM k (by omega) (by omega) ?_ | refine oB (by simp; omega) ?_ | refine oB (by simp) ?_); first | refine dr ?_ | exact dz)
        show _ = eMarks (putG _ t e)
        rw [put_in hk' ha h2 h4]; simp [eMarks]; rfl
  · refine dr ?_
    repeat ((first | refine oB (by simp; omega) ?_ | refine oB (by simp) ?_); first | refine dr ?_ | exact dz)
    refine cP (fun h3 => ?_) (fun h3 => ?_)
    · omega
    refine dr ?_
    repeat ((first | refine sLoM k (by omega) (by omega) ?_ | refine oB (by simp; omega) ?_ | refine oB (by simp) ?_); first | refine dr ?_ | exact dz)
    show _ = eMarks (putG _ t e)
    rw [put_end (by omega) ha]
    have : k = t.length := by omega
    simp [eMarks, this]; rfl


def c_spec_l2Turned : XC := (.s (.r [.ex 4 (.asn (.k .nil) 1 9)]) (.s (.r [.mv 13 0, .ex 5 (.asn (.t 13) 3 59)]) (.s (.s (.r [.ex 6 (.mv (.i 0))]) (.blk 0 (.loop (.s (.s (.r [.mv 14 6, .mv 15 1, .ex 16 (.len false (.t 15)), .ex 17 (.bin .lss (.t 14) (.t 16))]) (.cnd (.t 17) .skip (.exit 0))) (.s (.blk 1 (.r [.mv 20 5, .mv 21 1, .mv 22 6, .ex 23 (.ia 3 (.t 21) (.t 22)), .ex 24 (.ld true 3 (.t 23)), .ex 25 (.call 239 [(.t 20), (.t 24)]), .ex 5 (.asn (.t 25) 3 59)])) (.r [.mv 18 6, .ex 19 (.bin .add (.t 18) (.i 1)), .mv 6 19])))))) (.s (.r [.ex 26 .bsl0, .ex 7 (.asn (.t 26) 1 9)]) (.s (.s (.r [.ex 8 (.mv (.i 0))]) (.blk 2 (.loop (.s (.s (.r [.mv 27 8, .mv 28 5, .ex 29 (.len false (.t 28)), .ex 30 (.bin .lss (.t 27) (.t 29))]) (.cnd (.t 30) .skip (.exit 2))) (.s (.blk 3 (.s (.r [.mv 34 0, .mv 35 5, .mv 36 8, .ex 37 (.ia 3 (.t 35) (.t 36)), .ex 38 (.fa 0 (.t 37)), .ex 39 (.ld false 1 (.t 38)), .ex 40 (.call 165 [(.t 34), (.t 39)]), .mv 33 40, .ex 41 (.ext (.t 33) 0), .ex 42 (.ext (.t 33) 1), .ex 9 (.alloc [(.c (.sc (.string ⟨#[]⟩))), (.c (.sc (.bool false))), (.c (.sc (.string ⟨#[]⟩)))]), .nu (.st 3 (.t 9) (.t 41)), .mv 10 42]) (.s (.r [.mv 44 1, .mv 45 5, .mv 46 8, .ex 47 (.ia 3 (.t 45) (.t 46)), .ex 48 (.fa 0 (.t 47)), .ex 49 (.ld false 1 (.t 48)), .ex 50 (.call 165 [(.t 44), (.t 49)]), .mv 43 50, .ex 51 (.ext (.t 43) 0), .ex 52 (.ext (.t 43) 1), .ex 11 (.alloc [(.c (.sc (.string ⟨#[]⟩))), (.c (.sc (.bool false))), (.c (.sc (.string ⟨#[]⟩)))]), .nu (.st 3 (.t 11) (.t 51)), .mv 12 52]) (.s (.r [.mv 53 10, .mv 54 12, .ex 55 (.bb true (.t 53) (.t 54)), .mv 56 55, .gf 57 (.ld true 3 (.t 9)) 56, .gf 58 (.ld true 3 (.t 11)) 56, .gf 59 (.beq true [.s, .b, .s] (.t 57) (.t 58)) 56, .ex 60 (.pick (.t 56) .y (.t 59))]) (.cnd (.t 60) (.r [.mv 61 7, .mv 62 5, .mv 63 8, .ex 64 (.ia 3 (.t 62) (.t 63)), .ex 65 (.fa 0 (.t 64)), .ex 66 (.ld false 1 (.t 65)), .ex 67 (.bsl 1 9 [(.t 66)]), .ex 68 (.app false 1 16 9 (.t 61) (.t 67)), .ex 7 (.asn (.t 68) 1 9)]) .skip))))) (.r [.mv 31 8, .ex 32 (.bin .add (.t 31) (.i 1)), .mv 8 32])))))) (.s (.r [.mv 69 7, .ex 4 (.asn (.t 69) 1 9)]) .ret))))))
theorem c_spec_l2Turned_eq : compF Go.Proofs.Tryz.prog [] 164 = some (c_spec_l2Turned.ac, [(.t 4)], 70) := by kernel_rfl

theorem f_l2Turned (W0 : World) (a b : List Ent) (ht : a.length + b.length ≤ 1000000) : Fn Go.Proofs.Tryz.prog W0 164 [eEnts a, eEnts b] (.c (eStrs (turned a b))) [] := by
  refine fnX (c := c_spec_l2Turned) mixed c_spec_l2Turned_eq (by simp) rfl fun hg => ?_
  refine dr ?_
  refine lp (σ := Nat) (fun k => [(0, .c (eEnts a)), (1, .c (eEnts b)), (5, .c (eEnts ((b.take k).foldl put a))), (6, I k)]) (fun _ => []) (fun k => k ≤ b.length) (fun k => b.length - k) 0 (by simp) ?_ ?_
  · refine dr ?_
    trivial
  intro k hk
  have hlk : ((b.take k).foldl put a).length ≤ a.length + b.length := fold_put_take b a k
  refine dr ?_
  refine cP (fun h1 => ?_) (fun h1 => ?_)
  · have hk' : k < b.length := by omega
    refine dr ?_
    repeat (refine c0 (f_l2Put W0 _ _ (by omega)) rfl ?_; first | refine dr ?_ | exact dz)
    intro hg1
    refine dr ?_
    refine ⟨k + 1, by omega, by omega, ?_⟩
    refine dr ?_
    repeat (refine oB (by rw [fold_next hk']) ?_; first | refine dr ?_ | exact dz)
    trivial
  have hkl : k = b.length := by omega
  subst hkl
  rw [List.take_length] at hlk ⊢
  have hB : b.foldl put a = both a b := rfl
  rw [hB] at hlk ⊢
  generalize hBB : both a b = B at *
  refine dr ?_
  refine lp (σ := Nat) (fun k => [(0, .c (eEnts a)), (1, .c (eEnts b)), (5, .c (eEnts B)), (8, I k), (7, .own 112 ((B.take k).filter (tudP a b)).length)]) (fun k => [(112, .row (((B.take k).filter (tudP a b)).map fun e => CS e.path) 1 9)]) (fun k => k ≤ B.length) (fun k => B.length - k) 0 (by simp) ?_ ?_
  · refine dr ?_
    trivial
  intro k hk
  have hfl := filt_le (q := tudP a b) (l := B) (k := k)
  refine dr ?_
  refine cP (fun h2 => ?_) (fun h2 => ?_)
  · have hk' : k < B.length := by omega
    refine dr ?_
    repeat ((first | refine c0 (f_l2Get W0 _ _) rfl ?_ | rw [eEntO_eq]); first | refine dr ?_ | exact dz)
    intro hg1
    refine dr ?_
    repeat ((first | refine c0 (f_l2Get W0 _ _) rfl ?_ | rw [eEntO_eq]); first | refine dr ?_ | exact dz)
    intro hg1
    refine dr ?_
    have hq : tudP a b B[k] = !(decide ((get a B[k].path).isSome = (get b B[k].path).isSome) && decide ((get a B[k].path).getD noE = (get b B[k].path).getD noE)) := by
      rw [tudP, Bool.eq_iff_iff]; simp [some_ne (d := noE)]
    refine cP (fun h3 => ?_) (fun h3 => ?_)
    · refine dr ?_
      repeat ((first | refine oB (by simp; omega) ?_ | refine oB (by simp) ?_); first | refine dr ?_ | exact dz)
      have hT : tudP a b B[k] = true := by rw [hq]; simp [h3]
      refine ⟨k + 1, by omega, by omega, ?_⟩
      refine dr ?_
      repeat (refine oB (by rw [filt_t hk' hT]; simp) ?_; first | refine dr ?_ | exact dz)
      trivial
    · refine dr ?_
      refine cP (fun h4 => ?_) (fun h4 => ?_)
      · refine dr ?_
        repeat ((first | refine oB (by simp; omega) ?_ | refine oB (by simp) ?_); first | refine dr ?_ | exact dz)
        have hT : tudP a b B[k] = true := by rw [hq, ← bqEnt, h4]; simp
        refine ⟨k + 1, by omega, by omega, ?_⟩
        refine dr ?_
        repeat (refine oB (by rw [filt_t hk' hT]; simp) ?_; first | refine dr ?_ | exact dz)
        trivial
      · refine dr ?_
        have hT : tudP a b B[k] = false := by rw [hq, ← bqEnt, h4]; simp [h3]
        refine ⟨k + 1, by omega, by omega, ?_⟩
        refine dr ?_
        repeat (refine oB (by rw [filt_f hk' hT]) ?_; first | refine dr ?_ | exact dz)
        trivial
  have hkl : k = B.length := by omega
  refine dr ?_
  repeat (refine oB (by simp) ?_; first | refine dr ?_ | exact dz)
  rw [turned, hBB, hkl, List.take_length]
  simp [eStrs]


end Go.Proofs.YthblflnfhdnpdaaGreatDoor

/- Contracts: layers on trees, and what differs (reference); no condition. -/
import Derived.Test.YthblflnfhdnpdaaGreatDoorPb4
import Derived.Test.YthblflnfhdnpdaaGreatDoorBm2
namespace Go.Proofs.YthblflnfhdnpdaaGreatDoor
set_option linter.unusedSimpArgs false
set_option linter.unusedVariables false
open Go Go.RowKit


def c_spec_l3On : XC := (.s (.r [.ex 4 (.asn (.k .nil) 3 59)]) (.s (.r [.ex 8 .bsl0, .ex 5 (.asn (.t 8) 3 59)]) (.s (.s (.r [.ex 6 (.mv (.i 0))]) (.blk 0 (.loop (.s (.s (.r [.mv 9 6, .mv 10 1, .ex 11 (.len false (.t 10)), .ex 12 (.bin .lss (.t 9) (.t 11))]) (.cnd (.t 12) .skip (.exit 0))) (.s (.blk 1 (.s (.r [.mv 15 0, .mv 16 1, .mv 17 6, .ex 18 (.ia 3 (.t 16) (.t 17)), .ex 19 (.fa 0 (.t 18)), .ex 20 (.ld false 1 (.t 19)), .ex 21 (.call 223 [(.t 15), (.t 20)]), .ex 22 (.un .not (.t 21))]) (.cnd (.t 22) (.r [.mv 23 5, .mv 24 1, .mv 25 6, .ex 26 (.ia 3 (.t 24) (.t 25)), .ex 27 (.ld true 3 (.t 26)), .ex 28 (.bsl 3 59 [(.t 27)]), .ex 29 (.app false 3 40 59 (.t 23) (.t 28)), .ex 5 (.asn (.t 29) 3 59)]) .skip))) (.r [.mv 13 6, .ex 14 (.bin .add (.t 13) (.i 1)), .mv 6 14])))))) (.s (.s (.r [.ex 7 (.mv (.i 0))]) (.blk 2 (.loop (.s (.s (.r [.mv 30 7, .mv 31 0, .ex 32 (.len false (.t 31)), .ex 33 (.bin .lss (.t 30) (.t 32))]) (.cnd (.t 33) .skip (.exit 2))) (.s (.blk 3 (.s (.r [.mv 36 0, .mv 37 7, .ex 38 (.ia 3 (.t 36) (.t 37)), .ex 39 (.fa 1 (.t 38)), .ex 40 (.ld false 1 (.t 39))]) (.blk 4 (.s (.r [.ex 42 (.bin .eql (.t 40) (.i 1)), .mv 41 42]) (.cnd (.t 41) (.d [.mv 43 5, .mv 44 0, .mv 45 7, .ex 46 (.ia 3 (.t 44) (.t 45)), .ex 47 (.fa 0 (.t 46)), .ex 48 (.ld false 1 (.t 47)), .mv 49 0, .mv 50 7, .ex 51 (.ia 3 (.t 49) (.t 50)), .ex 52 (.fa 2 (.t 51)), .ex 53 (.ld false 1 (.t 52)), .ex 54 (.build [(.c (.sc (.string ⟨#[]⟩))), (.c (.sc (.bool false))), (.c (.sc (.string ⟨#[]⟩)))] [(0, (1, (.t 48))), (2, (1, (.t 53)))]), .ex 55 (.call 239 [(.t 43), (.t 54)]), .ex 5 (.asn (.t 55) 3 59)]) (.s (.s (.r [.ex 57 (.bin .eql (.t 40) (.i 2)), .mv 56 57]) (.cnd (.t 56) .skip (.r [.ex 58 (.bin .eql (.t 40) (.i 4)), .mv 56 58]))) (.cnd (.t 56) (.r [.mv 59 5, .mv 60 0, .mv 61 7, .ex 62 (.ia 3 (.t 60) (.t 61)), .ex 63 (.fa 0 (.t 62)), .ex 64 (.ld false 1 (.t 63)), .ex 65 (.build [(.c (.sc (.string ⟨#[]⟩))), (.c (.sc (.bool false))), (.c (.sc (.string ⟨#[]⟩)))] [(0, (1, (.t 64))), (1, (1, .y))]), .ex 66 (.call 239 [(.t 59), (.t 65)]), .ex 5 (.asn (.t 66) 3 59)]) .skip))))))) (.r [.mv 34 7, .ex 35 (.bin .add (.t 34) (.i 1)), .mv 7 35])))))) (.s (.r [.mv 67 5, .ex 4 (.asn (.t 67) 3 59)]) .ret)))))
theorem c_spec_l3On_eq : compF Go.Proofs.Tryz.prog [] 212 = some (c_spec_l3On.ac, [(.t 4)], 68) := by kernel_rfl

theorem f_l3On (W0 : World) (l : List Mark) (t : List Ent) (ht : t.length + l.length ≤ 1000000) : Fn Go.Proofs.Tryz.prog W0 212 [eMarks l, eEnts t] (.c (eEnts (onRaw l t))) [] := by
  refine fnX (c := c_spec_l3On) mixed c_spec_l3On_eq (by simp) rfl fun hg => ?_
  refine dr ?_
  refine lp (σ := Nat) (fun k => [(0, .c (eMarks l)), (1, .c (eEnts t)), (5, .own 80 ((t.take k).filter fun e => !hides l e.path).length), (6, I k)]) (fun k => [(80, .row (((t.take k).filter fun e => !hides l e.path).map eEnt) 3 59)]) (fun k => k ≤ t.length) (fun k => t.length - k) 0 (by simp) ?_ ?_
  · refine dr ?_
    trivial
  intro k hk
  have hfl := filt_le (q := fun e : Ent => !hides l e.path) (l := t) (k := k)
  refine dr ?_
  refine cP (fun h1 => ?_) (fun h1 => ?_)
  · have hk' : k < t.length := by omega
    refine dEr ?_
    repeat (refine c0 (f_l3Hides W0 _ _) rfl ?_; first | refine dEr ?_ | exact dz)
    refine cP (fun h2 => ?_) (fun h2 => ?_)
    · refine dr ?_
      repeat ((first | refine oB (by simp; omega) ?_ | refine oB (by simp) ?_); first | refine dr ?_ | exact dz)
      refine ⟨k + 1, by omega, by omega, ?_⟩
      refine dr ?_
      repeat (refine oB (by rw [filt_t hk' (by simp [h2])]; simp) ?_; first | refine dr ?_ | exact dz)
      trivial
    · refine dr ?_
      refine ⟨k + 1, by omega, by omega, ?_⟩
      refine dr ?_
      repeat (refine oB (by rw [filt_f hk' (by simp [h2])]) ?_; first | refine dr ?_ | exact dz)
      trivial
  have hkl : k = t.length := by omega
  subst hkl
  rw [List.take_length] at hfl ⊢
  have hR : onRaw l t = l.foldl onP (t.filter fun e => !hides l e.path) := rfl
  rw [hR]
  generalize (t.filter fun e => !hides l e.path) = t0 at *
  refine dr ?_
  refine lz (σ := Nat) 80 (fun k => [(0, .c (eMarks l)), (1, .c (eEnts t)), (5, .c (eEnts ((l.take k).foldl onP t0))), (7, I k)]) (fun _ => []) (fun k => k ≤ l.length) (fun k => l.length - k) 0 (by simp) ?_ ?_
  · refine dr ?_
    repeat (refine oB (by simp) ?_; first | refine dr ?_ | exact dz)
    trivial
  clear h1
  intro k hk
  have hlk := fold_on_len (l.take k) t0
  have hlk2 := List.length_take_le' k l
  refine dr ?_
  refine cP (fun h1 => ?_) (fun h1 => ?_)
  · have hk' : k < l.length := by omega
    refine dr ?_
    refine cP (fun h2 => ?_) (fun h2 => ?_)
    · refine dr ?_
      repeat (refine c0 (f_l2Put W0 _ ⟨_, _, _⟩ (by omega)) rfl ?_; first | refine dr ?_ | exact dz)
      intro hg1
      refine dr ?_
      refine ⟨k + 1, by omega, by omega, ?_⟩
      refine dr ?_
      repeat (refine oB (by rw [fold_next hk', onP, if_pos h2]) ?_; first | refine dr ?_ | exact dz)
      trivial
    · refine dr ?_
      refine cP (fun h3 => ?_) (fun h3 => ?_)
      · refine dr ?_
        refine cP (fun h30 => ?_) (fun h30 => ?_)
        rotate_left
        · omega
        refine dr ?_
        repeat (refine c0 (f_l2Put W0 _ ⟨_, _, _⟩ (by omega)) rfl ?_; first | refine dr ?_ | exact dz)
        intro hg1
        refine dr ?_
        refine ⟨k + 1, by omega, by omega, ?_⟩
        refine dr ?_
        repeat (refine oB (by rw [fold_next hk', onP, if_neg h2, if_pos (.inl h3)]) ?_; first | refine dr ?_ | exact dz)
        trivial
      · refine dr ?_
        refine cP (fun h4 => ?_) (fun h4 => ?_)
        · refine dr ?_
          repeat (refine c0 (f_l2Put W0 _ ⟨_, _, _⟩ (by omega)) rfl ?_; first | refine dr ?_ | exact dz)
          intro hg1
          refine dr ?_
          refine ⟨k + 1, by omega, by omega, ?_⟩
          refine dr ?_
          repeat (refine oB (by rw [fold_next hk', onP, if_neg h2, if_pos (.inr h4)]) ?_; first | refine dr ?_ | exact dz)
          trivial
        · refine dr ?_
          refine ⟨k + 1, by omega, by omega, ?_⟩
          refine dr ?_
          repeat (refine oB (by rw [fold_next hk', onP, if_neg h2, if_neg (by omega)]) ?_; first | refine dr ?_ | exact dz)
          trivial
  have hkl : k = l.length := by omega
  refine dr ?_
  rw [hkl, List.take_length]


def c_spec_LayerOn : XC := (.s (.r [.ex 4 (.asn (.k .nil) 3 59), .ex 5 (.mv .n)]) (.s (.s (.r [.mv 7 0, .ex 8 (.call 149 [(.t 7)]), .ex 9 (.un .not (.t 8)), .mv 10 9, .gf 11 (.mv (.t 1)) 10, .gf 12 (.call 160 [(.t 11)]) 10, .gf 13 (.un .not (.t 12)) 10, .ex 14 (.pick (.t 10) .y (.t 13))]) (.cnd (.t 14) (.s (.r [.ex 15 .bsl0, .ex 4 (.asn (.t 15) 3 59), .ex 5 (.mv .n)]) .ret) .skip)) (.s (.r [.mv 16 0, .mv 17 1, .ex 18 (.call 212 [(.t 16), (.t 17)]), .ex 6 (.asn (.t 18) 3 59)]) (.s (.s (.r [.mv 19 6, .ex 20 (.len false (.t 19)), .ex 21 (.bin .gtr (.t 20) (.i 16))]) (.cnd (.t 21) (.s (.r [.ex 22 .bsl0, .ex 4 (.asn (.t 22) 3 59), .ex 5 (.mv .n)]) .ret) .skip)) (.s (.r [.mv 23 6, .ex 4 (.asn (.t 23) 3 59), .ex 5 (.mv .y)]) .ret)))))
theorem c_spec_LayerOn_eq : compF Go.Proofs.Tryz.prog [] 138 = some (c_spec_LayerOn.ac, [(.t 4), (.t 5)], 24) := by kernel_rfl

theorem f_spec_LayerOn (W0 : World) (l : List Mark) (t : List Ent) : Fn Go.Proofs.Tryz.prog W0 138 [eMarks l, eEnts t] (.c (eEntsO (lOn l t))) [] := by
  refine fnX (c := c_spec_LayerOn) mixed c_spec_LayerOn_eq (by simp) rfl fun hg => ?_
  refine dr ?_
  repeat (refine c0 (f_spec_LayerOk W0 _) rfl ?_; first | refine dr ?_ | exact dz)
  refine cP (fun h1 => ?_) (fun h1 => ?_)
  · refine dEr ?_
    rw [lOn, if_neg (by simp [h1])]; rfl
  refine dEr ?_
  repeat (refine c0 (f_spec_TreeOk W0 _) rfl ?_; first | refine dEr ?_ | exact dz)
  refine cP (fun h2 => ?_) (fun h2 => ?_)
  · refine dr ?_
    rw [lOn, if_neg (by simp [h2])]; rfl
  have hl : l.length ≤ 32 := by simp only [lOk, Bool.and_eq_true, decide_eq_true_eq] at h1; exact h1.1
  have ht := (tOk_at h2).1
  refine dr ?_
  repeat (refine c0 (f_l3On W0 _ _ (by omega)) rfl ?_; first | refine dr ?_ | exact dz)
  intro hg2
  refine dr ?_
  rw [lOn, if_pos (by simp [h1, h2])]
  refine cP (fun h3 => ?_) (fun h3 => ?_)
  · refine dr ?_
    rw [if_neg (by omega)]; rfl
  · refine dr ?_
    rw [if_pos (by omega)]; rfl


def c_spec_l3Ups : XC := (.s (.r [.ex 4 (.asn (.k .nil) 3 49)]) (.s (.r [.mv 6 1, .ex 7 (.call 167 [(.t 6)]), .mv 5 7]) (.s (.s (.r [.mv 8 5, .ex 9 (.bin .eql (.t 8) (.s [47]))]) (.cnd (.t 9) (.s (.r [.mv 10 0, .ex 4 (.asn (.t 10) 3 49)]) .ret) .skip)) (.s (.s (.r [.mv 11 0, .mv 12 5, .ex 13 (.call 224 [(.t 11), (.t 12)]), .ex 14 (.bin .eql (.t 13) (.i 0))]) (.cnd (.t 14) (.r [.mv 15 0, .mv 16 5, .ex 17 (.build [(.c (.sc (.string ⟨#[]⟩))), (.c (.sc (.int .i64 0))), (.c (.sc (.string ⟨#[]⟩)))] [(0, (1, (.t 16))), (1, (1, (.i 2)))]), .ex 18 (.call 169 [(.t 15), (.t 17)]), .ex 0 (.asn (.t 18) 3 49)]) .skip)) (.s (.r [.mv 19 0, .mv 20 5, .ex 21 (.call 168 [(.t 19), (.t 20)]), .ex 4 (.asn (.t 21) 3 49)]) .ret)))))
theorem c_spec_l3Ups_eq : compF Go.Proofs.Tryz.prog [] 168 = some (c_spec_l3Ups.ac, [(.t 4)], 22) := by kernel_rfl

theorem f_l3Ups (W0 : World) : ∀ (n : Nat) (l : List Mark) (p : Str), pOk p = true → (names p).length ≤ n → l.length + n ≤ 1000000 → Fn Go.Proofs.Tryz.prog W0 168 [eMarks l, CS p] (.c (eMarks ((upsN n p).foldl upsP l))) []
  | 0, l, p, hp, hn, _ => by have := (pOk_names hp).1.1; omega
  | n + 1, l, p, hp, hn, hl => by
    refine fnX (c := c_spec_l3Ups) mixed c_spec_l3Ups_eq (by simp) rfl fun hg => ?_
    refine dr ?_
    repeat (refine c0 (f_spec_PathUp W0 _) rfl ?_; first | refine dr ?_ | exact dz)
    intro hg1
    rw [upsN]
    refine cP (fun h1 => ?_) (fun h1 => ?_)
    · refine dr ?_
      rw [if_pos h1]; rfl
    rw [if_neg h1]
    obtain ⟨u1, _, u2⟩ := pOk_up hp h1
    have e : ((pUp p :: upsN n (pUp p)).foldl upsP l) = (upsN n (pUp p)).foldl upsP (upsP l (pUp p)) := rfl
    rw [e, upsP]
    refine dr ?_
    repeat (refine c0 (f_l3Kind W0 _ _) rfl ?_; first | refine dr ?_ | exact dz)
    intro hg2
    refine cP (fun h2 => ?_) (fun h2 => ?_)
    · rw [if_pos h2]
      have hpl : (lput l ⟨pUp p, 2, []⟩).length ≤ l.length + 1 := putG_len
      refine dr ?_
      repeat (refine c0 (f_l3Put W0 _ ⟨pUp p, 2, []⟩ (by omega)) rfl ?_; first | refine dr ?_ | exact dz)
      intro hg3
      refine dr ?_
      repeat (refine c0 (f_l3Ups W0 n _ _ u1 (by omega) (by omega)) rfl ?_; first | refine dr ?_ | exact dz)
      intro hg4
      exact dz
    · rw [if_neg h2]
      refine dr ?_
      repeat (refine c0 (f_l3Ups W0 n _ _ u1 (by omega) (by omega)) rfl ?_; first | refine dr ?_ | exact dz)
      intro hg4
      exact dz


def c_spec_l3Diff : XC := (.s (.r [.ex 4 (.asn (.k .nil) 3 49)]) (.s (.r [.ex 11 .bsl0, .ex 5 (.asn (.t 11) 3 49)]) (.s (.r [.mv 12 0, .mv 13 1, .ex 14 (.call 164 [(.t 12), (.t 13)]), .ex 6 (.asn (.t 14) 1 9)]) (.s (.s (.r [.ex 7 (.mv (.i 0))]) (.blk 0 (.loop (.s (.s (.r [.mv 15 7, .mv 16 6, .ex 17 (.len false (.t 16)), .ex 18 (.bin .lss (.t 15) (.t 17))]) (.cnd (.t 18) .skip (.exit 0))) (.s (.blk 1 (.s (.r [.mv 22 1, .mv 23 6, .mv 24 7, .ex 25 (.ia 1 (.t 23) (.t 24)), .ex 26 (.ld false 1 (.t 25)), .ex 27 (.call 165 [(.t 22), (.t 26)]), .mv 21 27, .ex 28 (.ext (.t 21) 0), .ex 29 (.ext (.t 21) 1), .ex 8 (.alloc [(.c (.sc (.string ⟨#[]⟩))), (.c (.sc (.bool false))), (.c (.sc (.string ⟨#[]⟩)))]), .nu (.st 3 (.t 8) (.t 28)), .mv 9 29]) (.s (.r [.mv 30 6, .mv 31 7, .ex 32 (.ia 1 (.t 30) (.t 31)), .ex 33 (.ld false 1 (.t 32)), .ex 34 (.build [(.c (.sc (.string ⟨#[]⟩))), (.c (.sc (.int .i64 0))), (.c (.sc (.string ⟨#[]⟩)))] [(0, (1, (.t 33))), (1, (1, (.i 3)))]), .ex 10 (.alloc [(.c (.sc (.string ⟨#[]⟩))), (.c (.sc (.int .i64 0))), (.c (.sc (.string ⟨#[]⟩)))]), .nu (.st 3 (.t 10) (.t 34))]) (.s (.s (.r [.mv 35 9]) (.cnd (.t 35) (.d [.mv 36 6, .mv 37 7, .ex 38 (.ia 1 (.t 36) (.t 37)), .ex 39 (.ld false 1 (.t 38)), .ex 40 (.fa 2 (.t 8)), .ex 41 (.ld false 1 (.t 40)), .ex 42 (.build [(.c (.sc (.string ⟨#[]⟩))), (.c (.sc (.int .i64 0))), (.c (.sc (.string ⟨#[]⟩)))] [(0, (1, (.t 39))), (1, (1, (.i 1))), (2, (1, (.t 41)))]), .nu (.st 3 (.t 10) (.t 42))]) .skip)) (.s (.s (.r [.mv 43 9, .mv 44 43, .gt 45 (.fa 1 (.t 8)) 44, .gt 46 (.ld false 1 (.t 45)) 44, .ex 47 (.pick (.t 44) (.t 46) .n)]) (.cnd (.t 47) (.r [.ex 48 (.fa 1 (.t 10)), .nu (.st 1 (.t 48) (.i 2))]) .skip)) (.s (.r [.mv 49 9, .mv 50 49, .gf 51 (.mv (.t 1)) 50, .gf 52 (.mv (.t 6)) 50, .gf 53 (.mv (.t 7)) 50, .gf 54 (.ia 1 (.t 52) (.t 53)) 50, .gf 55 (.ld false 1 (.t 54)) 50, .gf 56 (.call 167 [(.t 55)]) 50, .gf 57 (.call 166 [(.t 51), (.t 56)]) 50, .ex 58 (.pick (.t 50) .y (.t 57))]) (.cnd (.t 58) (.d [.mv 59 5, .ex 60 (.ld true 3 (.t 10)), .ex 61 (.call 169 [(.t 59), (.t 60)]), .mv 62 6, .mv 63 7, .ex 64 (.ia 1 (.t 62) (.t 63)), .ex 65 (.ld false 1 (.t 64)), .ex 66 (.call 168 [(.t 61), (.t 65)]), .ex 5 (.asn (.t 66) 3 49)]) .skip))))))) (.r [.mv 19 7, .ex 20 (.bin .add (.t 19) (.i 1)), .mv 7 20])))))) (.s (.r [.mv 67 5, .ex 4 (.asn (.t 67) 3 49)]) .ret)))))
theorem c_spec_l3Diff_eq : compF Go.Proofs.Tryz.prog [] 74 = some (c_spec_l3Diff.ac, [(.t 4)], 68) := by kernel_rfl

theorem f_l3Diff (W0 : World) (a b : List Ent) (ha : tOk a = true) (hb : tOk b = true) : Fn Go.Proofs.Tryz.prog W0 74 [eEnts a, eEnts b] (.c (eMarks (diff a b))) [] := by
  have la := (tOk_at ha).1
  have lb := (tOk_at hb).1
  have lt := turned_len (a := a) (b := b)
  have hok : ∀ p ∈ turned a b, pOk p = true := fun p hp => turned_ok ha hb hp
  refine fnX (c := c_spec_l3Diff) mixed c_spec_l3Diff_eq (by simp) rfl fun hg => ?_
  refine dr ?_
  repeat (refine c0 (f_l2Turned W0 _ _ (by omega)) rfl ?_; first | refine dr ?_ | exact dz)
  intro hg1
  rw [diff]
  generalize turned a b = L at *
  refine dr ?_
  refine lz (σ := Nat) 80 (fun k => [(1, .c (eEnts b)), (6, .c (eStrs L)), (5, .c (eMarks ((L.take k).foldl (difP b) []))), (7, I k)]) (fun _ => []) (fun k => k ≤ L.length) (fun k => L.length - k) 0 (by simp) ?_ ?_
  · refine dr ?_
    trivial
  intro k hk
  have hlk := fold_dif_len (b := b) (L.take k) []
  have hlk2 := List.length_take_le' k L
  simp only [List.length_nil] at hlk
  refine dr ?_
  refine cP (fun h1 => ?_) (fun h1 => ?_)
  · have hk' : k < L.length := by omega
    have hp := hok _ (List.getElem_mem hk')
    have hc := f_l2Get W0 b L[k]
    have hn := (pOk_names hp).1.2
    have hpl : ∀ m, (lput ((L.take k).foldl (difP b) []) m).length ≤ ((L.take k).foldl (difP b) []).length + 1 := fun m => putG_len
    cases hx : get b L[k] with
    | none =>
      rw [hx] at hc
      refine dr ?_
      repeat (refine c0 hc rfl ?_; first | refine dr ?_ | exact dz)
      intro hg2
      refine dr ?_
      repeat ((first | refine c0 (f_spec_PathUp W0 _) rfl ?_ | refine c0 (f_l2Dir W0 _ _) rfl ?_); first | refine dr ?_ | exact dz)
      intro hg3
      refine cP (fun h2 => ?_) (fun h2 => ?_)
      · refine dEr ?_
        repeat ((first | refine c0 (f_l3Put W0 _ ⟨L[k], 3, []⟩ (by omega)) rfl ?_ | refine c0 (f_l3Ups W0 3 _ _ hp hn (by have := hpl ⟨L[k], 3, []⟩; omega)) rfl ?_); first | refine dEr ?_ | exact dz)
        refine ⟨k + 1, by omega, by omega, ?_⟩
        refine dr ?_
        repeat (refine oB (by rw [fold_next hk', difP, difM, hx]; simp only [if_pos h2]; rfl) ?_; first | refine dr ?_ | exact dz)
        trivial
      · refine dr ?_
        refine ⟨k + 1, by omega, by omega, ?_⟩
        refine dr ?_
        repeat (refine oB (by rw [fold_next hk', difP, difM, hx]; simp [h2]) ?_; first | refine dr ?_ | exact dz)
        trivial
    | some e =>
      rw [hx] at hc
      refine dr ?_
      repeat (refine c0 hc rfl ?_; first | refine dr ?_ | exact dz)
      intro hg2
      refine dr ?_
      refine cP (fun h2 => ?_) (fun h2 => ?_)
      · refine dEr ?_
        repeat ((first | refine c0 (f_l3Put W0 _ ⟨L[k], 2, e.data⟩ (by omega)) rfl ?_ | refine c0 (f_l3Ups W0 3 _ _ hp hn (by have := hpl ⟨L[k], 2, e.data⟩; omega)) rfl ?_); first | refine dEr ?_ | exact dz)
        refine ⟨k + 1, by omega, by omega, ?_⟩
        refine dr ?_
        repeat (refine oB (by rw [fold_next hk', difP, difM, hx]; simp only [if_pos h2]; rfl) ?_; first | refine dr ?_ | exact dz)
        trivial
      · refine dEr ?_
        repeat ((first | refine c0 (f_l3Put W0 _ ⟨L[k], 1, e.data⟩ (by omega)) rfl ?_ | refine c0 (f_l3Ups W0 3 _ _ hp hn (by have := hpl ⟨L[k], 1, e.data⟩; omega)) rfl ?_); first | refine dEr ?_ | exact dz)
        refine ⟨k + 1, by omega, by omega, ?_⟩
        refine dr ?_
        repeat (refine oB (by rw [fold_next hk', difP, difM, hx]; simp [h2]; rfl) ?_; first | refine dr ?_ | exact dz)
        trivial
  have hkl : k = L.length := by omega
  refine dr ?_
  rw [hkl, List.take_length]


end Go.Proofs.YthblflnfhdnpdaaGreatDoor

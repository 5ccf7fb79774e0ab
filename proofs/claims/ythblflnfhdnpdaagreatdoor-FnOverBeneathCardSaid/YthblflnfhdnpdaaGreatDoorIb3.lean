/- Contracts: the program's layers; no condition but one on a package variable that start-up code lays. -/
import Derived.Test.YthblflnfhdnpdaaGreatDoorIb2
namespace Go.Proofs.YthblflnfhdnpdaaGreatDoor
set_option linter.unusedSimpArgs false
set_option linter.unusedVariables false
open Go Go.RowKit


def c_impl_LayerOk : XC := (.s (.r [.ex 2 (.mv .n)]) (.s (.s (.r [.mv 8 0, .ex 9 (.len false (.t 8)), .ex 10 (.bin .gtr (.t 9) (.i 32))]) (.cnd (.t 10) (.s (.r [.ex 2 (.mv .n)]) .ret) .skip)) (.s (.s (.r [.mv 11 0, .ex 12 (.len false (.t 11)), .ex 13 (.mv (.i 0))]) (.blk 0 (.loop (.s (.r [.ex 14 (.bin .lss (.t 13) (.t 12))]) (.s (.cnd (.t 14) .skip (.exit 0)) (.s (.blk 1 (.s (.r [.mv 15 13, .ex 16 (.ia 3 (.t 11) (.t 13)), .ex 17 (.ld true 3 (.t 16)), .ex 4 (.alloc [(.c (.sc (.string ⟨#[]⟩))), (.c (.sc (.int .i64 0))), (.c (.sc (.string ⟨#[]⟩)))]), .mv 3 15, .nu (.st 3 (.t 4) (.t 17))]) (.s (.s (.r [.ex 18 (.ld true 3 (.t 4)), .ex 19 (.call 213 [(.t 18)]), .ex 20 (.un .not (.t 19))]) (.cnd (.t 20) (.s (.r [.ex 2 (.mv .n)]) .ret) .skip)) (.s (.s (.d [.mv 21 3, .ex 22 (.bin .gtr (.t 21) (.i 0)), .mv 23 22, .gt 24 (.mv (.t 0)) 23, .gt 25 (.mv (.t 3)) 23, .gt 26 (.bin .sub (.t 25) (.i 1)) 23, .gt 27 (.ia 3 (.t 24) (.t 26)) 23, .gt 28 (.fa 0 (.t 27)) 23, .gt 29 (.ld false 1 (.t 28)) 23, .gt 30 (.fa 0 (.t 4)) 23, .gt 31 (.ld false 1 (.t 30)) 23, .gt 32 (.bin .geq (.t 29) (.t 31)) 23, .ex 33 (.pick (.t 23) (.t 32) .n)]) (.cnd (.t 33) (.s (.r [.ex 2 (.mv .n)]) .ret) .skip)) (.s (.s (.r [.ex 34 (.fa 0 (.t 4)), .ex 35 (.ld false 1 (.t 34)), .ex 36 (.call 158 [(.t 35)]), .mv 5 36]) (.s (.r [.mv 37 5, .ex 38 (.bin .neq (.t 37) (.s [47]))]) (.cnd (.t 38) (.s (.r [.mv 40 0, .mv 41 5, .ex 42 (.call 159 [(.t 40), (.t 41)]), .mv 39 42, .ex 43 (.ext (.t 39) 0), .ex 44 (.ext (.t 39) 1), .ex 6 (.alloc [(.c (.sc (.string ⟨#[]⟩))), (.c (.sc (.int .i64 0))), (.c (.sc (.string ⟨#[]⟩)))]), .nu (.st 3 (.t 6) (.t 43)), .mv 7 44]) (.s (.r [.mv 45 7, .ex 46 (.un .not (.t 45)), .mv 47 46, .gf 48 (.ld true 3 (.t 6)) 47, .gf 49 (.call 214 [(.t 48)]) 47, .gf 50 (.un .not (.t 49)) 47, .ex 51 (.pick (.t 47) .y (.t 50))]) (.cnd (.t 51) (.s (.r [.ex 2 (.mv .n)]) .ret) .skip))) .skip))) (.s (.r [.ex 52 (.fa 1 (.t 4)), .ex 53 (.ld false 1 (.t 52)), .ex 54 (.bin .eql (.t 53) (.i 3)), .mv 55 54, .gf 56 (.fa 1 (.t 4)) 55, .gf 57 (.ld false 1 (.t 56)) 55, .gf 58 (.bin .eql (.t 57) (.i 4)) 55, .ex 59 (.pick (.t 55) .y (.t 58)), .mv 60 59, .gt 61 (.mv (.t 0)) 60, .gt 62 (.fa 0 (.t 4)) 60, .gt 63 (.ld false 1 (.t 62)) 60, .gt 64 (.call 147 [(.t 61), (.t 63)]) 60, .ex 65 (.pick (.t 60) (.t 64) .n)]) (.cnd (.t 65) (.s (.r [.ex 2 (.mv .n)]) .ret) .skip))))))) (.r [.ex 66 (.bin .add (.t 13) (.i 1)), .mv 13 66]))))))) (.s (.r [.ex 2 (.mv .y)]) .ret))))
theorem c_impl_LayerOk_eq : compF Go.Proofs.Tryz.prog [] 145 = some (c_impl_LayerOk.ac, [(.t 2)], 67) := by kernel_rfl

theorem f_impl_LayerOk (W0 : World) (hM : HM W0) (l : List Mark) : Fn Go.Proofs.Tryz.prog W0 145 [eMarks l] (.c (CB (lOk l))) [] := by
  refine fnX (c := c_impl_LayerOk) mixed c_impl_LayerOk_eq (by simp) rfl fun hg => ?_
  have g1 := goodRow (hg _ (by simp : eMarks l ∈ _))
  have no : ¬ (lOk l = true) → CB false = CB (lOk l) := fun h => bF (by rw [Bool.eq_false_iff]; exact h)
  refine dr ?_
  refine cP (fun h1 => ?_) (fun h1 => ?_)
  · refine dr ?_
    exact no fun h => by have := (lOk_iff.1 h).1; omega
  refine dr ?_
  refine lp (σ := Nat) (fun k => [(0, .c (eMarks l)), (11, .c (eMarks l)), (12, I l.length), (13, I k)]) (fun _ => []) (fun k => k ≤ l.length ∧ ∀ j (h : j < l.length), j < k → mok l[j] = true ∧ inD l l[j].path = true ∧ (0 < j → ltS l[j - 1].path l[j].path = true) ∧ (2 < l[j].kind → bare2 l l[j].path = false)) (fun k => l.length - k) 0 ⟨by simp, by simp⟩ ?_ ?_
  · refine dr ?_
    trivial
  rintro k ⟨hk, ha⟩
  refine dr ?_
  refine cP (fun h2 => ?_) (fun h2 => ?_)
  rotate_left
  · refine dr ?_
    have hs : Srt Mark.path l := srt_iff.2 fun j hj => (ha (j + 1) hj (by omega)).2.2.1 (by omega)
    have hm : ∀ m ∈ l, mok m = true := fun m hm => by
      obtain ⟨j, hj, rfl⟩ := List.mem_iff_getElem.1 hm
      exact (ha j hj (by omega)).1
    refine bT (lOk_iff.2 ⟨by omega, hs, hm, fun m hm' => ?_, fun m hm' hk3 => ?_⟩)
    · obtain ⟨j, hj, rfl⟩ := List.mem_iff_getElem.1 hm'
      exact (ha j hj (by omega)).2.1
    · rw [← bare2_eq ⟨hs, hm⟩ (mok_path (hm m hm'))]
      obtain ⟨j, hj, rfl⟩ := List.mem_iff_getElem.1 hm'
      exact (ha j hj (by omega)).2.2.2 hk3
  have hk' : k < l.length := by omega
  refine dEr ?_
  repeat (refine c0 (f_markOk W0 hM l[k]) rfl ?_; first | refine dEr ?_ | exact dz)
  refine cP (fun h3 => ?_) (fun h3 => ?_)
  · refine dr ?_
    exact no fun h => by have := (lOk_iff.1 h).2.2.1 _ (List.getElem_mem hk'); rw [h3] at this; cases this
  have hok : mok l[k] = true := h3
  refine dr ?_
  refine cP (fun h7 => ?_) (fun h7 => ?_)
  · refine dr ?_
    repeat (refine aM (j := k - 1) (by omega) (by omega) ?_; first | refine dr ?_ | exact dz)
    cases h8 : ltS l[k - 1].path l[k].path
    · refine dr ?_
      exact no fun h => by
        have := srt_iff.1 (lOk_iff.1 h).2.1 (k - 1) (by omega)
        simp only [show k - 1 + 1 = k by omega] at this
        rw [h8] at this; cases this
    · have hlast : 0 < k → ltS l[k - 1].path l[k].path = true := fun _ => h8
      refine dr ?_
      refine dEr ?_
      repeat (refine c0 (f_impl_PathUp W0 hM _) rfl ?_; first | refine dEr ?_ | exact dz)
      refine cP (fun h9 => ?_) (fun h9 => ?_)
      · have hc := f_markAt W0 l (pUp l[k].path)
        rw [eMarkO_eq] at hc
        refine dEr ?_
        repeat (refine c0 hc rfl ?_; first | refine dEr ?_ | exact dz)
        refine cP (fun h90 => ?_) (fun h90 => ?_)
        · refine dr ?_
          exact no fun h => by
            rcases in_iff.1 ((lOk_iff.1 h).2.2.2.1 _ (List.getElem_mem hk')) with h' | ⟨m, h1, _⟩
            · exact h9 h'
            · rw [h1] at h90; cases h90
        · obtain ⟨m, hm⟩ := Option.isSome_iff_exists.1 h90
          have hc2 := f_isDirM W0 ((mfind l (pUp l[k].path)).getD noM)
          refine dEr ?_
          repeat (refine c0 hc2 rfl ?_; first | refine dEr ?_ | exact dz)
          refine cP (fun h10 => ?_) (fun h10 => ?_)
          · refine dr ?_
            exact no fun h => by
              rcases in_iff.1 ((lOk_iff.1 h).2.2.2.1 _ (List.getElem_mem hk')) with h' | ⟨m, h1, h2⟩
              · exact h9 h'
              · rw [h1] at h10; exact h10 h2
          · have hin : inD l l[k].path = true := in_iff.2 (.inr ⟨m, hm, by rw [hm] at h10; exact h10⟩)
            refine dr ?_
            refine cP (fun h11 => ?_) (fun h11 => ?_)
            · refine dEr ?_
              repeat (refine c0 (f_belowBare W0 hM l _) rfl ?_; first | refine dEr ?_ | exact dz)
              refine cP (fun h13 => ?_) (fun h13 => ?_)
              · refine dr ?_
                exact no fun h => by
                  have := (lOk_iff.1 h).2.2.2.2 _ (List.getElem_mem hk') (by omega)
                  rw [bare2_eq (LG.of h) (mok_path hok)] at h13
                  rw [this] at h13; cases h13
              · refine dr ?_
                refine ⟨k + 1, ⟨by omega, fun j h hj => ?_⟩, by omega, ?_⟩
                · by_cases e : j = k
                  · subst e; exact ⟨hok, hin, hlast, fun _ => h13⟩
                  · exact ha j h (by omega)
                · refine dr ?_
                  trivial
            · refine dr ?_
              refine cP (fun h12 => ?_) (fun h12 => ?_)
              · refine dEr ?_
                repeat (refine c0 (f_belowBare W0 hM l _) rfl ?_; first | refine dEr ?_ | exact dz)
                refine cP (fun h13 => ?_) (fun h13 => ?_)
                · refine dr ?_
                  exact no fun h => by
                    have := (lOk_iff.1 h).2.2.2.2 _ (List.getElem_mem hk') (by omega)
                    rw [bare2_eq (LG.of h) (mok_path hok)] at h13
                    rw [this] at h13; cases h13
                · refine dr ?_
                  refine ⟨k + 1, ⟨by omega, fun j h hj => ?_⟩, by omega, ?_⟩
                  · by_cases e : j = k
                    · subst e; exact ⟨hok, hin, hlast, fun _ => h13⟩
                    · exact ha j h (by omega)
                  · refine dr ?_
                    trivial
              · refine dr ?_
                refine ⟨k + 1, ⟨by omega, fun j h hj => ?_⟩, by omega, ?_⟩
                · by_cases e : j = k
                  · subst e; exact ⟨hok, hin, hlast, fun h => by have := mok_kind hok; omega⟩
                  · exact ha j h (by omega)
                · refine dr ?_
                  trivial
      · have hin : inD l l[k].path = true := in_iff.2 (.inl h9)
        refine dr ?_
        refine cP (fun h11 => ?_) (fun h11 => ?_)
        · refine dEr ?_
          repeat (refine c0 (f_belowBare W0 hM l _) rfl ?_; first | refine dEr ?_ | exact dz)
          refine cP (fun h13 => ?_) (fun h13 => ?_)
          · refine dr ?_
            exact no fun h => by
              have := (lOk_iff.1 h).2.2.2.2 _ (List.getElem_mem hk') (by omega)
              rw [bare2_eq (LG.of h) (mok_path hok)] at h13
              rw [this] at h13; cases h13
          · refine dr ?_
            refine ⟨k + 1, ⟨by omega, fun j h hj => ?_⟩, by omega, ?_⟩
            · by_cases e : j = k
              · subst e; exact ⟨hok, hin, hlast, fun _ => h13⟩
              · exact ha j h (by omega)
            · refine dr ?_
              trivial
        · refine dr ?_
          refine cP (fun h12 => ?_) (fun h12 => ?_)
          · refine dEr ?_
            repeat (refine c0 (f_belowBare W0 hM l _) rfl ?_; first | refine dEr ?_ | exact dz)
            refine cP (fun h13 => ?_) (fun h13 => ?_)
            · refine dr ?_
              exact no fun h => by
                have := (lOk_iff.1 h).2.2.2.2 _ (List.getElem_mem hk') (by omega)
                rw [bare2_eq (LG.of h) (mok_path hok)] at h13
                rw [this] at h13; cases h13
            · refine dr ?_
              refine ⟨k + 1, ⟨by omega, fun j h hj => ?_⟩, by omega, ?_⟩
              · by_cases e : j = k
                · subst e; exact ⟨hok, hin, hlast, fun _ => h13⟩
                · exact ha j h (by omega)
              · refine dr ?_
                trivial
          · refine dr ?_
            refine ⟨k + 1, ⟨by omega, fun j h hj => ?_⟩, by omega, ?_⟩
            · by_cases e : j = k
              · subst e; exact ⟨hok, hin, hlast, fun h => by have := mok_kind hok; omega⟩
              · exact ha j h (by omega)
            · refine dr ?_
              trivial
  · have hlast : 0 < k → ltS l[k - 1].path l[k].path = true := fun h => by omega
    refine dr ?_
    refine dEr ?_
    repeat (refine c0 (f_impl_PathUp W0 hM _) rfl ?_; first | refine dEr ?_ | exact dz)
    refine cP (fun h9 => ?_) (fun h9 => ?_)
    · have hc := f_markAt W0 l (pUp l[k].path)
      rw [eMarkO_eq] at hc
      refine dEr ?_
      repeat (refine c0 hc rfl ?_; first | refine dEr ?_ | exact dz)
      refine cP (fun h90 => ?_) (fun h90 => ?_)
      · refine dr ?_
        exact no fun h => by
          rcases in_iff.1 ((lOk_iff.1 h).2.2.2.1 _ (List.getElem_mem hk')) with h' | ⟨m, h1, _⟩
          · exact h9 h'
          · rw [h1] at h90; cases h90
      · obtain ⟨m, hm⟩ := Option.isSome_iff_exists.1 h90
        have hc2 := f_isDirM W0 ((mfind l (pUp l[k].path)).getD noM)
        refine dEr ?_
        repeat (refine c0 hc2 rfl ?_; first | refine dEr ?_ | exact dz)
        refine cP (fun h10 => ?_) (fun h10 => ?_)
        · refine dr ?_
          exact no fun h => by
            rcases in_iff.1 ((lOk_iff.1 h).2.2.2.1 _ (List.getElem_mem hk')) with h' | ⟨m, h1, h2⟩
            · exact h9 h'
            · rw [h1] at h10; exact h10 h2
        · have hin : inD l l[k].path = true := in_iff.2 (.inr ⟨m, hm, by rw [hm] at h10; exact h10⟩)
          refine dr ?_
          refine cP (fun h11 => ?_) (fun h11 => ?_)
          · refine dEr ?_
            repeat (refine c0 (f_belowBare W0 hM l _) rfl ?_; first | refine dEr ?_ | exact dz)
            refine cP (fun h13 => ?_) (fun h13 => ?_)
            · refine dr ?_
              exact no fun h => by
                have := (lOk_iff.1 h).2.2.2.2 _ (List.getElem_mem hk') (by omega)
                rw [bare2_eq (LG.of h) (mok_path hok)] at h13
                rw [this] at h13; cases h13
            · refine dr ?_
              refine ⟨k + 1, ⟨by omega, fun j h hj => ?_⟩, by omega, ?_⟩
              · by_cases e : j = k
                · subst e; exact ⟨hok, hin, hlast, fun _ => h13⟩
                · exact ha j h (by omega)
              · refine dr ?_
                trivial
          · refine dr ?_
            refine cP (fun h12 => ?_) (fun h12 => ?_)
            · refine dEr ?_
              repeat (refine c0 (f_belowBare W0 hM l _) rfl ?_; first | refine dEr ?_ | exact dz)
              refine cP (fun h13 => ?_) (fun h13 => ?_)
              · refine dr ?_
                exact no fun h => by
                  have := (lOk_iff.1 h).2.2.2.2 _ (List.getElem_mem hk') (by omega)
                  rw [bare2_eq (LG.of h) (mok_path hok)] at h13
                  rw [this] at h13; cases h13
              · refine dr ?_
                refine ⟨k + 1, ⟨by omega, fun j h hj => ?_⟩, by omega, ?_⟩
                · by_cases e : j = k
                  · subst e; exact ⟨hok, hin, hlast, fun _ => h13⟩
                  · exact ha j h (by omega)
                · refine dr ?_
                  trivial
            · refine dr ?_
              refine ⟨k + 1, ⟨by omega, fun j h hj => ?_⟩, by omega, ?_⟩
              · by_cases e : j = k
                · subst e; exact ⟨hok, hin, hlast, fun h => by have := mok_kind hok; omega⟩
                · exact ha j h (by omega)
              · refine dr ?_
                trivial
    · have hin : inD l l[k].path = true := in_iff.2 (.inl h9)
      refine dr ?_
      refine cP (fun h11 => ?_) (fun h11 => ?_)
      · refine dEr ?_
        repeat (refine c0 (f_belowBare W0 hM l _) rfl ?_; first | refine dEr ?_ | exact dz)
        refine cP (fun h13 => ?_) (fun h13 => ?_)
        · refine dr ?_
          exact no fun h => by
            have := (lOk_iff.1 h).2.2.2.2 _ (List.getElem_mem hk') (by omega)
            rw [bare2_eq (LG.of h) (mok_path hok)] at h13
            rw [this] at h13; cases h13
        · refine dr ?_
          refine ⟨k + 1, ⟨by omega, fun j h hj => ?_⟩, by omega, ?_⟩
          · by_cases e : j = k
            · subst e; exact ⟨hok, hin, hlast, fun _ => h13⟩
            · exact ha j h (by omega)
          · refine dr ?_
            trivial
      · refine dr ?_
        refine cP (fun h12 => ?_) (fun h12 => ?_)
        · refine dEr ?_
          repeat (refine c0 (f_belowBare W0 hM l _) rfl ?_; first | refine dEr ?_ | exact dz)
          refine cP (fun h13 => ?_) (fun h13 => ?_)
          · refine dr ?_
            exact no fun h => by
              have := (lOk_iff.1 h).2.2.2.2 _ (List.getElem_mem hk') (by omega)
              rw [bare2_eq (LG.of h) (mok_path hok)] at h13
              rw [this] at h13; cases h13
          · refine dr ?_
            refine ⟨k + 1, ⟨by omega, fun j h hj => ?_⟩, by omega, ?_⟩
            · by_cases e : j = k
              · subst e; exact ⟨hok, hin, hlast, fun _ => h13⟩
              · exact ha j h (by omega)
            · refine dr ?_
              trivial
        · refine dr ?_
          refine ⟨k + 1, ⟨by omega, fun j h hj => ?_⟩, by omega, ?_⟩
          · by_cases e : j = k
            · subst e; exact ⟨hok, hin, hlast, fun h => by have := mok_kind hok; omega⟩
            · exact ha j h (by omega)
          · refine dr ?_
            trivial


def c_impl_LayerOn : XC := (.s (.r [.ex 4 (.asn (.k .nil) 3 59), .ex 5 (.mv .n)]) (.s (.s (.r [.mv 13 0, .ex 14 (.call 145 [(.t 13)]), .ex 15 (.un .not (.t 14)), .mv 16 15, .gf 17 (.mv (.t 1)) 16, .gf 18 (.call 98 [(.t 17)]) 16, .gf 19 (.un .not (.t 18)) 16, .ex 20 (.pick (.t 16) .y (.t 19))]) (.cnd (.t 20) (.s (.r [.ex 4 (.asn (.k .nil) 3 59), .ex 5 (.mv .n)]) .ret) .skip)) (.s (.r [.ex 6 (.asn (.k .nil) 3 59)]) (.s (.s (.r [.mv 21 1, .ex 22 (.len false (.t 21)), .ex 23 (.mv (.i 0))]) (.blk 0 (.loop (.s (.r [.ex 24 (.bin .lss (.t 23) (.t 22))]) (.s (.cnd (.t 24) .skip (.exit 0)) (.s (.blk 1 (.s (.r [.ex 25 (.ia 3 (.t 21) (.t 23)), .ex 26 (.ld true 3 (.t 25)), .ex 8 (.alloc [(.c (.sc (.string ⟨#[]⟩))), (.c (.sc (.bool false))), (.c (.sc (.string ⟨#[]⟩)))]), .nu (.st 3 (.t 8) (.t 26))]) (.s (.r [.mv 28 0, .ex 29 (.fa 0 (.t 8)), .ex 30 (.ld false 1 (.t 29)), .ex 31 (.call 159 [(.t 28), (.t 30)]), .mv 27 31, .ex 32 (.ext (.t 27) 0), .ex 33 (.ext (.t 27) 1), .ex 9 (.alloc [(.c (.sc (.string ⟨#[]⟩))), (.c (.sc (.int .i64 0))), (.c (.sc (.string ⟨#[]⟩)))]), .nu (.st 3 (.t 9) (.t 32)), .mv 10 33]) (.s (.r [.mv 34 10, .ex 35 (.un .not (.t 34)), .mv 36 35, .gt 37 (.mv (.t 0)) 36, .gt 38 (.fa 0 (.t 8)) 36, .gt 39 (.ld false 1 (.t 38)) 36, .gt 40 (.call 215 [(.t 37), (.t 39)]) 36, .gt 41 (.un .not (.t 40)) 36, .ex 42 (.pick (.t 36) (.t 41) .n)]) (.cnd (.t 42) (.r [.mv 43 6, .ex 44 (.ld true 3 (.t 8)), .ex 45 (.bsl 3 59 [(.t 44)]), .ex 46 (.app false 3 40 59 (.t 43) (.t 45)), .ex 6 (.asn (.t 46) 3 59)]) .skip))))) (.r [.ex 47 (.bin .add (.t 23) (.i 1)), .mv 23 47]))))))) (.s (.s (.r [.mv 48 0, .ex 49 (.len false (.t 48)), .ex 50 (.mv (.i 0))]) (.blk 2 (.loop (.s (.r [.ex 51 (.bin .lss (.t 50) (.t 49))]) (.s (.cnd (.t 51) .skip (.exit 2)) (.s (.blk 3 (.s (.r [.ex 52 (.ia 3 (.t 48) (.t 50)), .ex 53 (.ld true 3 (.t 52)), .ex 12 (.alloc [(.c (.sc (.string ⟨#[]⟩))), (.c (.sc (.int .i64 0))), (.c (.sc (.string ⟨#[]⟩)))]), .nu (.st 3 (.t 12) (.t 53))]) (.s (.r [.ex 54 (.fa 1 (.t 12)), .ex 55 (.ld false 1 (.t 54)), .ex 56 (.bin .neq (.t 55) (.i 3))]) (.cnd (.t 56) (.d [.mv 57 6, .ex 58 (.fa 0 (.t 12)), .ex 59 (.ld false 1 (.t 58)), .ex 60 (.ld true 3 (.t 12)), .ex 61 (.call 214 [(.t 60)]), .ex 62 (.fa 2 (.t 12)), .ex 63 (.ld false 1 (.t 62)), .ex 64 (.build [(.c (.sc (.string ⟨#[]⟩))), (.c (.sc (.bool false))), (.c (.sc (.string ⟨#[]⟩)))] [(0, (1, (.t 59))), (1, (1, (.t 61))), (2, (1, (.t 63)))]), .ex 65 (.bsl 3 59 [(.t 64)]), .ex 66 (.app false 3 40 59 (.t 57) (.t 65)), .ex 6 (.asn (.t 66) 3 59)]) .skip)))) (.r [.ex 67 (.bin .add (.t 50) (.i 1)), .mv 50 67]))))))) (.s (.s (.r [.mv 68 6, .ex 69 (.len false (.t 68)), .ex 70 (.bin .gtr (.t 69) (.i 16))]) (.cnd (.t 70) (.s (.r [.ex 4 (.asn (.k .nil) 3 59), .ex 5 (.mv .n)]) .ret) .skip)) (.s (.r [.mv 71 6, .ex 72 (.opn 155 [(.t 71)])]) (.s (.r [.mv 73 6, .ex 4 (.asn (.t 73) 3 59), .ex 5 (.mv .y)]) .ret))))))))
theorem c_impl_LayerOn_eq : compF Go.Proofs.Tryz.prog [155] 152 = some (c_impl_LayerOn.ac, [(.t 4), (.t 5)], 74) := by kernel_rfl

theorem f_impl_LayerOn (W0 : World) (hM : HM W0) (l : List Mark) (t : List Ent) : Fn Go.Proofs.Tryz.prog W0 152 [eMarks l, eEnts t] (.c (eEntsO (lOn l t))) [] := by
  refine fnX (c := c_impl_LayerOn) mixed c_impl_LayerOn_eq (by simp) rfl fun hg => ?_
  refine dEr ?_
  repeat (refine c0 (f_impl_LayerOk W0 hM _) rfl ?_; first | refine dEr ?_ | exact dz)
  refine cP (fun h1 => ?_) (fun h1 => ?_)
  · refine dr ?_
    rw [lOn, if_neg (by simp [h1])] <;> rfl
  refine dEr ?_
  repeat (refine c0 (f_impl_TreeOk W0 hM _) rfl ?_; first | refine dEr ?_ | exact dz)
  refine cP (fun h2 => ?_) (fun h2 => ?_)
  · refine dr ?_
    rw [lOn, if_neg (by simp [h2])] <;> rfl
  have gl := LG.of h1
  have gt := TG.of h2
  have hll := (lOk_iff.1 h1).1
  have htl := gt.len
  have e : lOn l t = if (onX l t).length ≤ 16 then some (onRaw l t) else none := by rw [lOn, if_pos (by simp [h1, h2]), onX_len h1 gt.srt]
  rw [e]
  refine dr ?_
  refine lp2 (fun (k : Nat) (out : List Ent) => [(0, .c (eMarks l)), (6, .own 96 out.length), (21, .c (eEnts t)), (22, I t.length), (23, I k)]) (fun _ out => [(96, .row (out.map eEnt) 3 59)]) (fun k out => k ≤ t.length ∧ out = (t.take k).filter (fun e => !(mfind l e.path).isSome && !hides l e.path) ∧ out.length ≤ k) (fun k _ => t.length - k) 0 [] ⟨by simp, rfl, by simp⟩ ?_ ?_
  · refine dr ?_
    trivial
  rintro k out ⟨hk, ho, hle⟩
  refine dr ?_
  refine cP (fun h3 => ?_) (fun h3 => ?_)
  · have hk' : k < t.length := by omega
    have hc := f_markAt W0 l t[k].path
    rw [eMarkO_eq] at hc
    have hh := f_impl_hides W0 hM l t[k].path
    rw [hides2_eq gl (gt.path (List.getElem_mem hk'))] at hh
    refine dEr ?_
    repeat (refine c0 hc rfl ?_; first | refine dEr ?_ | exact dz)
    refine cP (fun h4 => ?_) (fun h4 => ?_)
    · refine dEr ?_
      repeat (refine c0 hh rfl ?_; first | refine dEr ?_ | exact dz)
      refine cP (fun h5 => ?_) (fun h5 => ?_)
      · refine dr ?_
        repeat ((first | refine oB (by simp; omega) ?_ | refine oB (by simp) ?_); first | refine dr ?_ | exact dz)
        refine ⟨k + 1, out ++ [t[k]], ⟨by omega, by rw [filt_t hk' (by simp [h4, h5]), ho], by simp; omega⟩, by omega, ?_⟩
        refine dr ?_
        repeat (refine oB (by simp <;> rfl) ?_; first | refine dr ?_ | exact dz)
        trivial
      · refine dr ?_
        refine ⟨k + 1, out, ⟨by omega, by rw [filt_f hk' (by simp [h5]), ho], by omega⟩, by omega, ?_⟩
        refine dr ?_
        trivial
    · refine dr ?_
      refine ⟨k + 1, out, ⟨by omega, by rw [filt_f hk' (by simp [h4]), ho], by omega⟩, by omega, ?_⟩
      refine dr ?_
      trivial
  have hkl : k = t.length := by omega
  rw [hkl, List.take_length] at ho
  have hX : onX l t = out ++ l.filterMap onEnt := by rw [onX, ho]
  have hout : out.length ≤ 16 := by omega
  clear ho hle hk h3 hkl
  rw [hX]
  generalize hoo : out = o0 at *
  refine dr ?_
  refine lp2 (fun (k : Nat) (out : List Ent) => [(6, .own 96 out.length), (48, .c (eMarks l)), (49, I l.length), (50, I k)]) (fun _ out => [(96, .row (out.map eEnt) 3 59)]) (fun k out => k ≤ l.length ∧ out = o0 ++ (l.take k).filterMap onEnt ∧ out.length ≤ o0.length + k) (fun k _ => l.length - k) 0 o0 ⟨by simp, by simp, by simp⟩ ?_ ?_
  · refine dr ?_
    trivial
  clear hoo
  rintro k out ⟨hk, ho, hle⟩
  refine dr ?_
  refine cP (fun h3 => ?_) (fun h3 => ?_)
  · have hk' : k < l.length := by omega
    have hmk := mok_kind (gl.ok _ (List.getElem_mem hk'))
    have hn : o0 ++ (l.take (k + 1)).filterMap onEnt = out ++ (onEnt l[k]).toList := by rw [fm_next hk', ← List.append_assoc, ← ho]
    refine dr ?_
    refine cP (fun h4 => ?_) (fun h4 => ?_)
    · have he : onEnt l[k] = some ⟨l[k].path, decide (l[k].kind = 2 ∨ l[k].kind = 4), l[k].data⟩ := by
        unfold onEnt
        by_cases h5 : l[k].kind = 1
        · rw [if_pos h5]; simp [h5]
        · rw [if_neg h5, if_pos (by omega)]
          have := mok_data (gl.ok _ (List.getElem_mem hk')) h5
          rw [this]; simp; omega
      rw [he] at hn
      refine dEr ?_
      repeat ((first | refine c0 (f_isDirM W0 l[k]) rfl ?_ | refine oB (by simp; omega) ?_ | refine oB (by simp) ?_); first | refine dEr ?_ | exact dz)
      refine ⟨k + 1, _, ⟨by omega, hn.symm, by simp; omega⟩, by omega, ?_⟩
      refine dr ?_
      repeat (refine oB (by simp <;> rfl) ?_; first | refine dr ?_ | exact dz)
      trivial
    · have he : onEnt l[k] = none := by unfold onEnt; rw [if_neg (by omega), if_neg (by omega)]
      rw [he] at hn
      refine dr ?_
      refine ⟨k + 1, out, ⟨by omega, by rw [hn]; simp, by omega⟩, by omega, ?_⟩
      refine dr ?_
      trivial
  have hkl : k = l.length := by omega
  rw [hkl, List.take_length] at ho
  rw [← ho]
  have hX2 : onX l t = out := by rw [hX, ho]
  refine dr ?_
  refine cP (fun h5 => ?_) (fun h5 => ?_)
  · refine dr ?_
    rw [if_neg (by omega)] <;> rfl
  · refine dr ?_
    refine oW ((f_sortEnts_1 W0 out (by omega)).swp 1 96) rfl ⟨rfl, trivial⟩ rfl rfl sorts_ex fun S hS => ⟨rfl, ?_⟩
    refine dEr ?_
    repeat (refine oB (by simp [hS.len]) ?_; first | refine dEr ?_ | exact dz)
    rw [← hX2] at hS
    rw [if_pos (by omega), onX_sorts h1 gt.srt hS] <;> rfl


end Go.Proofs.YthblflnfhdnpdaaGreatDoor

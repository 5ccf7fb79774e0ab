/- What a right tree is, and a right layer; no condition, no program. -/
import Derived.Test.YthblflnfhdnpdaaGreatDoorQa1
namespace Go.Proofs.YthblflnfhdnpdaaGreatDoor
set_option linter.unusedSimpArgs false
set_option linter.unusedVariables false
open Go Go.RowKit

theorem up_lt {p : Str} (h : pOk p = true) (hu : pUp p ≠ [47]) : ltS (pUp p) p = true := by
  obtain ⟨a, l, e, _, _, _, _, _, _, hup⟩ := pOk_two h
  by_cases ha : a = []
  · rw [if_pos ha] at hup; exact absurd hup hu
  · rw [if_neg ha] at hup
    rw [hup]
    conv => lhs; arg 2; rw [e]
    exact ltS_app a 47 l
theorem und_lt {p d : Str} (h : und p d = true) (hd : d ≠ [47]) : ltS d p = true := by
  unfold und at h
  simp only [Bool.or_eq_true, beq_iff_eq, List.isPrefixOf_iff_prefix] at h
  rcases h with h | ⟨r, h⟩
  · exact absurd h hd
  · rw [← h, List.append_assoc]; exact ltS_app d 47 r
theorem ok_ne_root {p : Str} (h : pOk p = true) : p ≠ [47] := by rintro rfl; have := (pOk_len h).1; simp at this

/-- By itself, an entry. -/
def eok (e : Ent) : Bool := pOk e.path && (dataOk e.data && !(e.dir && e.data != []))
theorem tOk_iff {t : List Ent} : tOk t = true ↔ t.length ≤ 16 ∧ Srt Ent.path t ∧ (∀ e ∈ t, eok e = true) ∧ ∀ e ∈ t, isDir t (pUp e.path) = true := by
  have key : ∀ {j} (h : j < t.length), Srt Ent.path t → pOk t[j].path = true → isDir (t.take j) (pUp t[j].path) = isDir t (pUp t[j].path) := by
    intro j h hs hp
    unfold isDir get
    by_cases hu : pUp t[j].path = [47]
    · rw [if_pos hu, if_pos hu]
    · rw [if_neg hu, if_neg hu]
      have : find (t.take j) (pUp t[j].path) = find t (pUp t[j].path) := fnd_take hs h (up_lt hp hu)
      rw [this]
  constructor
  · intro h
    obtain ⟨h1, h2⟩ := tOk_at h
    have hs : Srt Ent.path t := srt_iff.2 fun j hj => by
      have := h2 (j + 1) hj
      simp only [ok1, Bool.and_eq_true] at this
      have := this.2.2.2.1
      have hl : (t.take (j + 1)).getLast? = some t[j] := by
        rw [List.getLast?_take, if_neg (by omega), List.getElem?_eq_getElem (by omega)]; rfl
      rw [hl] at this
      exact this
    refine ⟨h1, hs, fun e he => ?_, fun e he => ?_⟩
    · obtain ⟨j, hj, rfl⟩ := List.mem_iff_getElem.1 he
      have := h2 j hj
      simp only [ok1, Bool.and_eq_true] at this
      simp only [eok, Bool.and_eq_true]
      exact ⟨this.1, this.2.1, this.2.2.1⟩
    · obtain ⟨j, hj, rfl⟩ := List.mem_iff_getElem.1 he
      have := h2 j hj
      simp only [ok1, Bool.and_eq_true] at this
      rw [← key hj hs this.1]
      exact this.2.2.2.2
  · rintro ⟨h1, hs, h3, h4⟩
    simp only [tOk, Bool.and_eq_true, decide_eq_true_eq]
    refine ⟨h1, okA0.2 fun j hj => ?_⟩
    have he := h3 _ (List.getElem_mem hj)
    simp only [eok, Bool.and_eq_true] at he
    simp only [ok1, Bool.and_eq_true]
    refine ⟨he.1, he.2.1, he.2.2, ?_, by rw [key hj hs he.1]; exact h4 _ (List.getElem_mem hj)⟩
    cases j with
    | zero => rfl
    | succ j =>
      have hl : (t.take (j + 1)).getLast? = some t[j] := by
        rw [List.getLast?_take, if_neg (by omega), List.getElem?_eq_getElem (by omega)]; rfl
      rw [hl]
      exact srt_iff.1 hs j hj

/-- By itself, a mark. -/
def mok (m : Mark) : Bool := (decide (1 ≤ m.kind) && decide (m.kind ≤ 4)) && (pOk m.path && (dataOk m.data && !(m.kind != 1 && m.data != [])))
theorem mok_path {m : Mark} (h : mok m = true) : pOk m.path = true := by
  simp only [mok, Bool.and_eq_true] at h; exact h.2.1
theorem lOk_iff {l : List Mark} : lOk l = true ↔ l.length ≤ 32 ∧ Srt Mark.path l ∧ (∀ m ∈ l, mok m = true) ∧ (∀ m ∈ l, inD l m.path = true) ∧ ∀ m ∈ l, 2 < m.kind → bare l m.path = false := by
  have k1 : ∀ {j} (h : j < l.length), Srt Mark.path l → pOk l[j].path = true → inD (l.take j) l[j].path = inD l l[j].path := by
    intro j h hs hp
    unfold inD kind
    by_cases hu : pUp l[j].path = [47]
    · simp [hu]
    · have : mfind (l.take j) (pUp l[j].path) = mfind l (pUp l[j].path) := fnd_take hs h (up_lt hp hu)
      rw [this]
  have k2 : ∀ {j} (h : j < l.length), Srt Mark.path l → (∀ m ∈ l, mok m = true) → bare (l.take j) l[j].path = bare l l[j].path := by
    intro j h hs hm
    refine any_take hs h fun m hmem hq => ?_
    simp only [Bool.and_eq_true] at hq
    exact und_lt hq.2 (ok_ne_root (mok_path (hm m hmem)))
  constructor
  · intro h
    simp only [lOk, Bool.and_eq_true, decide_eq_true_eq] at h
    have h2 := mokA0.1 h.2
    have hs : Srt Mark.path l := srt_iff.2 fun j hj => by
      have := h2 (j + 1) hj
      simp only [mok1, Bool.and_eq_true] at this
      have := this.2.2.2.2.1
      have hl : (l.take (j + 1)).getLast? = some l[j] := by
        rw [List.getLast?_take, if_neg (by omega), List.getElem?_eq_getElem (by omega)]; rfl
      rw [mlast, hl] at this
      exact this
    have hm : ∀ m ∈ l, mok m = true := fun m hm => by
      obtain ⟨j, hj, rfl⟩ := List.mem_iff_getElem.1 hm
      have := h2 j hj
      simp only [mok1, Bool.and_eq_true] at this
      simp only [mok, Bool.and_eq_true]
      exact ⟨this.1, this.2.1, this.2.2.1, this.2.2.2.1⟩
    refine ⟨h.1, hs, hm, fun m he => ?_, fun m he hk => ?_⟩
    · obtain ⟨j, hj, rfl⟩ := List.mem_iff_getElem.1 he
      have := h2 j hj
      simp only [mok1, Bool.and_eq_true] at this
      rw [← k1 hj hs this.2.1]
      exact this.2.2.2.2.2.1
    · obtain ⟨j, hj, rfl⟩ := List.mem_iff_getElem.1 he
      have := h2 j hj
      simp only [mok1, Bool.and_eq_true] at this
      have := this.2.2.2.2.2.2
      rw [k2 hj hs hm] at this
      simpa [hk] using this
  · rintro ⟨h1, hs, h3, h4, h5⟩
    simp only [lOk, Bool.and_eq_true, decide_eq_true_eq]
    refine ⟨h1, mokA0.2 fun j hj => ?_⟩
    have he := h3 _ (List.getElem_mem hj)
    simp only [mok, Bool.and_eq_true] at he
    simp only [mok1, Bool.and_eq_true]
    refine ⟨he.1, he.2.1, he.2.2.1, he.2.2.2, ?_, by rw [k1 hj hs he.2.1]; exact h4 _ (List.getElem_mem hj), ?_⟩
    · unfold mlast
      cases j with
      | zero => rfl
      | succ j =>
        have hl : (l.take (j + 1)).getLast? = some l[j] := by
          rw [List.getLast?_take, if_neg (by omega), List.getElem?_eq_getElem (by omega)]; rfl
        rw [hl]
        exact srt_iff.1 hs j hj
    · rw [k2 hj hs h3]
      by_cases hk : 2 < l[j].kind
      · rw [h5 _ (List.getElem_mem hj) hk]; simp
      · simp [hk]

/-- What is below what is below. -/
theorem und_trans {p u d : Str} (hd : d ≠ [47]) (hu : u ≠ [47]) (h1 : und p u = true) (h2 : und u d = true) : und p d = true := by
  unfold und at h1 h2 ⊢
  simp only [Bool.or_eq_true, beq_iff_eq, List.isPrefixOf_iff_prefix] at h1 h2 ⊢
  rcases h1 with h1 | ⟨r, h1⟩
  · exact absurd h1 hu
  rcases h2 with h2 | ⟨s, h2⟩
  · exact absurd h2 hd
  right
  exact ⟨s ++ [47] ++ r, by rw [← h1, ← h2]; simp⟩
theorem und_up {p : Str} (h : pOk p = true) : und p (pUp p) = true := by
  obtain ⟨a, l, e, _, _, _, _, _, _, hup⟩ := pOk_two h
  unfold und
  by_cases ha : a = []
  · rw [if_pos ha] at hup; simp [hup]
  · rw [if_neg ha] at hup
    simp only [Bool.or_eq_true, List.isPrefixOf_iff_prefix]
    right
    exact ⟨l, by rw [hup]; conv => rhs; rw [e]
                 simp⟩
/-- What is below a path is in it, or below what is in it. -/
theorem und_cases {p d : Str} (h : pOk p = true) (hd : pOk d = true) (hu : und p d = true) : pUp p = d ∨ (pUp p ≠ [47] ∧ pOk (pUp p) = true ∧ und (pUp p) d = true) := by
  have hdr := ok_ne_root hd
  unfold und at hu
  simp only [Bool.or_eq_true, beq_iff_eq, List.isPrefixOf_iff_prefix] at hu
  rcases hu with hu | ⟨r, hu⟩
  · exact absurd hu hdr
  obtain ⟨a, l, e, hl, _, _, _, _, _, hup⟩ := pOk_two h
  have e2 : d ++ 47 :: r = a ++ 47 :: l := by rw [← e, ← hu]; simp
  have hda : d = a ∨ ∃ s, a = d ++ 47 :: s := by
    rcases List.append_eq_append_iff.1 e2 with ⟨s, h1, h2⟩ | ⟨s, h1, h2⟩
    · cases s with
      | nil => left; rw [h1]; simp
      | cons x s =>
        rw [List.cons_append, List.cons.injEq] at h2
        obtain ⟨rfl, h2⟩ := h2
        exact .inr ⟨s, h1⟩
    · cases s with
      | nil => left; rw [h1]; simp
      | cons x s =>
        rw [List.cons_append, List.cons.injEq] at h2
        obtain ⟨rfl, h2⟩ := h2
        exact absurd (by rw [h2]; simp) hl
  have ha : a ≠ [] := by
    rintro rfl
    rcases hda with h1 | ⟨s, h1⟩
    · subst h1; have := (pOk_len hd).1; simp at this
    · simp at h1
  rw [if_neg ha] at hup
  rcases hda with rfl | ⟨s, hs⟩
  · exact .inl hup
  · right
    have hne : pUp p ≠ [47] := by
      rw [hup, hs]
      have h1 := (pOk_len hd).1
      intro e; have := congrArg List.length e; simp at this; omega
    refine ⟨hne, (pOk_up h hne).1, ?_⟩
    unfold und
    simp only [Bool.or_eq_true, List.isPrefixOf_iff_prefix]
    right
    exact ⟨s, by rw [hup, hs]; simp⟩

theorem get_find {t : List Ent} {p : Str} (h : pOk p = true) : get t p = find t p := by
  unfold get; rw [if_neg (ok_ne_root h)]
theorem isDir_root {t : List Ent} : isDir t [47] = true := rfl

end Go.Proofs.YthblflnfhdnpdaaGreatDoor

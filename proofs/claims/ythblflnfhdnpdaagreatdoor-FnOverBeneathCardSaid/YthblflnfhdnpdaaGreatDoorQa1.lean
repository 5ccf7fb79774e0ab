/- Lists in the order of their keys; no condition, no program. -/
import Derived.Test.YthblflnfhdnpdaaGreatDoorPa3
namespace Go.Proofs.YthblflnfhdnpdaaGreatDoor
set_option linter.unusedSimpArgs false
set_option linter.unusedVariables false
open Go Go.RowKit

section
variable {α : Type} {key : α → Str}

def Srt (key : α → Str) (l : List α) : Prop := l.Pairwise fun a b => ltS (key a) (key b) = true
def fnd (key : α → Str) (l : List α) (p : Str) : Option α := l.find? fun e => key e == p

theorem fnd_nil {p : Str} : fnd key [] p = none := rfl
theorem fnd_cons {x : α} {l : List α} {p : Str} : fnd key (x :: l) p = if key x = p then some x else fnd key l p := by
  unfold fnd
  rw [List.find?_cons]
  by_cases h : key x = p
  · simp [h]
  · have e : (key x == p) = false := by simpa using h
    rw [e, if_neg h]
theorem fnd_some {l : List α} {p : Str} {e : α} (h : fnd key l p = some e) : key e = p ∧ e ∈ l := by
  unfold fnd at h
  exact ⟨by simpa using List.find?_some h, List.mem_of_find?_eq_some h⟩
theorem fnd_none {l : List α} {p : Str} : fnd key l p = none ↔ ∀ e ∈ l, key e ≠ p := by
  unfold fnd; simp
theorem fnd_mem {l : List α} (hs : Srt key l) {e : α} (h : e ∈ l) : fnd key l (key e) = some e := by
  induction l with
  | nil => cases h
  | cons x l ih =>
    rw [fnd_cons]
    unfold Srt at hs
    rw [List.pairwise_cons] at hs
    rcases List.mem_cons.1 h with rfl | h
    · simp
    · rw [if_neg (ltS_ne (hs.1 e h)), ih hs.2 h]
theorem fnd_iff {l : List α} (hs : Srt key l) {e : α} : e ∈ l ↔ fnd key l (key e) = some e := ⟨fnd_mem hs, fun h => (fnd_some h).2⟩
theorem fnd_app {a b : List α} {p : Str} : fnd key (a ++ b) p = (fnd key a p).or (fnd key b p) := by
  unfold fnd; rw [List.find?_append]
theorem srt_ext {a b : List α} (ha : Srt key a) (hb : Srt key b) (h : ∀ p, fnd key a p = fnd key b p) : a = b := by
  induction a generalizing b with
  | nil =>
    cases b with
    | nil => rfl
    | cons y b => have := h (key y); rw [fnd_cons, if_pos rfl, fnd_nil] at this; cases this
  | cons x a ih =>
    cases b with
    | nil => have := h (key x); rw [fnd_cons, if_pos rfl, fnd_nil] at this; cases this
    | cons y b =>
      unfold Srt at ha hb
      rw [List.pairwise_cons] at ha hb
      have hxy : key x = key y := by
        apply Classical.byContradiction; intro hne
        have h1 := h (key x)
        rw [fnd_cons, if_pos rfl, fnd_cons, if_neg (fun e => hne e.symm)] at h1
        have h2 := h (key y)
        rw [fnd_cons, if_neg hne, fnd_cons, if_pos rfl] at h2
        have l1 := hb.1 x (fnd_some h1.symm).2
        have l2 := ha.1 y (fnd_some h2).2
        rw [ltS_asym l1] at l2; cases l2
      have e : x = y := by
        have := h (key x)
        rw [fnd_cons, if_pos rfl, fnd_cons, if_pos hxy.symm] at this
        exact Option.some.inj this
      subst e
      rw [ih ha.2 hb.2 fun p => ?_]
      have := h p
      rw [fnd_cons, fnd_cons] at this
      by_cases hp : key x = p
      · subst hp
        rw [fnd_none.2 fun e he => (ltS_ne (ha.1 e he)).symm, fnd_none.2 fun e he => (ltS_ne (hb.1 e he)).symm]
      · rwa [if_neg hp, if_neg hp] at this
theorem srt_filter {l : List α} (hs : Srt key l) (q : α → Bool) : Srt key (l.filter q) := List.Pairwise.filter _ hs
theorem fnd_filter {l : List α} (hs : Srt key l) {q : α → Bool} {p : Str} : fnd key (l.filter q) p = (fnd key l p).filter q := by
  cases h : fnd key l p with
  | none =>
    rw [fnd_none] at h
    exact fnd_none.2 fun e he => h e (List.mem_filter.1 he).1
  | some e =>
    obtain ⟨h1, h2⟩ := fnd_some h
    subst h1
    rw [Option.filter]
    split
    · rename_i hq
      exact fnd_mem (srt_filter hs q) (List.mem_filter.2 ⟨h2, hq⟩)
    · rename_i hq
      refine fnd_none.2 fun x hx e' => ?_
      have hx' := List.mem_filter.1 hx
      have := fnd_mem hs hx'.1
      rw [e', h] at this
      cases this
      exact hq hx'.2

theorem put_nil {e : α} : putG key [] e = [e] := rfl
theorem put_cons {x : α} {t : List α} {e : α} : putG key (x :: t) e = if ltS (key x) (key e) = true then x :: putG key t e else if key x = key e then e :: t else e :: x :: t := by
  unfold putG
  by_cases h : ltS (key x) (key e) = true
  · simp [h]
  · simp [h]
    split <;> rfl
theorem srt_put {t : List α} {e : α} (hs : Srt key t) : Srt key (putG key t e) := by
  induction t with
  | nil => rw [put_nil]; exact List.pairwise_singleton _ _
  | cons x t ih =>
    unfold Srt at hs
    rw [List.pairwise_cons] at hs
    rw [put_cons]
    by_cases h : ltS (key x) (key e) = true
    · rw [if_pos h]
      refine List.pairwise_cons.2 ⟨fun y hy => ?_, ih hs.2⟩
      rcases mem_putG hy with rfl | hy
      · exact h
      · exact hs.1 y hy
    · rw [if_neg h]
      by_cases h2 : key x = key e
      · rw [if_pos h2]
        exact List.pairwise_cons.2 ⟨fun y hy => by rw [← h2]; exact hs.1 y hy, hs.2⟩
      · rw [if_neg h2]
        have h3 : ltS (key e) (key x) = true := by
          rcases ltS_f (by simpa using h) with h3 | h3
          · exact absurd h3 h2
          · exact h3
        refine List.pairwise_cons.2 ⟨fun y hy => ?_, List.pairwise_cons.2 hs⟩
        rcases List.mem_cons.1 hy with rfl | hy
        · exact h3
        · exact ltS_trans h3 (hs.1 y hy)
theorem fnd_put {t : List α} {e : α} {p : Str} : fnd key (putG key t e) p = if key e = p then some e else fnd key t p := by
  induction t with
  | nil => rw [put_nil, fnd_cons]
  | cons x t ih =>
    rw [put_cons]
    by_cases h : ltS (key x) (key e) = true
    · rw [if_pos h, fnd_cons, ih, fnd_cons]
      by_cases hx : key x = p
      · rw [if_pos hx, if_pos hx, if_neg fun e' => ltS_ne h (hx.trans e'.symm)]
      · rw [if_neg hx, if_neg hx]
    · rw [if_neg h]
      by_cases h2 : key x = key e
      · rw [if_pos h2, fnd_cons, fnd_cons]
        by_cases hx : key e = p
        · rw [if_pos hx, if_pos hx]
        · rw [if_neg hx, if_neg hx, if_neg (by rw [h2]; exact hx)]
      · rw [if_neg h2, fnd_cons]
theorem fold_put_srt : ∀ {l : List α} {t : List α}, Srt key t → Srt key (l.foldl (putG key) t)
  | [], _, h => h
  | _ :: l, _, h => fold_put_srt (l := l) (srt_put h)

/-- The order, from neighbours. -/
theorem srt_iff {t : List α} : Srt key t ↔ ∀ j (h : j + 1 < t.length), ltS (key t[j]) (key t[j + 1]) = true := by
  constructor
  · intro hs j h
    exact List.pairwise_iff_getElem.1 hs j (j + 1) (by omega) h (by omega)
  · intro h
    refine List.pairwise_iff_getElem.2 fun i j hi hj hij => ?_
    obtain ⟨d, rfl⟩ : ∃ d, j = i + 1 + d := ⟨j - i - 1, by omega⟩
    induction d with
    | zero => exact h i hj
    | succ d ih => exact ltS_trans (ih (by omega) (by omega)) (h (i + 1 + d) hj)

/-- What is ahead of a place in an ordered list is found among what stands ahead. -/
theorem fnd_take {t : List α} (hs : Srt key t) {j : Nat} (h : j < t.length) {u : Str} (hu : ltS u (key t[j]) = true) : fnd key (t.take j) u = fnd key t u := by
  have e : fnd key t u = (fnd key (t.take j) u).or (fnd key (t.drop j) u) := by rw [← fnd_app, List.take_append_drop]
  have e2 : fnd key (t.drop j) u = none := by
    rw [fnd_none]
    intro e he hek
    obtain ⟨i, hi, rfl⟩ := List.mem_iff_getElem.1 he
    rw [List.getElem_drop] at hek
    rw [List.length_drop] at hi
    by_cases h0 : i = 0
    · subst h0
      simp only [Nat.add_zero] at hek
      rw [hek] at hu
      rw [ltS_irr] at hu; cases hu
    · have := List.pairwise_iff_getElem.1 hs j (j + i) h (by omega) (by omega)
      rw [hek] at this
      rw [ltS_asym this] at hu; cases hu
  rw [e, e2]; simp

/-- What a list has below a bound, in the same way. -/
theorem any_take {t : List α} (hs : Srt key t) {j : Nat} (h : j < t.length) {q : α → Bool} (hq : ∀ e ∈ t, q e = true → ltS (key e) (key t[j]) = true) : (t.take j).any q = t.any q := by
  have e : t.any q = ((t.take j).any q || (t.drop j).any q) := by rw [← List.any_append, List.take_append_drop]
  have e2 : (t.drop j).any q = false := by
    rw [List.any_eq_false]
    intro x hx hqx
    have hlt := hq x (List.mem_of_mem_drop hx) hqx
    obtain ⟨i, hi, rfl⟩ := List.mem_iff_getElem.1 hx
    rw [List.getElem_drop] at hlt
    rw [List.length_drop] at hi
    by_cases h0 : i = 0
    · subst h0
      simp only [Nat.add_zero] at hlt
      rw [ltS_irr] at hlt; cases hlt
    · have := List.pairwise_iff_getElem.1 hs j (j + i) h (by omega) (by omega)
      rw [ltS_asym this] at hlt; cases hlt
  rw [e, e2]; simp
end

end Go.Proofs.YthblflnfhdnpdaaGreatDoor

/- Layers of a right tree on layers; two layers in one; no condition, no program. -/
import Derived.Test.YthblflnfhdnpdaaGreatDoorQa6
namespace Go.Proofs.YthblflnfhdnpdaaGreatDoor
set_option linter.unusedSimpArgs false
set_option linter.unusedVariables false
open Go Go.RowKit

theorem lowerA_lok : ∀ {a : List (List Mark)} {t t' : List Ent}, lowerA a t = some t' → ∀ l ∈ a, lOk l = true
  | [], _, _, _, l, hl => by cases hl
  | x :: a, t, t', h, l, hl => by
    rw [lowerA] at h
    cases h1 : lOn x t with
    | none => rw [h1] at h; cases h
    | some y =>
      rw [h1] at h
      rcases List.mem_cons.1 hl with rfl | hl
      · exact (lOn_ok h1).2.1
      · exact lowerA_lok h l hl
theorem lower4_some {o : Over} {t : List Ent} (h : lower4 o = some t) : tOk o.base = true ∧ o.layers.length ≤ 4 ∧ lowerA o.layers o.base = some t := by
  unfold lower4 at h
  split at h
  · rename_i hc; exact ⟨hc.1, hc.2, h⟩
  · cases h
theorem oOk_layers {o : Over} (h : oOk o = true) : (∀ l ∈ o.layers, lOk l = true) ∧ lOk o.upper = true := by
  obtain ⟨t, x, h1, h2, _⟩ := oOk_some h
  refine ⟨lowerA_lok (lower4_some h1).2.2, ?_⟩
  unfold view4 at h2
  rw [h1] at h2
  exact (lOn_ok h2).2.1
theorem join_on {a b j : List Mark} {t x : List Ent} (hj : lJoin a b = some j) (hx : lOn b t = some x) : lOn j t = lOn a x := by
  obtain ⟨h1, h2, rfl, h4⟩ := lJoin_some hj
  obtain ⟨h5, _, h6, rfl⟩ := lOn_ok hx
  have h7 := lOn_tOk hx
  unfold lOn
  rw [if_pos (show (lOk (joinL a b) && tOk t) = true by simp [h4, h6]), if_pos (show (lOk a && tOk (onRaw b t)) = true by simp [h1, h7]), on_join (LG.of h1) (LG.of h2) (TG.of h6).srt]

end Go.Proofs.YthblflnfhdnpdaaGreatDoor

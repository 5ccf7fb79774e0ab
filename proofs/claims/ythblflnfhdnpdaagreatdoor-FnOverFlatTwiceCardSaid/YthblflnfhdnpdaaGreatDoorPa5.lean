/- What is done to a tree on layers: the plain functions; no condition, no program. -/
import Derived.Test.YthblflnfhdnpdaaGreatDoorQa8
import Derived.Test.YthblflnfhdnpdaaGreatDoorQa9
namespace Go.Proofs.YthblflnfhdnpdaaGreatDoor
set_option linter.unusedSimpArgs false
set_option linter.unusedVariables false
open Go Go.RowKit

def noO : Over := ⟨[], [], []⟩
def lowG (o : Over) : List Ent := (lower4 o).getD []
def vwG (o : Over) : List Ent := (view4 o).getD []
def oDo (o : Over) (op : Op) : Over × Int :=
  if oOk o = true then (if (treeDo (vwG o) op).2 = 0 then (⟨o.base, o.layers, diff (lowG o) (treeDo (vwG o) op).1⟩, 0) else (o, (treeDo (vwG o) op).2)) else (noO, 1)
def oPush (o : Over) : Over × Bool := if oOk o = true then (if 4 ≤ o.layers.length then (o, false) else (⟨o.base, o.layers ++ [o.upper], []⟩, true)) else (noO, false)
def oDrop (o : Over) : Over := if oOk o = true then ⟨o.base, o.layers, []⟩ else noO
def flatA : List Mark → List (List Mark) → Option (List Mark)
  | one, [] => some one
  | one, l :: r => match lJoin l one with
    | some j => flatA j r
    | none => none
def flatO (o : Over) : Option (List Mark) := match o.layers with
  | a :: b :: r => flatA a (b :: r)
  | _ => none
def oFlat (o : Over) : Over × Bool := if oOk o = true then (match flatO o with
  | some j => (⟨o.base, [j], o.upper⟩, true)
  | none => (o, false)) else (noO, false)
def oSink (o : Over) : Over := if oOk o = true then ⟨lowG o, [], o.upper⟩ else noO
def eOC (x : Over × Int) : CV := .tup [eOver x.1, CI x.2]
def eOB (x : Over × Bool) : CV := .tup [eOver x.1, CB x.2]

/-- A tree on layers, right: what is beneath, what is seen. -/
structure OG (o : Over) (t x : List Ent) : Prop where
  ok : oOk o = true
  low : lower4 o = some t
  vw : view4 o = some x
  up : o.upper = diff t x
  gt : tOk t = true
  gx : tOk x = true
theorem OG.of {o : Over} (h : oOk o = true) : ∃ t x, OG o t x := by
  obtain ⟨t, x, h1, h2, h3⟩ := oOk_some h
  exact ⟨t, x, h, h1, h2, h3, lower4_tOk h1, view4_tOk h2⟩
theorem OG.lowG {o : Over} {t x : List Ent} (h : OG o t x) : lowG o = t := by unfold Go.Proofs.YthblflnfhdnpdaaGreatDoor.lowG; rw [h.low]; rfl
theorem OG.vwG {o : Over} {t x : List Ent} (h : OG o t x) : vwG o = x := by unfold Go.Proofs.YthblflnfhdnpdaaGreatDoor.vwG; rw [h.vw]; rfl
theorem OG.mk' {o : Over} {t x : List Ent} (h1 : lower4 o = some t) (h2 : view4 o = some x) (h3 : o.upper = diff t x) : OG o t x :=
  ⟨by unfold oOk; rw [h1, h2]; simp [h3], h1, h2, h3, lower4_tOk h1, view4_tOk h2⟩
/-- The upper layer laid anew. -/
theorem OG.turn {o : Over} {t y : List Ent} (h : lower4 o = some t) (hy : tOk y = true) : OG ⟨o.base, o.layers, diff t y⟩ t y := by
  have h1 : lower4 ⟨o.base, o.layers, diff t y⟩ = some t := h
  refine OG.mk' h1 ?_ rfl
  unfold view4
  rw [h1]
  exact lOn_diff (lower4_tOk h) hy
theorem diff_self {t : List Ent} (h : tOk t = true) : diff t t = [] := by
  have : turned t t = [] := by
    cases hx : turned t t with
    | nil => rfl
    | cons p l =>
      have := (mem_turned (TG.of h) (TG.of h) (p := p)).1 (by rw [hx]; simp)
      exact absurd rfl this
  unfold diff; rw [this]; rfl
theorem lOn_nil {t : List Ent} (h : tOk t = true) : lOn [] t = some t := by
  have := lOn_diff h h
  rwa [diff_self h] at this
theorem diff_nil {t x : List Ent} (ht : tOk t = true) (hx : tOk x = true) : diff t x = [] ↔ t = x := by
  constructor
  · intro h
    have := lOn_diff ht hx
    rw [h, lOn_nil ht] at this
    exact Option.some.inj this
  · rintro rfl; exact diff_self ht
theorem OG.lay {o : Over} {t x : List Ent} (h : OG o t x) : o.layers.length ≤ 4 ∧ lowerA o.layers o.base = some t ∧ tOk o.base = true := by
  obtain ⟨a, b, c⟩ := lower4_some h.low; exact ⟨b, c, a⟩
theorem OG.on {o : Over} {t x : List Ent} (h : OG o t x) : lOn o.upper t = some x := by
  have := h.vw; unfold view4 at this; rw [h.low] at this; exact this

theorem treeDo_ne {x : List Ent} {op : Op} (hx : tOk x = true) (h : (treeDo x op).2 ≠ 0) : (treeDo x op).1 = x := by
  unfold treeDo at h ⊢
  rw [if_pos hx] at h ⊢
  split
  · rename_i h1
    rw [if_pos h1] at h
    split
    · rename_i h2; rw [if_pos h2] at h; exact absurd rfl h
    · rfl
  · rfl
theorem OG.doEq {o : Over} {t x : List Ent} (h : OG o t x) (op : Op) : oDo o op = if (treeDo x op).2 = 0 then (⟨o.base, o.layers, diff t (treeDo x op).1⟩, 0) else (o, (treeDo x op).2) := by
  unfold oDo; rw [if_pos h.ok, h.vwG, h.lowG]
/-- What is done to what is seen. -/
theorem OG.do {o : Over} {t x : List Ent} (h : OG o t x) (op : Op) : OG (oDo o op).1 t (treeDo x op).1 ∧ (oDo o op).2 = (treeDo x op).2 ∧ (oDo o op).1.base = o.base ∧ (oDo o op).1.layers = o.layers ∧ ((treeDo x op).2 ≠ 0 → (oDo o op).1 = o) := by
  unfold oDo
  rw [if_pos h.ok, h.vwG, h.lowG]
  by_cases hc : (treeDo x op).2 = 0
  · rw [if_pos hc]
    obtain ⟨_, _, h3, h4⟩ := treeDo_ok h.gx hc
    refine ⟨?_, hc.symm, rfl, rfl, fun e => absurd hc e⟩
    rw [h3]
    exact OG.turn h.low h4
  · rw [if_neg hc]
    refine ⟨?_, rfl, rfl, rfl, fun _ => rfl⟩
    rw [treeDo_ne h.gx hc]; exact h
theorem OG.push {o : Over} {t x : List Ent} (h : OG o t x) (hl : ¬ 4 ≤ o.layers.length) : oPush o = (⟨o.base, o.layers ++ [o.upper], []⟩, true) ∧ OG ⟨o.base, o.layers ++ [o.upper], []⟩ x x := by
  refine ⟨by unfold oPush; rw [if_pos h.ok, if_neg hl], ?_⟩
  have h1 : lower4 ⟨o.base, o.layers ++ [o.upper], []⟩ = some x := by
    unfold lower4
    simp only
    rw [if_pos ⟨h.lay.2.2, by simp; omega⟩, lowerA_app, h.lay.2.1]
    show lowerA [o.upper] t = some x
    rw [lowerA, h.on]; rfl
  refine OG.mk' h1 ?_ (diff_self h.gx).symm
  unfold view4
  rw [h1]
  exact lOn_nil h.gx
theorem OG.push_no {o : Over} {t x : List Ent} (h : OG o t x) (hl : 4 ≤ o.layers.length) : oPush o = (o, false) ∧ o.layers.length = 4 :=
  ⟨by unfold oPush; rw [if_pos h.ok, if_pos hl], by have := h.lay.1; omega⟩
theorem OG.drop {o : Over} {t x : List Ent} (h : OG o t x) : oDrop o = ⟨o.base, o.layers, []⟩ ∧ OG ⟨o.base, o.layers, []⟩ t t := by
  refine ⟨by unfold oDrop; rw [if_pos h.ok], ?_⟩
  have := OG.turn h.low h.gt
  rwa [diff_self h.gt] at this
theorem flatA_on {base : List Ent} : ∀ {ls : List (List Mark)} {one j : List Mark} {y t : List Ent}, flatA one ls = some j → lOn one base = some y → lowerA ls y = some t → lOn j base = some t
  | [], one, j, y, t, h1, h2, h3 => by
    rw [flatA] at h1; rw [lowerA] at h3; cases h1; cases h3; exact h2
  | l :: r, one, j, y, t, h1, h2, h3 => by
    rw [flatA] at h1
    rw [lowerA] at h3
    cases hj : lJoin l one with
    | none => rw [hj] at h1; cases h1
    | some j' =>
      rw [hj] at h1
      have := join_on hj h2
      cases hz : lOn l y with
      | none => rw [hz] at h3; cases h3
      | some z =>
        rw [hz] at h3 this
        exact flatA_on h1 this h3
theorem flatA_ok : ∀ {ls : List (List Mark)} {one j : List Mark}, lOk one = true → flatA one ls = some j → lOk j = true
  | [], _, _, h, h1 => by rw [flatA] at h1; cases h1; exact h
  | l :: r, one, j, h, h1 => by
    rw [flatA] at h1
    cases hj : lJoin l one with
    | none => rw [hj] at h1; cases h1
    | some j' => rw [hj] at h1; exact flatA_ok (lJoin_some hj).2.2.2 h1
theorem OG.flat {o : Over} {t x : List Ent} (h : OG o t x) {j : List Mark} (hj : flatO o = some j) : oFlat o = (⟨o.base, [j], o.upper⟩, true) ∧ OG ⟨o.base, [j], o.upper⟩ t x ∧ lOk j = true := by
  refine ⟨by unfold oFlat; rw [if_pos h.ok, hj], ?_⟩
  unfold flatO at hj
  split at hj
  · rename_i a b r hl
    have hlow := h.lay.2.1
    rw [hl, lowerA] at hlow
    cases hy : lOn a o.base with
    | none => rw [hy] at hlow; cases hlow
    | some y =>
      rw [hy] at hlow
      have ho := flatA_on hj hy hlow
      have h1 : lower4 ⟨o.base, [j], o.upper⟩ = some t := by
        unfold lower4
        rw [if_pos ⟨h.lay.2.2, by simp⟩, lowerA, ho]; rfl
      refine ⟨OG.mk' h1 ?_ h.up, (lOn_ok ho).2.1⟩
      unfold view4
      rw [h1]
      exact h.on
  · cases hj
theorem OG.sink {o : Over} {t x : List Ent} (h : OG o t x) : oSink o = ⟨t, [], o.upper⟩ ∧ OG ⟨t, [], o.upper⟩ t x := by
  refine ⟨by unfold oSink; rw [if_pos h.ok, h.lowG], ?_⟩
  have h1 : lower4 ⟨t, [], o.upper⟩ = some t := by
    unfold lower4
    rw [if_pos ⟨h.gt, by simp⟩]; rfl
  refine OG.mk' h1 ?_ h.up
  unfold view4
  rw [h1]
  exact h.on

/- Where what is seen is from. -/
theorem lay0 {l : List Mark} {t t' : List Ent} {p : Str} {e : Ent} (h : lOn l t = some t') (hk : kind l p = 0) (hf : find t' p = some e) : find t p = some e := by
  obtain ⟨_, h1, h2, rfl⟩ := lOn_ok h
  rw [on_findS (LG.of h1).srt (TG.of h2).srt, (LG.of h1).kind0.1 hk] at hf
  simp only at hf
  split at hf
  · cases hf
  · exact hf
theorem lays0 {p : Str} {e : Ent} : ∀ {ls : List (List Mark)} {b t : List Ent}, lowerA ls b = some t → (∀ l ∈ ls, kind l p = 0) → find t p = some e → find b p = some e
  | [], b, t, h, _, hf => by rw [lowerA] at h; cases h; exact hf
  | l :: r, b, t, h, hk, hf => by
    rw [lowerA] at h
    cases hz : lOn l b with
    | none => rw [hz] at h; cases h
    | some z => rw [hz] at h; exact lay0 hz (hk l (by simp)) (lays0 h (fun l hl => hk l (by simp [hl])) hf)
theorem topN_0 {all : List (List Mark)} {p : Str} : ∀ {k : Nat}, topN all p k = 0 → ∀ j, j < k → kind (all.getD j []) p = 0
  | 0, _, j, hj => by omega
  | k + 1, h, j, hj => by
    rw [topN] at h
    split at h
    · omega
    · rename_i h1
      by_cases hjk : j = k
      · subst hjk; simpa using h1
      · exact topN_0 h j (by omega)
theorem topN_up {all : List (List Mark)} {p : Str} {k : Nat} (h : topN all p (k + 1) ≠ k + 1) : kind (all.getD k []) p = 0 := by
  rw [topN] at h
  split at h
  · exact absurd rfl h
  · rename_i h1; simpa using h1
theorem OG.from {o : Over} {t x : List Ent} (h : OG o t x) {p : Str} {e : Ent} (hg : get x p = some e) : (topN (allL o) p (allL o).length = 0 → get o.base p = some e) ∧ (topN (allL o) p (allL o).length ≠ o.layers.length + 1 → get t p = some e) := by
  have hal : (allL o).length = o.layers.length + 1 := by simp [allL]
  unfold get at hg ⊢
  by_cases hp : p = [47]
  · rw [if_pos hp] at hg; rw [if_pos hp, if_pos hp]; exact ⟨fun _ => hg, fun _ => hg⟩
  rw [if_neg hp] at hg
  rw [if_neg hp, if_neg hp]
  have hup : kind o.upper p = 0 → find t p = some e := fun hk => lay0 h.on hk hg
  have hgu : (allL o).getD o.layers.length [] = o.upper := by unfold allL; simp [List.getD]
  refine ⟨fun h0 => ?_, fun hn => ?_⟩
  · have hall := topN_0 h0
    refine lays0 h.lay.2.1 (fun l hl => ?_) (hup ?_)
    · obtain ⟨j, hj, rfl⟩ := List.mem_iff_getElem.1 hl
      have := hall j (by omega)
      have e1 : (allL o).getD j [] = o.layers[j] := by unfold allL; simp [List.getD, List.getElem?_append_left hj, hj]
      rwa [e1] at this
    · have := hall o.layers.length (by omega)
      rwa [hgu] at this
  · rw [hal] at hn
    have := topN_up hn
    rw [hgu] at this
    exact hup this
theorem OG.get {o : Over} {t x : List Ent} (h : OG o t x) (p : Str) : oGet o p = (Go.Proofs.YthblflnfhdnpdaaGreatDoor.get x p).map fun e => (e, (topN (allL o) p (allL o).length : Int)) := by
  unfold oGet
  rw [if_pos h.ok, h.vw]
  simp only
  cases Go.Proofs.YthblflnfhdnpdaaGreatDoor.get x p <;> rfl

/-- What was done, undone. -/
theorem OG.back {o : Over} {t x : List Ent} (h : OG o t x) {op : Op} (hc : (oDo o op).2 = 0) : oDo (oDo o op).1 (backOp op ((oGet o op.path).map (·.1))) = (o, 0) := by
  obtain ⟨h1, h2, h3, h4, _⟩ := h.do op
  have hc' := hc
  rw [h2] at hc'
  obtain ⟨g1, g2, g3, g4⟩ := treeDo_ok h.gx hc'
  rw [g3] at h1
  have hb := back_ok (TG.of h.gx) g1 g2
  have e : (oGet o op.path).map (·.1) = find x op.path := by
    rw [h.get, get_find (op_path g1)]
    cases find x op.path <;> rfl
  rw [e]
  generalize backOp op (find x op.path) = b at *
  rw [h1.doEq, hb, if_pos rfl, h3, h4, ← h.up]

/- Sizes. -/
structure OS (o : Over) : Prop where
  b : o.base.length ≤ 17
  n : o.layers.length ≤ 4
  l : ∀ l ∈ o.layers, l.length ≤ 32
  u : o.upper.length ≤ 32
theorem OS.no : OS noO := ⟨by simp [noO], by simp [noO], by simp [noO], by simp [noO]⟩
theorem OG.os {o : Over} {t x : List Ent} (h : OG o t x) : OS o := by
  obtain ⟨h1, h2⟩ := oOk_layers h.ok
  have hb := (TG.of h.lay.2.2).len
  exact ⟨by omega, h.lay.1, fun l hl => (lOk_iff.1 (h1 l hl)).1, (lOk_iff.1 h2).1⟩
theorem OS.ok {o : Over} (h : oOk o = true) : OS o := by obtain ⟨t, x, h⟩ := OG.of h; exact h.os
theorem OS.do {o : Over} (op : Op) : OS (oDo o op).1 := by
  by_cases h : oOk o = true
  · obtain ⟨t, x, h⟩ := OG.of h; exact (h.do op).1.os
  · unfold oDo; rw [if_neg h]; exact OS.no
theorem OS.push {o : Over} : OS (oPush o).1 := by
  by_cases h : oOk o = true
  · obtain ⟨t, x, h⟩ := OG.of h
    by_cases hl : 4 ≤ o.layers.length
    · rw [(h.push_no hl).1]; exact h.os
    · rw [(h.push hl).1]; exact (h.push hl).2.os
  · unfold oPush; rw [if_neg h]; exact OS.no
theorem OS.flat {o : Over} : OS (oFlat o).1 := by
  by_cases h : oOk o = true
  · obtain ⟨t, x, h⟩ := OG.of h
    cases hj : flatO o with
    | some j => rw [(h.flat hj).1]; exact (h.flat hj).2.1.os
    | none => unfold oFlat; rw [if_pos h.ok, hj]; exact h.os
  · unfold oFlat; rw [if_neg h]; exact OS.no

end Go.Proofs.YthblflnfhdnpdaaGreatDoor

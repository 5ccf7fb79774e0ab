/- What the program does otherwise: lists that are sorted at last, two trees merged; no condition, no program. -/
import Derived.Test.YthblflnfhdnpdaaGreatDoorQa5
namespace Go.Proofs.YthblflnfhdnpdaaGreatDoor
set_option linter.unusedSimpArgs false
set_option linter.unusedVariables false
open Go Go.RowKit

/-- The same things, in the order of their keys. -/
def Sorts {α : Type} (key : α → Str) (X S : List α) : Prop := S.Perm X ∧ S.Pairwise fun a b => ltS (key b) (key a) = false
theorem Sorts.eq {α : Type} {key : α → Str} {X S Y : List α} (h : Sorts key X S) (hn : (X.map key).Nodup) (hY : Srt key Y) (hm : ∀ e, e ∈ X ↔ e ∈ Y) : S = Y := by
  have hn2 : (S.map key).Nodup := (h.1.map key).nodup_iff.2 hn
  refine srt_mem_ext ?_ hY fun e => by rw [← hm]; exact h.1.mem_iff
  unfold List.Nodup at hn2
  rw [List.pairwise_map] at hn2
  refine (h.2.and hn2).imp fun ⟨h1, h2⟩ => ?_
  rcases ltS_f h1 with h3 | h3
  · exact absurd h3.symm h2
  · exact h3
theorem Sorts.len {α : Type} {key : α → Str} {X S : List α} (h : Sorts key X S) : S.length = X.length := h.1.length_eq

/-- Two trees side by side: where they have not the same. -/
def mergeT : List Ent → List Ent → List Str
  | [], [] => []
  | x :: a, [] => x.path :: mergeT a []
  | [], y :: b => y.path :: mergeT [] b
  | x :: a, y :: b => if ltS x.path y.path = true then x.path :: mergeT a (y :: b) else if ltS y.path x.path = true then y.path :: mergeT (x :: a) b else if x = y then mergeT a b else x.path :: mergeT a b
termination_by a b => a.length + b.length

theorem srt_head {α : Type} {key : α → Str} {x : α} {l : List α} (hs : Srt key (x :: l)) {p : Str} {e : α} (h : fnd key l p = some e) : ltS (key x) p = true := by
  unfold Srt at hs
  rw [List.pairwise_cons] at hs
  obtain ⟨h1, h2⟩ := fnd_some h
  rw [← h1]; exact hs.1 e h2
theorem srt_tail {α : Type} {key : α → Str} {x : α} {l : List α} (hs : Srt key (x :: l)) : Srt key l := by
  unfold Srt at hs; rw [List.pairwise_cons] at hs; exact hs.2
theorem find_cons {x : Ent} {l : List Ent} {p : Str} : find (x :: l) p = if x.path = p then some x else find l p := fnd_cons
theorem find_ahead {l : List Ent} {y : Ent} (hs : Srt Ent.path (y :: l)) {p : Str} (h : ltS p y.path = true) : find (y :: l) p = none := by
  refine fnd_none.2 fun e he hk => ?_
  rcases List.mem_cons.1 he with rfl | he
  · rw [hk, ltS_irr] at h; cases h
  · unfold Srt at hs
    rw [List.pairwise_cons] at hs
    have := ltS_trans h (hs.1 e he)
    rw [hk, ltS_irr] at this; cases this
theorem find_first {l : List Ent} {y : Ent} (hs : Srt Ent.path (y :: l)) : find l y.path = none := by
  unfold Srt at hs
  rw [List.pairwise_cons] at hs
  exact fnd_none.2 fun e he => (ltS_ne (hs.1 e he)).symm

theorem merge_spec : ∀ (n : Nat) {a b : List Ent}, a.length + b.length ≤ n → Srt Ent.path a → Srt Ent.path b → SrtS (mergeT a b) ∧ ∀ p, p ∈ mergeT a b ↔ find a p ≠ find b p := by
  intro n
  induction n with
  | zero =>
    intro a b hl _ _
    cases a with
    | cons => simp at hl
    | nil => cases b with
      | cons => simp at hl
      | nil => exact ⟨by rw [mergeT]; exact List.Pairwise.nil, fun p => by rw [mergeT]; simp⟩
  | succ n ih =>
    intro a b hl ha hb
    have hcons : ∀ {x : Ent} {a b : List Ent} {p0 : Str}, (SrtS (mergeT a b) ∧ ∀ p, p ∈ mergeT a b ↔ find a p ≠ find b p) → (∀ p, (∃ e, find a p = some e) → ltS x.path p = true) → (∀ p, (∃ e, find b p = some e) → ltS x.path p = true) →
        SrtS (x.path :: mergeT a b) := by
      rintro x a b _ ⟨h1, h2⟩ h3 h4
      refine List.pairwise_cons.2 ⟨fun p hp => ?_, h1⟩
      have := (h2 p).1 hp
      cases hfa : find a p with
      | some e => exact h3 p ⟨e, hfa⟩
      | none =>
        cases hfb : find b p with
        | some e => exact h4 p ⟨e, hfb⟩
        | none => rw [hfa, hfb] at this; exact absurd rfl this
    cases a with
    | nil =>
      cases b with
      | nil => exact ⟨by rw [mergeT]; exact List.Pairwise.nil, fun p => by rw [mergeT]; simp⟩
      | cons y b =>
        have h := ih (a := []) (b := b) (by simp at hl ⊢; omega) ha (srt_tail hb)
        rw [mergeT]
        refine ⟨hcons (p0 := []) h (fun p ⟨e, he⟩ => by cases he) (fun p ⟨e, he⟩ => srt_head hb he), fun p => ?_⟩
        rw [List.mem_cons, h.2, find_cons]
        by_cases hp : y.path = p
        · rw [if_pos hp]; simp [hp, find]
        · rw [if_neg hp]; exact or_iff_right fun e => hp (Eq.symm e)
    | cons x a =>
      cases b with
      | nil =>
        have h := ih (a := a) (b := []) (by simp at hl ⊢; omega) (srt_tail ha) hb
        rw [mergeT]
        refine ⟨hcons (p0 := []) h (fun p ⟨e, he⟩ => srt_head ha he) (fun p ⟨e, he⟩ => by cases he), fun p => ?_⟩
        rw [List.mem_cons, h.2, find_cons]
        by_cases hp : x.path = p
        · rw [if_pos hp]; simp [hp, find]
        · rw [if_neg hp]; exact or_iff_right fun e => hp (Eq.symm e)
      | cons y b =>
        rw [mergeT]
        by_cases h1 : ltS x.path y.path = true
        · rw [if_pos h1]
          have h := ih (a := a) (b := y :: b) (by simp at hl ⊢; omega) (srt_tail ha) hb
          refine ⟨hcons (p0 := []) h (fun p ⟨e, he⟩ => srt_head ha he) (fun p ⟨e, he⟩ => ?_), fun p => ?_⟩
          · rw [find_cons] at he
            split at he
            · rename_i hy; rw [← hy]; exact h1
            · exact ltS_trans h1 (srt_head hb he)
          · rw [List.mem_cons, h.2, find_cons (x := x)]
            by_cases hp : x.path = p
            · rw [if_pos hp, find_ahead hb (by rw [← hp]; exact h1)]; simp [hp]
            · rw [if_neg hp]; exact or_iff_right fun e => hp (Eq.symm e)
        · rw [if_neg h1]
          by_cases h2 : ltS y.path x.path = true
          · rw [if_pos h2]
            have h := ih (a := x :: a) (b := b) (by simp at hl ⊢; omega) ha (srt_tail hb)
            refine ⟨hcons (p0 := []) h (fun p ⟨e, he⟩ => ?_) (fun p ⟨e, he⟩ => srt_head hb he), fun p => ?_⟩
            · rw [find_cons] at he
              split at he
              · rename_i hy; rw [← hy]; exact h2
              · exact ltS_trans h2 (srt_head ha he)
            · rw [List.mem_cons, h.2, find_cons (x := y)]
              by_cases hp : y.path = p
              · rw [if_pos hp, find_ahead ha (by rw [← hp]; exact h2)]; simp [hp]
              · rw [if_neg hp]; exact or_iff_right fun e => hp (Eq.symm e)
          · rw [if_neg h2]
            have he : x.path = y.path := by
              rcases ltS_f (by simpa using h1 : ltS x.path y.path = false) with h3 | h3
              · exact h3
              · exact absurd h3 h2
            have h := ih (a := a) (b := b) (by simp at hl ⊢; omega) (srt_tail ha) (srt_tail hb)
            have hfa := find_first ha
            have hfb := find_first hb
            by_cases hxy : x = y
            · rw [if_pos hxy]
              refine ⟨h.1, fun p => ?_⟩
              rw [h.2, find_cons, find_cons, ← he, hxy]
              by_cases hp : y.path = p
              · rw [if_pos hp, if_pos hp, ← hp, hfb, ← he, hfa]; simp
              · rw [if_neg hp, if_neg hp]
            · rw [if_neg hxy]
              refine ⟨hcons (p0 := []) h (fun p ⟨e, h'⟩ => srt_head ha h') (fun p ⟨e, h'⟩ => by rw [he]; exact srt_head hb h'), fun p => ?_⟩
              rw [List.mem_cons, h.2, find_cons, find_cons, ← he]
              by_cases hp : x.path = p
              · rw [if_pos hp, if_pos hp]; simp [hp, hxy]
              · rw [if_neg hp, if_neg hp]; exact or_iff_right fun e => hp (Eq.symm e)
theorem merge_turned {a b : List Ent} (ha : TG a) (hb : TG b) : mergeT a b = turned a b := by
  obtain ⟨h1, h2⟩ := merge_spec _ (Nat.le_refl _) ha.srt hb.srt
  exact srt_mem_ext h1 (turned_srt ha) fun p => by rw [h2, mem_turned ha hb]

/-- A directory's mark behind all, where there is none. -/
def addUp (l : List Mark) (u : Str) : List Mark := if (mfind l u).isSome = true then l else l ++ [⟨u, 2, []⟩]
theorem mem_addUp {l : List Mark} {u : Str} {x : Mark} (h : ∀ y ∈ l, y.path = u → y = ⟨u, 2, []⟩) : x ∈ addUp l u ↔ x ∈ l ∨ x = ⟨u, 2, []⟩ := by
  unfold addUp
  split
  · rename_i hs
    obtain ⟨m, hm⟩ := Option.isSome_iff_exists.1 hs
    obtain ⟨h1, h2⟩ := mfind_path hm
    have := h m h2 h1
    constructor
    · exact .inl
    · rintro (h | rfl)
      · exact h
      · rw [← this]; exact h2
  · simp
theorem nodup_addUp {l : List Mark} {u : Str} (h : (l.map Mark.path).Nodup) : ((addUp l u).map Mark.path).Nodup := by
  unfold addUp
  split
  · exact h
  · rename_i hs
    have : mfind l u = none := by cases hm : mfind l u with
      | none => rfl
      | some m => rw [hm] at hs; exact absurd rfl hs
    rw [List.map_append, List.nodup_append]
    refine ⟨h, by simp, fun p hp q hq => ?_⟩
    simp at hq
    subst hq
    obtain ⟨m, hm, rfl⟩ := List.mem_map.1 hp
    exact fnd_none.1 this m hm
theorem fold_addUp : ∀ {us : List Str} {l : List Mark}, (l.map Mark.path).Nodup → (∀ u ∈ us, ∀ y ∈ l, y.path = u → y = ⟨u, 2, []⟩) →
    ((us.foldl addUp l).map Mark.path).Nodup ∧ ∀ x, x ∈ us.foldl addUp l ↔ x ∈ l ∨ ∃ u ∈ us, x = ⟨u, 2, []⟩
  | [], l, hn, _ => ⟨hn, fun x => by simp⟩
  | u :: us, l, hn, h => by
    have hm := fun x => mem_addUp (x := x) (h u (by simp))
    obtain ⟨h1, h2⟩ := fold_addUp (us := us) (nodup_addUp (u := u) hn) fun v hv y hy e => by
      rcases (hm y).1 hy with hy | rfl
      · exact h v (by simp [hv]) y hy e
      · simp at e; rw [e]
    refine ⟨h1, fun x => ?_⟩
    rw [List.foldl_cons, h2, hm]
    simp only [List.mem_cons, exists_eq_or_imp, or_assoc]
def addUps (l : List Mark) (m : Mark) : List Mark := (upsN 3 m.path).foldl addUp l
/-- The difference as the program makes it, ahead of the sorting. -/
def difX (a b : List Ent) : List Mark := ((turned a b).filterMap (difM b)).foldl addUps ((turned a b).filterMap (difM b))
theorem fold_addUps {b : List Ent} (hb : TG b) {all : List Str} (hall : ∀ p ∈ all, pOk p = true) : ∀ {ms : List Mark} {l : List Mark}, (∀ m ∈ ms, ∃ p ∈ all, difM b p = some m) → (l.map Mark.path).Nodup → (∀ x ∈ l, DS b all x) →
    ((ms.foldl addUps l).map Mark.path).Nodup ∧ ∀ x, x ∈ ms.foldl addUps l ↔ x ∈ l ∨ ∃ m ∈ ms, ∃ u ∈ upsN 3 m.path, x = ⟨u, 2, []⟩
  | [], l, _, hn, _ => ⟨hn, fun x => by simp⟩
  | m :: ms, l, hms, hn, hl => by
    obtain ⟨p, hp, hd⟩ := hms m (by simp)
    have hpm := difM_path hd
    have hU : ∀ u ∈ upsN 3 m.path, DS b all ⟨u, 2, []⟩ := fun u hu => .inr ⟨p, hp, by rw [hd]; rfl, u, by rw [← hpm]; exact hu, rfl⟩
    obtain ⟨h1, h2⟩ := fold_addUp (us := upsN 3 m.path) hn fun u hu y hy e => (hl y hy).one hb hall (hU u hu) e
    obtain ⟨h3, h4⟩ := fold_addUps hb hall (ms := ms) (l := addUps l m) (fun x hx => hms x (by simp [hx])) h1 fun x hx => by
      rcases (h2 x).1 hx with hx | ⟨u, hu, rfl⟩
      · exact hl x hx
      · exact hU u hu
    refine ⟨h3, fun x => ?_⟩
    rw [List.foldl_cons, h4]
    have : x ∈ addUps l m ↔ x ∈ l ∨ ∃ u ∈ upsN 3 m.path, x = ⟨u, 2, []⟩ := h2 x
    rw [this]
    simp only [List.mem_cons, exists_eq_or_imp, or_assoc]
theorem difX_spec {a b : List Ent} (ha : TG a) (hb : TG b) : ((difX a b).map Mark.path).Nodup ∧ ∀ x, x ∈ difX a b ↔ x ∈ diff a b := by
  have hall : ∀ p ∈ turned a b, pOk p = true := fun _ h => turned_pok ha hb h
  have hmem : ∀ m, m ∈ (turned a b).filterMap (difM b) ↔ ∃ p ∈ turned a b, difM b p = some m := fun m => List.mem_filterMap
  have hn : (((turned a b).filterMap (difM b)).map Mark.path).Nodup := by
    have hs := turned_srt (b := b) ha
    unfold List.Nodup
    rw [List.pairwise_map, List.pairwise_filterMap]
    refine List.Pairwise.imp (fun {p q} h m hm m' hm' => ?_) hs
    rw [difM_path hm, difM_path hm']; exact ltS_ne h
  obtain ⟨h1, h2⟩ := fold_addUps hb hall (ms := (turned a b).filterMap (difM b)) (fun m hm => (hmem m).1 hm) hn fun x hx => .inl ((hmem x).1 hx)
  refine ⟨h1, fun x => ?_⟩
  have e : x ∈ difX a b ↔ _ := h2 x
  rw [e, mem_diff ha hb, hmem]
  unfold DS
  refine or_congr Iff.rfl ?_
  constructor
  · rintro ⟨m, hm, u, hu, rfl⟩
    obtain ⟨p, hp, hd⟩ := (hmem m).1 hm
    exact ⟨p, hp, by rw [hd]; rfl, u, by rw [← difM_path hd]; exact hu, rfl⟩
  · rintro ⟨p, hp, hs, u, hu, rfl⟩
    obtain ⟨m, hm⟩ := Option.isSome_iff_exists.1 hs
    exact ⟨m, (hmem m).2 ⟨p, hp, hm⟩, u, by rw [difM_path hm]; exact hu, rfl⟩
theorem difX_sorts {a b : List Ent} (ha : TG a) (hb : TG b) {S : List Mark} (h : Sorts Mark.path (difX a b) S) : S = diff a b :=
  h.eq (difX_spec ha hb).1 (diff_srt ha hb) (difX_spec ha hb).2

/-- A layer on a tree as the program makes it, ahead of the sorting. -/
def onX (l : List Mark) (t : List Ent) : List Ent := (t.filter fun e => !(mfind l e.path).isSome && !hides l e.path) ++ l.filterMap onEnt
theorem onX_mem {l : List Mark} {t : List Ent} (hl : lOk l = true) (ht : Srt Ent.path t) (e : Ent) : e ∈ onX l t ↔ e ∈ onRaw l t := by
  rw [mem_on hl ht]
  unfold onX
  rw [List.mem_append, List.mem_filterMap, List.mem_filter]
  constructor
  · rintro (⟨h1, h2⟩ | h)
    · simp only [Bool.and_eq_true, Bool.not_eq_true', Option.isSome_eq_false_iff, Option.isNone_iff_eq_none] at h2
      exact .inr ⟨h2.1, h2.2, h1⟩
    · exact .inl h
  · rintro (h | ⟨h1, h2, h3⟩)
    · exact .inr h
    · exact .inl ⟨h3, by simp [h1, h2]⟩
theorem onX_nodup {l : List Mark} {t : List Ent} (hl : Srt Mark.path l) (ht : Srt Ent.path t) : ((onX l t).map Ent.path).Nodup := by
  unfold onX
  rw [List.map_append, List.nodup_append]
  refine ⟨srt_nodup (srt_filter ht _), ?_, fun p hp q hq => ?_⟩
  · unfold List.Nodup
    rw [List.pairwise_map, List.pairwise_filterMap]
    refine List.Pairwise.imp (fun {x y} h e he f hf => ?_) hl
    rw [onEnt_path he, onEnt_path hf]; exact ltS_ne h
  · rintro rfl
    obtain ⟨e, he, rfl⟩ := List.mem_map.1 hp
    obtain ⟨f, hf, hq⟩ := List.mem_map.1 hq
    obtain ⟨m, hm, hf⟩ := List.mem_filterMap.1 hf
    have h2 := (List.mem_filter.1 he).2
    have h3 : mfind l m.path = some m := fnd_mem hl hm
    rw [← hq, onEnt_path hf, h3] at h2
    simp at h2
theorem onX_sorts {l : List Mark} {t S : List Ent} (hl : lOk l = true) (ht : Srt Ent.path t) (h : Sorts Ent.path (onX l t) S) : S = onRaw l t :=
  h.eq (onX_nodup (lOk_iff.1 hl).2.1 ht) (srt_on ht) (onX_mem hl ht)
theorem onX_len {l : List Mark} {t : List Ent} (hl : lOk l = true) (ht : Srt Ent.path t) : (onX l t).length = (onRaw l t).length := by
  have h1 : ∀ {α : Type} {key : α → Str} {a b : List α}, (a.map key).Nodup → (∀ e, e ∈ a → e ∈ b) → [DecidableEq α] → a.length ≤ b.length := by
    intro α key a b hn h _
    refine nodup_len ?_ h
    unfold List.Nodup at hn ⊢
    rw [List.pairwise_map] at hn
    exact hn.imp fun h e => h (by rw [e])
  have ha := h1 (key := Ent.path) (onX_nodup (lOk_iff.1 hl).2.1 ht) (fun e he => (onX_mem hl ht e).1 he)
  have hb := h1 (key := Ent.path) (srt_nodup (srt_on (l := l) ht)) (fun e he => (onX_mem hl ht e).2 he)
  omega

/-- Two layers in one as the program makes it, ahead of the sorting. -/
def joinX (a b : List Mark) : List Mark := b.filter (joinB a) ++ a.map (joinM b)
theorem joinX_mem {a b : List Mark} (ha : LG a) (hb : LG b) (m : Mark) : m ∈ joinX a b ↔ m ∈ join0 a b := by
  rw [mem_join0 ha hb]
  unfold joinX
  rw [List.mem_append, List.mem_filter, List.mem_map]
  have hj : joinB a m = true ↔ mfind a m.path = none ∧ hides a m.path = false := by
    unfold joinB
    simp only [Bool.and_eq_true, Bool.not_eq_true', beq_iff_eq, ha.kind0]
    exact and_comm
  rw [hj]
  constructor
  · rintro (⟨h1, h2, h3⟩ | ⟨x, h1, h2⟩)
    · exact .inr ⟨h1, h2, h3⟩
    · exact .inl ⟨x, h1, h2.symm⟩
  · rintro (⟨x, h1, h2⟩ | ⟨h1, h2, h3⟩)
    · exact .inr ⟨x, h1, h2.symm⟩
    · exact .inl ⟨h1, h2, h3⟩
theorem joinX_nodup {a b : List Mark} (ha : LG a) (hb : LG b) : ((joinX a b).map Mark.path).Nodup := by
  unfold joinX
  rw [List.map_append, List.nodup_append]
  refine ⟨srt_nodup (srt_filter hb.srt _), srt_nodup (srt_map (f := joinM b) (fun _ => rfl) ha.srt), fun p hp q hq => ?_⟩
  rintro rfl
  obtain ⟨e, he, rfl⟩ := List.mem_map.1 hp
  obtain ⟨f, hf, hq⟩ := List.mem_map.1 hq
  obtain ⟨m, hm, rfl⟩ := List.mem_map.1 hf
  have h2 := (List.mem_filter.1 he).2
  have h3 : mfind a m.path = some m := fnd_mem ha.srt hm
  have h4 : m.path = e.path := hq
  unfold joinB at h2
  simp only [Bool.and_eq_true, beq_iff_eq, ha.kind0, ← h4, h3] at h2
  cases h2.2
theorem any_mem {α : Type} {q : α → Bool} {a b : List α} (h : ∀ e, e ∈ a ↔ e ∈ b) : a.any q = b.any q := by
  rw [Bool.eq_iff_iff, List.any_eq_true, List.any_eq_true]
  exact ⟨fun ⟨x, h1, h2⟩ => ⟨x, (h x).1 h1, h2⟩, fun ⟨x, h1, h2⟩ => ⟨x, (h x).2 h1, h2⟩⟩
theorem tidyX {a b : List Mark} (ha : LG a) (hb : LG b) : tidyP (joinX a b) = tidyP (join0 a b) := by
  funext m
  have : bare (joinX a b) m.path = bare (join0 a b) m.path := any_mem (joinX_mem ha hb)
  unfold tidyP; rw [this]
def joinY (a b : List Mark) : List Mark := (joinX a b).filterMap (tidyP (joinX a b))
theorem joinY_spec {a b : List Mark} (ha : LG a) (hb : LG b) : ((joinY a b).map Mark.path).Nodup ∧ ∀ m, m ∈ joinY a b ↔ m ∈ joinL a b := by
  unfold joinY joinL tidyL
  rw [tidyX ha hb]
  refine ⟨?_, fun m => ?_⟩
  · have := joinX_nodup ha hb
    unfold List.Nodup at this ⊢
    rw [List.pairwise_map] at this
    rw [List.pairwise_map, List.pairwise_filterMap]
    refine List.Pairwise.imp (fun {x y} h e he f hf => ?_) this
    rw [tidyP_path _ _ he, tidyP_path _ _ hf]; exact h
  · rw [List.mem_filterMap, List.mem_filterMap]
    exact ⟨fun ⟨x, h1, h2⟩ => ⟨x, (joinX_mem ha hb x).1 h1, h2⟩, fun ⟨x, h1, h2⟩ => ⟨x, (joinX_mem ha hb x).2 h1, h2⟩⟩
theorem joinY_sorts {a b S : List Mark} (ha : LG a) (hb : LG b) (h : Sorts Mark.path (joinY a b) S) : S = joinL a b :=
  h.eq (joinY_spec ha hb).1 (joinL_LG ha hb).srt (joinY_spec ha hb).2
theorem joinY_len {a b : List Mark} (ha : LG a) (hb : LG b) : (joinY a b).length = (joinL a b).length := by
  have h1 : ∀ {a b : List Mark}, (a.map Mark.path).Nodup → (∀ e, e ∈ a → e ∈ b) → a.length ≤ b.length := by
    intro a b hn h
    refine nodup_len ?_ h
    unfold List.Nodup at hn ⊢
    rw [List.pairwise_map] at hn
    exact hn.imp fun h e => h (by rw [e])
  have h2 := h1 (joinY_spec ha hb).1 fun e he => ((joinY_spec ha hb).2 e).1 he
  have h3 := h1 (srt_nodup (joinL_LG ha hb).srt) fun e he => ((joinY_spec ha hb).2 e).2 he
  omega

/-- Is a path in a directory: as the program tells it. -/
def upC2 (t : List Ent) (p : Str) : Int := if pUp p = [47] then 0 else match find t (pUp p) with
  | none => 2
  | some e => if e.dir = true then 0 else 3
theorem upC2_0 {t : List Ent} {p : Str} : upC2 t p = 0 ↔ isDir t (pUp p) = true := by
  unfold upC2 isDir get
  by_cases h : pUp p = [47]
  · rw [if_pos h, if_pos h]; simp [rootE]
  · rw [if_neg h, if_neg h]
    cases find t (pUp p) with
    | none => simp
    | some e => cases e.dir <;> simp

end Go.Proofs.YthblflnfhdnpdaaGreatDoor

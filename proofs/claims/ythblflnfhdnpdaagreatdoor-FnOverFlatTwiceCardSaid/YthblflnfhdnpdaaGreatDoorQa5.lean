/- What a tree differs by: what the difference has, and what it does; no condition, no program. -/
import Derived.Test.YthblflnfhdnpdaaGreatDoorQa4
namespace Go.Proofs.YthblflnfhdnpdaaGreatDoor
set_option linter.unusedSimpArgs false
set_option linter.unusedVariables false
open Go Go.RowKit

theorem nodup_len {α : Type} [DecidableEq α] : ∀ {l k : List α}, l.Nodup → (∀ x ∈ l, x ∈ k) → l.length ≤ k.length
  | [], _, _, _ => by simp
  | x :: l, k, hn, h => by
    rw [List.nodup_cons] at hn
    have hx := h x (by simp)
    have ih := nodup_len (l := l) (k := k.erase x) hn.2 fun y hy => by
      refine (List.mem_erase_of_ne ?_).2 (h y (by simp [hy]))
      rintro rfl; exact hn.1 hy
    rw [List.length_erase_of_mem hx] at ih
    have := List.length_pos_of_mem hx
    simp; omega
theorem srt_nodup {α : Type} {key : α → Str} {l : List α} (hs : Srt key l) : (l.map key).Nodup := by
  unfold List.Nodup
  rw [List.pairwise_map]
  exact hs.imp fun h => ltS_ne h

/-- The tree, right. -/
structure TG (t : List Ent) : Prop where
  len : t.length ≤ 16
  srt : Srt Ent.path t
  ok : ∀ e ∈ t, eok e = true
  up : ∀ e ∈ t, isDir t (pUp e.path) = true
theorem TG.of {t : List Ent} (h : tOk t = true) : TG t := by obtain ⟨a, b, c, d⟩ := tOk_iff.1 h; exact ⟨a, b, c, d⟩
theorem TG.path {t : List Ent} (h : TG t) {e : Ent} (he : e ∈ t) : pOk e.path = true := by
  have := h.ok e he; simp only [eok, Bool.and_eq_true] at this; exact this.1
theorem TG.data {t : List Ent} (h : TG t) {e : Ent} (he : e ∈ t) (hd : e.dir = true) : e.data = [] := by
  have := h.ok e he; simp only [eok, Bool.and_eq_true, hd, Bool.true_and] at this
  simpa using this.2.2
theorem TG.datOk {t : List Ent} (h : TG t) {e : Ent} (he : e ∈ t) : dataOk e.data = true := by
  have := h.ok e he; simp only [eok, Bool.and_eq_true] at this; exact this.2.1
theorem TG.at {t : List Ent} (h : TG t) {e : Ent} (he : e ∈ t) : find t e.path = some e := fnd_mem h.srt he
theorem TG.find_ok {t : List Ent} (h : TG t) {p : Str} {e : Ent} (hf : find t p = some e) : pOk p = true := by
  obtain ⟨h1, h2⟩ := find_path hf; rw [← h1]; exact h.path h2
theorem TG.isDir_ent {t : List Ent} (h : TG t) {p : Str} (hp : pOk p = true) (hd : isDir t p = true) : find t p = some ⟨p, true, []⟩ := by
  unfold isDir at hd
  rw [get_find hp] at hd
  cases hf : find t p with
  | none => rw [hf] at hd; cases hd
  | some e =>
    rw [hf] at hd
    obtain ⟨h1, h2⟩ := find_path hf
    have := h.data h2 hd
    obtain ⟨a, b, c⟩ := e
    simp at h1 hd this
    rw [h1, hd, this]
/-- What is above an entry is a directory. -/
theorem TG.anc {t : List Ent} (h : TG t) : ∀ (n : Nat) {p d : Str}, (names p).length ≤ n → pOk p = true → pOk d = true → und p d = true → isDir t (pUp p) = true → find t d = some ⟨d, true, []⟩
  | 0, p, d, hn, hp, _, _, _ => by have := (pOk_names hp).1.1; omega
  | n + 1, p, d, hn, hp, hd, hu, hf => by
    rcases und_cases hp hd hu with h1 | ⟨h1, h2, h3⟩
    · rw [h1] at hf; exact h.isDir_ent hd hf
    · have hup := (pOk_up hp h1).2.2
      refine h.anc n (by omega) h2 hd h3 ?_
      have := h.isDir_ent h2 hf
      exact h.up _ (find_path this).2
theorem TG.anc' {t : List Ent} (h : TG t) {p d : Str} {e : Ent} (hf : find t p = some e) (hd : pOk d = true) (hu : und p d = true) : find t d = some ⟨d, true, []⟩ := by
  have hp := h.find_ok hf
  refine h.anc _ (Nat.le_refl _) hp hd hu ?_
  obtain ⟨h1, h2⟩ := find_path hf
  have := h.up e h2
  rw [h1] at this; exact this

/-- Paths in order. -/
abbrev SrtS (l : List Str) : Prop := Srt (fun s : Str => s) l
theorem fnd_id {l : List Str} {p : Str} : fnd (fun s : Str => s) l p = if p ∈ l then some p else none := by
  split
  · rename_i h
    cases hf : fnd (fun s : Str => s) l p with
    | none => exact absurd rfl (fnd_none.1 hf p h)
    | some e => exact congrArg some (fnd_some hf).1
  · rename_i h
    exact fnd_none.2 fun e he hk => h (by rw [← hk]; exact he)

theorem find_both {a b : List Ent} (ha : TG a) (hb : TG b) {p : Str} : find (both a b) p = (find b p).or (find a p) := fnd_fold_put hb.srt
theorem both_srt {a b : List Ent} (ha : TG a) : Srt Ent.path (both a b) := fold_put_srt ha.srt
theorem turned_srt {a b : List Ent} (ha : TG a) : SrtS (turned a b) := by
  have := srt_filter (both_srt (b := b) ha) (tudP a b)
  unfold Srt at this
  unfold turned
  show List.Pairwise _ _
  rw [List.pairwise_map]; exact this
theorem mem_turned {a b : List Ent} (ha : TG a) (hb : TG b) {p : Str} : p ∈ turned a b ↔ find a p ≠ find b p := by
  have hok : ∀ {q}, (∃ e, find a q = some e) ∨ (∃ e, find b q = some e) → pOk q = true := by
    rintro q (⟨e, h⟩ | ⟨e, h⟩)
    · exact ha.find_ok h
    · exact hb.find_ok h
  unfold turned
  rw [List.mem_map]
  constructor
  · rintro ⟨e, he, rfl⟩
    obtain ⟨h1, h2⟩ := List.mem_filter.1 he
    have : find (both a b) e.path = some e := fnd_mem (both_srt ha) h1
    rw [find_both ha hb] at this
    have hp : pOk e.path = true := by
      refine hok ?_
      cases hb' : find b e.path with
      | some x => exact .inr ⟨x, rfl⟩
      | none => rw [hb'] at this; exact .inl ⟨e, by simpa using this⟩
    simp only [tudP, decide_eq_true_eq, get_find hp] at h2
    exact h2
  · intro h
    cases hf : find (both a b) p with
    | none =>
      rw [find_both ha hb] at hf
      cases hb' : find b p with
      | some x => rw [hb'] at hf; cases hf
      | none => rw [hb'] at hf h; simp at hf; rw [hf] at h; exact absurd rfl h
    | some e =>
      obtain ⟨h1, h2⟩ := find_path hf
      refine ⟨e, List.mem_filter.2 ⟨h2, ?_⟩, h1⟩
      rw [find_both ha hb] at hf
      have hp : pOk p = true := by
        refine hok ?_
        cases hb' : find b p with
        | some x => exact .inr ⟨x, rfl⟩
        | none => rw [hb'] at hf; exact .inl ⟨e, by simpa using hf⟩
      simp only [tudP, decide_eq_true_eq, h1, get_find hp]
      exact h

theorem upsN_spec : ∀ (n : Nat) {p u : Str}, pOk p = true → u ∈ upsN n p → pOk u = true ∧ und p u = true ∧ (pUp u = [47] ∨ (names p).length ≤ n → pUp u = [47] ∨ pUp u ∈ upsN n p)
  | 0, p, u, _, h => by simp [upsN] at h
  | n + 1, p, u, hp, h => by
    unfold upsN at h ⊢
    split at h
    · simp at h
    · rename_i hr
      rw [if_neg hr]
      obtain ⟨q1, q2, q3⟩ := pOk_up hp hr
      rcases List.mem_cons.1 h with rfl | h
      · refine ⟨q1, und_up hp, fun hh => ?_⟩
        by_cases hr2 : pUp (pUp p) = [47]
        · exact .inl hr2
        · rcases hh with hh | hh
          · exact .inl hh
          · right
            have hn1 := (pOk_names q1).1.1
            cases n with
            | zero => omega
            | succ n => refine List.mem_cons_of_mem _ ?_; unfold upsN; rw [if_neg hr2]; simp
      · obtain ⟨h1, h2, h3⟩ := upsN_spec n q1 h
        refine ⟨h1, und_trans (ok_ne_root h1) hr (und_up hp) h2, fun hh => ?_⟩
        rcases h3 (hh.imp id fun hh => by omega) with h4 | h4
        · exact .inl h4
        · exact .inr (List.mem_cons_of_mem _ h4)

/-- What a difference has. -/
def DS (b : List Ent) (ps : List Str) (x : Mark) : Prop := (∃ p ∈ ps, difM b p = some x) ∨ ∃ p ∈ ps, (difM b p).isSome = true ∧ ∃ u ∈ upsN 3 p, x = ⟨u, 2, []⟩

theorem difM_path {b : List Ent} {p : Str} {x : Mark} (h : difM b p = some x) : x.path = p := by
  unfold difM at h
  split at h
  · cases h; rfl
  · split at h
    · cases h; rfl
    · cases h
theorem difM_up {b : List Ent} (hb : TG b) {p : Str} (hp : pOk p = true) (h : (difM b p).isSome = true) : isDir b (pUp p) = true := by
  unfold difM at h
  rw [get_find hp] at h
  cases hf : find b p with
  | none => rw [hf] at h; simp only at h; split at h
            · assumption
            · cases h
  | some e =>
    obtain ⟨h1, h2⟩ := find_path hf
    have := hb.up e h2
    rw [h1] at this; exact this
theorem difM_dir {b : List Ent} {p : Str} (hp : pOk p = true) (h : find b p = some ⟨p, true, []⟩) : difM b p = some ⟨p, 2, []⟩ := by
  unfold difM; rw [get_find hp, h]; rfl
theorem ups_dir {b : List Ent} (hb : TG b) {p u : Str} (hp : pOk p = true) (h : (difM b p).isSome = true) (hu : u ∈ upsN 3 p) : pOk u = true ∧ und p u = true ∧ find b u = some ⟨u, true, []⟩ := by
  obtain ⟨h1, h2, _⟩ := upsN_spec 3 hp hu
  exact ⟨h1, h2, hb.anc _ (Nat.le_refl _) hp h1 h2 (difM_up hb hp h)⟩
/-- At each path it has one thing. -/
theorem DS.one {b : List Ent} (hb : TG b) {ps : List Str} (hps : ∀ p ∈ ps, pOk p = true) {x y : Mark} (hx : DS b ps x) (hy : DS b ps y) (h : x.path = y.path) : x = y := by
  have key : ∀ {z}, DS b ps z → pOk z.path = true ∧ ((∃ p ∈ ps, difM b p = some z ∧ z.path = p) ∨ (z = ⟨z.path, 2, []⟩ ∧ find b z.path = some ⟨z.path, true, []⟩)) := by
    rintro z (⟨p, hp, e⟩ | ⟨p, hp, hs, u, hu, rfl⟩)
    · have := difM_path e
      exact ⟨by rw [this]; exact hps p hp, .inl ⟨p, hp, e, this⟩⟩
    · have := ups_dir hb (hps p hp) hs hu
      exact ⟨this.1, .inr ⟨rfl, this.2.2⟩⟩
  obtain ⟨hxp, hx⟩ := key hx
  obtain ⟨_, hy⟩ := key hy
  rcases hx with ⟨p, hp, e, e1⟩ | ⟨e, e1⟩ <;> rcases hy with ⟨q, hq, f, f1⟩ | ⟨f, f1⟩
  · have : p = q := by rw [← e1, ← f1, h]
    subst this; rw [e] at f; cases f; rfl
  · rw [← h] at f1 f
    rw [← e1] at e
    rw [difM_dir hxp f1] at e; exact (Option.some.inj e).symm.trans f.symm
  · rw [h] at e1 e hxp
    rw [← f1] at f
    rw [difM_dir hxp e1] at f; exact e.trans (Option.some.inj f)
  · rw [e, f, h]

theorem mem_put {α : Type} {key : α → Str} {t : List α} {e x : α} (hs : Srt key t) (h : ∀ y ∈ t, key y = key e → y = e) : x ∈ putG key t e ↔ x ∈ t ∨ x = e := by
  have h1 : x ∈ putG key t e ↔ fnd key (putG key t e) (key x) = some x := fnd_iff (srt_put hs)
  rw [h1, fnd_put]
  by_cases hk : key e = key x
  · rw [if_pos hk]
    constructor
    · intro e'; cases e'; exact .inr rfl
    · rintro (hx | rfl)
      · rw [h x hx hk.symm]
      · rfl
  · rw [if_neg hk]
    constructor
    · intro e'; exact .inl (fnd_some e').2
    · rintro (hx | rfl)
      · exact fnd_mem hs hx
      · exact absurd rfl hk
theorem mem_upsP {l : List Mark} {u : Str} {x : Mark} (hs : Srt Mark.path l) (h : ∀ y ∈ l, y.path = u → y = ⟨u, 2, []⟩) : x ∈ upsP l u ↔ x ∈ l ∨ x = ⟨u, 2, []⟩ := by
  unfold upsP
  split
  · exact mem_put hs h
  · rename_i hk
    unfold kind at hk
    cases hf : mfind l u with
    | none => rw [hf] at hk; simp at hk
    | some m =>
      obtain ⟨h1, h2⟩ := mfind_path hf
      have := h m h2 h1
      constructor
      · exact .inl
      · rintro (h | rfl)
        · exact h
        · rw [← this]; exact h2
theorem srt_upsP {l : List Mark} {u : Str} (hs : Srt Mark.path l) : Srt Mark.path (upsP l u) := by
  unfold upsP; split
  · exact srt_put hs
  · exact hs
theorem srt_fold_ups : ∀ {us : List Str} {l : List Mark}, Srt Mark.path l → Srt Mark.path (us.foldl upsP l)
  | [], _, h => h
  | _ :: us, _, h => srt_fold_ups (us := us) (srt_upsP h)
theorem mem_fold_ups : ∀ {us : List Str} {l : List Mark} {x : Mark}, Srt Mark.path l → (∀ u ∈ us, ∀ y ∈ l, y.path = u → y = ⟨u, 2, []⟩) → (x ∈ us.foldl upsP l ↔ x ∈ l ∨ ∃ u ∈ us, x = ⟨u, 2, []⟩)
  | [], l, x, _, _ => by simp
  | u :: us, l, x, hs, h => by
    have hm := fun x => mem_upsP (x := x) hs (h u (by simp))
    rw [List.foldl_cons, mem_fold_ups (us := us) (srt_upsP hs) fun v hv y hy e => ?_, hm]
    · simp only [List.mem_cons, exists_eq_or_imp, or_assoc]
    · rcases (hm y).1 hy with hy | rfl
      · exact h v (by simp [hv]) y hy e
      · simp at e; rw [e]
theorem srt_difP {b : List Ent} {out : List Mark} {p : Str} (hs : Srt Mark.path out) : Srt Mark.path (difP b out p) := by
  unfold difP
  split
  · exact srt_fold_ups (srt_put hs)
  · exact hs
theorem mem_fold_dif {b : List Ent} (hb : TG b) {all : List Str} (hall : ∀ p ∈ all, pOk p = true) : ∀ {ps : List Str} {out : List Mark}, (∀ p ∈ ps, p ∈ all) → Srt Mark.path out → (∀ x ∈ out, DS b all x) →
    Srt Mark.path (ps.foldl (difP b) out) ∧ ∀ x, x ∈ ps.foldl (difP b) out ↔ x ∈ out ∨ DS b ps x
  | [], out, _, hs, _ => ⟨hs, fun x => by simp [DS]⟩
  | p :: ps, out, hps, hs, hout => by
    have hp := hps p (by simp)
    have step : Srt Mark.path (difP b out p) ∧ ∀ x, x ∈ difP b out p ↔ x ∈ out ∨ DS b [p] x := by
      refine ⟨srt_difP hs, fun x => ?_⟩
      unfold difP
      cases hd : difM b p with
      | none => simp [DS, hd]
      | some m =>
        have hm : DS b all m := .inl ⟨p, hp, hd⟩
        have hsome : (difM b p).isSome = true := by rw [hd]; rfl
        have h1 := fun x => mem_put (x := x) hs fun y hy e => (hout y hy).one hb hall hm e
        have h2 : x ∈ ups (lput out m) p ↔ x ∈ lput out m ∨ ∃ u ∈ upsN 3 p, x = ⟨u, 2, []⟩ := by
          refine mem_fold_ups (srt_put hs) fun u hu y hy e => ?_
          have hU : DS b all ⟨u, 2, []⟩ := .inr ⟨p, hp, hsome, u, hu, rfl⟩
          rcases (h1 y).1 hy with hy | rfl
          · exact (hout y hy).one hb hall hU e
          · exact hm.one hb hall hU e
        simp only
        rw [h2, h1]
        simp only [DS, List.mem_singleton, exists_eq_left, hd, Option.isSome_some, Option.some.injEq, true_and, or_assoc]
        constructor
        · rintro (h | h | h)
          · exact .inl h
          · exact .inr (.inl h.symm)
          · exact .inr (.inr h)
        · rintro (h | h | h)
          · exact .inl h
          · exact .inr (.inl h.symm)
          · exact .inr (.inr h)
    have hout2 : ∀ x ∈ difP b out p, DS b all x := fun x hx => by
      rcases (step.2 x).1 hx with hx | hx
      · exact hout x hx
      · rcases hx with ⟨q, hq, e⟩ | ⟨q, hq, e⟩
        · simp at hq; subst hq; exact .inl ⟨q, hp, e⟩
        · simp at hq; subst hq; exact .inr ⟨q, hp, e⟩
    obtain ⟨r1, r2⟩ := mem_fold_dif hb hall (ps := ps) (fun q hq => hps q (by simp [hq])) step.1 hout2
    refine ⟨r1, fun x => ?_⟩
    rw [List.foldl_cons, r2, step.2]
    simp only [DS, List.mem_cons, exists_eq_or_imp, List.not_mem_nil, false_and, exists_false, or_false, exists_eq_left]
    constructor
    · rintro ((h | h | h) | h | h)
      · exact .inl h
      · exact .inr (.inl (.inl h))
      · exact .inr (.inr (.inl h))
      · exact .inr (.inl (.inr h))
      · exact .inr (.inr (.inr h))
    · rintro (h | (h | h) | h | h)
      · exact .inl (.inl h)
      · exact .inl (.inr (.inl h))
      · exact .inr (.inl h)
      · exact .inl (.inr (.inr h))
      · exact .inr (.inr h)

theorem turned_pok {a b : List Ent} (ha : TG a) (hb : TG b) {p : Str} (h : p ∈ turned a b) : pOk p = true := by
  have := (mem_turned ha hb).1 h
  cases ha' : find a p with
  | some e => exact ha.find_ok ha'
  | none =>
    cases hb' : find b p with
    | some e => exact hb.find_ok hb'
    | none => rw [ha', hb'] at this; exact absurd rfl this
theorem diff_srt {a b : List Ent} (ha : TG a) (hb : TG b) : Srt Mark.path (diff a b) :=
  (mem_fold_dif hb (fun _ h => turned_pok ha hb h) (fun _ h => h) List.Pairwise.nil (fun _ h => by cases h)).1
theorem mem_diff {a b : List Ent} (ha : TG a) (hb : TG b) {x : Mark} : x ∈ diff a b ↔ DS b (turned a b) x := by
  have := (mem_fold_dif hb (all := turned a b) (fun _ h => turned_pok ha hb h) (fun _ h => h) (out := []) List.Pairwise.nil (fun _ h => by cases h)).2 x
  unfold diff; rw [this]; simp

/-- What a difference has at a path, in full. -/
theorem diff_cases {a b : List Ent} (ha : TG a) (hb : TG b) {x : Mark} (h : x ∈ diff a b) : pOk x.path = true ∧
    ((∃ e, find b x.path = some e ∧ x = ⟨x.path, if e.dir = true then 2 else 1, e.data⟩) ∨ (find b x.path = none ∧ isDir b (pUp x.path) = true ∧ x = ⟨x.path, 3, []⟩ ∧ ∃ e, find a x.path = some e)) := by
  rcases (mem_diff ha hb).1 h with ⟨p, hp, e⟩ | ⟨p, hp, hs, u, hu, rfl⟩
  · have hpo := turned_pok ha hb hp
    have hx := difM_path e
    rw [hx]
    refine ⟨hpo, ?_⟩
    have ht := (mem_turned ha hb).1 hp
    unfold difM at e
    rw [get_find hpo] at e
    cases hf : find b p with
    | some y => rw [hf] at e; cases e; exact .inl ⟨y, rfl, rfl⟩
    | none =>
      rw [hf] at e
      simp only at e
      split at e
      · cases e
        refine .inr ⟨rfl, by assumption, rfl, ?_⟩
        cases ha' : find a p with
        | some y => exact ⟨y, rfl⟩
        | none => rw [ha', hf] at ht; exact absurd rfl ht
      · cases e
  · have := ups_dir hb (turned_pok ha hb hp) hs hu
    exact ⟨this.1, .inl ⟨_, this.2.2, rfl⟩⟩
theorem diff_ok {a b : List Ent} (ha : TG a) (hb : TG b) : lOk (diff a b) = true := by
  have hs := diff_srt ha hb
  have hm : ∀ m ∈ diff a b, mok m = true := fun m hm => by
    obtain ⟨hp, h | h⟩ := diff_cases ha hb hm
    · obtain ⟨e, h1, h2⟩ := h
      have he := (find_path h1).2
      have hd := hb.datOk he
      rw [h2]
      simp only [mok, hp, hd]
      cases hdir : e.dir with
      | true => simp [hb.data he hdir]
      | false => simp
    · rw [h.2.2.1]
      simp only [mok, hp]; rfl
  refine lOk_iff.2 ⟨?_, hs, hm, fun m hm => ?_, fun m hm hk => ?_⟩
  · have h1 : ((diff a b).map Mark.path).length ≤ (a.map Ent.path ++ b.map Ent.path).length := by
      refine nodup_len (srt_nodup hs) fun p hp => ?_
      obtain ⟨m, hm, rfl⟩ := List.mem_map.1 hp
      obtain ⟨_, h | h⟩ := diff_cases ha hb hm
      · obtain ⟨e, h1, _⟩ := h
        obtain ⟨h2, h3⟩ := find_path h1
        exact List.mem_append.2 (.inr (List.mem_map.2 ⟨e, h3, h2⟩))
      · obtain ⟨_, _, _, e, h1⟩ := h
        obtain ⟨h2, h3⟩ := find_path h1
        exact List.mem_append.2 (.inl (List.mem_map.2 ⟨e, h3, h2⟩))
    have := ha.len
    have := hb.len
    simp at h1; omega
  · rw [in_iff]
    have key : pUp m.path = [47] ∨ (⟨pUp m.path, 2, []⟩ : Mark) ∈ diff a b := by
      rcases (mem_diff ha hb).1 hm with ⟨p, hp, e⟩ | ⟨p, hp, hsm, u, hu, rfl⟩
      · rw [difM_path e]
        by_cases hr : pUp p = [47]
        · exact .inl hr
        · refine .inr ((mem_diff ha hb).2 (.inr ⟨p, hp, by rw [e]; rfl, pUp p, ?_, rfl⟩))
          unfold upsN; rw [if_neg hr]; simp
      · have hpo := turned_pok ha hb hp
        rcases (upsN_spec 3 hpo hu).2.2 (.inr (pOk_names hpo).1.2) with h | h
        · exact .inl h
        · exact .inr ((mem_diff ha hb).2 (.inr ⟨p, hp, hsm, _, h, rfl⟩))
    rcases key with h | h
    · exact .inl h
    · exact .inr ⟨_, fnd_mem hs h, .inl rfl⟩
  · cases hb' : bare (diff a b) m.path with
    | false => rfl
    | true =>
      obtain ⟨x, hx, hk4, _⟩ := of_bare hb'
      obtain ⟨_, h | h⟩ := diff_cases ha hb hx
      · obtain ⟨e, _, h2⟩ := h
        rw [h2] at hk4
        simp only at hk4
        split at hk4 <;> omega
      · rw [h.2.2.1] at hk4; simp at hk4

/-- A tree with what another one differs by from it is the other one. -/
theorem on_diff {a b : List Ent} (ha : TG a) (hb : TG b) : onRaw (diff a b) a = b := by
  have hs := diff_srt ha hb
  have hD : LG (diff a b) := LG.of (diff_ok ha hb)
  refine srt_ext (srt_on ha.srt) hb.srt fun p => ?_
  show find _ p = find b p
  rw [on_findS hs ha.srt]
  cases hf : mfind (diff a b) p with
  | some m =>
    obtain ⟨h1, h2⟩ := mfind_path hf
    simp only
    obtain ⟨_, h | h⟩ := diff_cases ha hb h2
    · obtain ⟨e, h3, h4⟩ := h
      rw [h1] at h3
      rw [h3, h4]
      obtain ⟨g1, g2⟩ := find_path h3
      obtain ⟨ep, ed, edat⟩ := e
      simp only at g1 h4 ⊢
      cases ed with
      | true => have := hb.data g2 rfl; simp at this; simp [onEnt, h1, g1, this]
      | false => simp [onEnt, h1, g1]
    · rw [h1] at h
      rw [h.1, h.2.2.1]; rfl
  | none =>
    simp only
    by_cases hh : hides (diff a b) p = true
    · rw [if_pos hh]
      obtain ⟨m, hm, hk, hu⟩ := of_hides hh
      have hne : m.path ≠ p := fun e => by
        have h2 : mfind (diff a b) m.path = some m := fnd_mem hs hm
        rw [e, hf] at h2; cases h2
      have hu := hu.resolve_left hne
      cases hfb : find b p with
      | none => rfl
      | some e =>
        obtain ⟨hpm, h⟩ := diff_cases ha hb hm
        have hd := hb.anc' hfb hpm hu
        rcases h with ⟨y, h1, h2⟩ | h
        · rw [hd] at h1; cases h1
          rw [h2] at hk; simp at hk
        · rw [hd] at h; cases h.1
    · rw [if_neg hh]
      apply Classical.byContradiction; intro hne
      have up : ∀ (n : Nat) {q : Str}, (names q).length ≤ n → pOk q = true → (∃ e, find a q = some e) → find b q = none → hides (diff a b) q = true := by
        intro n
        induction n with
        | zero => intro q hn hq; have := (pOk_names hq).1.1; omega
        | succ n ih =>
          rintro q hn hq ⟨e, h1⟩ h2
          have ht : q ∈ turned a b := (mem_turned ha hb).2 (by rw [h1, h2]; simp)
          cases hd : isDir b (pUp q) with
          | true =>
            have : difM b q = some ⟨q, 3, []⟩ := by unfold difM; rw [get_find hq, h2]; simp only [hd, if_true]
            exact hides_of ((mem_diff ha hb).2 (.inl ⟨q, ht, this⟩)) (by simp) (.inl rfl)
          | false =>
            have hr : pUp q ≠ [47] := by intro e'; rw [e'] at hd; cases hd
            obtain ⟨u1, _, u3⟩ := pOk_up hq hr
            obtain ⟨g1, g2⟩ := find_path h1
            have hda := ha.up e g2
            rw [g1] at hda
            have hfa := ha.isDir_ent u1 hda
            refine hD.hides_und hr (und_up hq) ?_
            cases hfb : find b (pUp q) with
            | none => exact ih (by omega) u1 ⟨_, hfa⟩ hfb
            | some y =>
              have hyd : y.dir = false := by
                unfold isDir at hd; rw [get_find u1, hfb] at hd; exact hd
              have ht2 : pUp q ∈ turned a b := (mem_turned ha hb).2 (by rw [hfa, hfb]; intro e'; cases e'; cases hyd)
              have : difM b (pUp q) = some ⟨pUp q, 1, y.data⟩ := by unfold difM; rw [get_find u1, hfb]; simp [hyd]
              exact hides_of ((mem_diff ha hb).2 (.inl ⟨_, ht2, this⟩)) (by simp) (.inl rfl)
      have ht : p ∈ turned a b := (mem_turned ha hb).2 hne
      have hp := turned_pok ha hb ht
      cases hfb : find b p with
      | some e =>
        have : difM b p = some ⟨p, if e.dir = true then 2 else 1, e.data⟩ := by unfold difM; rw [get_find hp, hfb]
        have h2 : mfind (diff a b) p = some _ := fnd_mem (key := Mark.path) hs ((mem_diff ha hb).2 (.inl ⟨p, ht, this⟩))
        rw [hf] at h2; cases h2
      | none =>
        cases hfa : find a p with
        | none => rw [hfa, hfb] at hne; exact hne rfl
        | some e => exact hh (up _ (Nat.le_refl _) hp ⟨e, hfa⟩ hfb)

theorem lOn_diff {a b : List Ent} (ha : tOk a = true) (hb : tOk b = true) : lOn (diff a b) a = some b := by
  have ga := TG.of ha
  have gb := TG.of hb
  unfold lOn
  rw [if_pos (by simp [diff_ok ga gb, ha]), on_diff ga gb, if_pos gb.len]

end Go.Proofs.YthblflnfhdnpdaaGreatDoor

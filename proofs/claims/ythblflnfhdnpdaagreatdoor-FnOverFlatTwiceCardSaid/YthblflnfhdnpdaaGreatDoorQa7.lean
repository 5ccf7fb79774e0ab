/- What is done to a tree: it stays right, and can be undone; how the program makes it; no condition, no program. -/
import Derived.Test.YthblflnfhdnpdaaGreatDoorQa6
import Derived.Test.YthblflnfhdnpdaaGreatDoorPa4
namespace Go.Proofs.YthblflnfhdnpdaaGreatDoor
set_option linter.unusedSimpArgs false
set_option linter.unusedVariables false
open Go Go.RowKit

theorem upC2_eq {t : List Ent} {p : Str} : upC2 t p = upC t p := by
  unfold upC2 upC get
  by_cases h : pUp p = [47]
  · rw [if_pos h, if_pos h]; rfl
  · rw [if_neg h, if_neg h]; rfl
theorem upC_0 {t : List Ent} {p : Str} : upC t p = 0 ↔ isDir t (pUp p) = true := by rw [← upC2_eq]; exact upC2_0

/- What can be read. -/
theorem op_path {op : Op} (h : opOkB op = true) : pOk op.path = true := by
  simp only [opOkB, Bool.and_eq_true] at h; exact h.2.1
theorem op_kind {op : Op} (h : opOkB op = true) : 1 ≤ op.kind ∧ op.kind ≤ 5 := by
  simp only [opOkB, Bool.and_eq_true, decide_eq_true_eq] at h; exact h.1
theorem op_5 {op : Op} (h : opOkB op = true) (k : op.kind = 5) : pOk op.dest = true ∧ op.data = [] := by
  simp only [opOkB, Bool.and_eq_true, k, if_true] at h
  exact ⟨h.2.2.1, by simpa using h.2.2.2⟩
theorem op_n5 {op : Op} (h : opOkB op = true) (k : op.kind ≠ 5) : op.dest = [] ∧ dataOk op.data = true ∧ (op.kind = 2 ∨ op.data = []) := by
  simp only [opOkB, Bool.and_eq_true, if_neg k] at h
  exact ⟨by simpa using h.2.2.1, h.2.2.2.1, by simpa using h.2.2.2.2⟩

theorem mem_put' {α : Type} {key : α → Str} {t : List α} {e x : α} (hs : Srt key t) : x ∈ putG key t e ↔ x = e ∨ (x ∈ t ∧ key x ≠ key e) := by
  rw [fnd_iff (srt_put hs), fnd_put]
  by_cases h : key e = key x
  · rw [if_pos h]
    constructor
    · intro h2; exact .inl (Option.some.inj h2).symm
    · rintro (rfl | h2)
      · rfl
      · exact absurd h.symm h2.2
  · rw [if_neg h, ← fnd_iff hs]
    constructor
    · intro h2; exact .inr ⟨h2, fun e => h e.symm⟩
    · rintro (rfl | h2)
      · exact absurd rfl h
      · exact h2.1

/- Codes, and what they tell. -/
theorem new0 {t : List Ent} {p : Str} (hp : pOk p = true) : newC t p = 0 ↔ isDir t (pUp p) = true ∧ find t p = none ∧ t.length < 16 := by
  unfold newC
  rw [get_find hp]
  by_cases h : upC t p = 0
  · rw [if_neg (by simp [h])]
    have h' := upC_0.1 h
    cases hf : find t p with
    | some e => simp
    | none =>
      simp only [Option.isSome_none, Bool.false_eq_true, if_false]
      by_cases hl : 16 ≤ t.length
      · rw [if_pos hl]; simp; omega
      · rw [if_neg hl]; simp [h']; omega
  · rw [if_pos h]
    constructor
    · intro e; exact absurd e h
    · rintro ⟨e, _⟩; exact absurd (upC_0.2 e) h
theorem new4 {t : List Ent} {p : Str} (hp : pOk p = true) (h : newC t p = 4) : isDir t (pUp p) = true ∧ ∃ e, find t p = some e := by
  unfold newC at h
  rw [get_find hp] at h
  split at h
  · rename_i h1
    unfold upC at h
    split at h
    · cases h
    · split at h <;> cases h
  · rename_i h1
    refine ⟨upC_0.1 (by simpa using h1), ?_⟩
    split at h
    · rename_i h2; exact Option.isSome_iff_exists.1 h2
    · split at h <;> cases h
theorem put0 {t : List Ent} {p : Str} (hp : pOk p = true) (h : putC t p = 0) : isDir t (pUp p) = true ∧ ((find t p = none ∧ t.length < 16) ∨ ∃ e, find t p = some e ∧ e.dir = false) := by
  unfold putC at h
  rw [get_find hp] at h
  split at h
  · rename_i h1
    obtain ⟨h2, e, h3⟩ := new4 hp h1
    refine ⟨h2, .inr ⟨e, h3, ?_⟩⟩
    rw [h3] at h
    simp only [Option.getD_some] at h
    split at h
    · cases h
    · rename_i h4; simpa using h4
  · have := (new0 hp).1 h
    exact ⟨this.1, .inl this.2⟩
theorem kids_nil {t : List Ent} (h : TG t) {p : Str} (hp : pOk p = true) (hn : isDir t p = false) : kids t p = [] := by
  unfold kids
  rw [List.map_eq_nil_iff, List.filter_eq_nil_iff]
  intro e he hk
  have := h.up e he
  rw [beq_iff_eq.1 hk, hn] at this
  cases this
theorem off0 {t : List Ent} {op : Op} (ht : TG t) (hp : pOk op.path = true) (hk : op.kind = 3 ∨ op.kind = 4) : offC t op = 0 ↔ ∃ e, find t op.path = some e ∧ e.dir = (op.kind == 4) ∧ kids t op.path = [] := by
  unfold offC
  rw [get_find hp]
  cases hf : find t op.path with
  | none => simp
  | some e =>
    simp only [Option.some.injEq, exists_eq_left']
    have key : (if 0 < (kids t op.path).length then (6 : Int) else 0) = 0 ↔ kids t op.path = [] := by
      cases kids t op.path <;> simp
    rcases hk with hk | hk
    · by_cases hd : e.dir = true
      · simp [hk, hd]
      · simp only [Bool.not_eq_true] at hd
        rw [if_neg (by simp [hd]), if_neg (by simp [hk]), key]
        simp [hk, hd]
    · by_cases hd : e.dir = true
      · rw [if_neg (by simp [hk]), if_neg (by simp [hd]), key]
        simp [hk, hd]
      · simp only [Bool.not_eq_true] at hd
        rw [if_neg (by simp [hk]), if_pos ⟨hk, hd⟩]
        simp [hk, hd]
theorem mov0 {t : List Ent} {op : Op} (hp : pOk op.path = true) (hq : pOk op.dest = true) : movC t op = 0 ↔ (∃ e, find t op.path = some e) ∧ isDir t (pUp op.dest) = true ∧ find t op.dest = none ∧ und op.dest op.path = false ∧ ∀ e ∈ t, (pMove e.path op.path op.dest).isSome = true := by
  unfold movC
  rw [get_find hp, get_find hq]
  cases hf : find t op.path with
  | none => simp
  | some e =>
    simp only [Option.isSome_some, Bool.true_eq_false, if_false, Option.some.injEq, exists_eq', true_and]
    by_cases h1 : upC t op.dest = 0
    · rw [if_neg (by simp [h1])]
      have h1' := upC_0.1 h1
      cases hf2 : find t op.dest with
      | some e => simp
      | none =>
        simp only [Option.isSome_none, Bool.false_eq_true, if_false]
        by_cases h2 : und op.dest op.path = true
        · rw [if_pos h2]; simp [h2]
        · rw [if_neg h2]
          simp only [Bool.not_eq_true] at h2
          by_cases h3 : t.all (fun e => (pMove e.path op.path op.dest).isSome) = true
          · rw [if_pos h3]; simp only [h1', h2, true_and, true_iff]; exact List.all_eq_true.1 h3
          · rw [if_neg h3]
            constructor
            · intro h; cases h
            · rintro ⟨_, _, _, h⟩; exact absurd (List.all_eq_true.2 h) h3
    · rw [if_pos h1]
      constructor
      · intro h; exact absurd h h1
      · rintro ⟨h, _⟩; exact absurd (upC_0.2 h) h1

/- Paths in two. -/
theorem last47 {a a' l l' : Str} (h : a ++ 47 :: l = a' ++ 47 :: l') (h1 : (47 : UInt8) ∉ l) (h2 : (47 : UInt8) ∉ l') : a = a' ∧ l = l' := by
  rcases List.append_eq_append_iff.1 h with ⟨c, h3, h4⟩ | ⟨c, h3, h4⟩
  · cases c with
    | nil => simp at h3 h4; exact ⟨h3.symm, h4⟩
    | cons x c =>
      simp only [List.cons_append, List.cons.injEq] at h4
      exact absurd (by rw [h4.2]; simp) h1
  · cases c with
    | nil => simp at h3 h4; exact ⟨h3, h4.symm⟩
    | cons x c =>
      simp only [List.cons_append, List.cons.injEq] at h4
      exact absurd (by rw [h4.2]; simp) h2
theorem pUp_of {s a l : Str} (h : pOk s = true) (e : s = a ++ 47 :: l) (hl : (47 : UInt8) ∉ l) (ha : a ≠ []) : pUp s = a := by
  obtain ⟨a', l', h1, h2, _, _, _, _, _, h6⟩ := pOk_two h
  obtain ⟨rfl, rfl⟩ := last47 (e.symm.trans h1) hl h2
  rw [h6, if_neg ha]
theorem und_split {s d : Str} (hd : d ≠ [47]) (h : und s d = true) : ∃ r, s = d ++ 47 :: r := by
  unfold und at h
  simp only [Bool.or_eq_true, beq_iff_eq, hd, false_or, List.isPrefixOf_iff_prefix] at h
  obtain ⟨r, h⟩ := h
  exact ⟨r, by rw [← h]; simp⟩
theorem split_und {d r : Str} : und (d ++ 47 :: r) d = true := by
  unfold und
  simp only [Bool.or_eq_true, List.isPrefixOf_iff_prefix]
  exact .inr ⟨r, by simp⟩

/-- At a path, or below it. -/
def blw (s f : Str) : Bool := s == f || und s f
theorem blw_split {s f : Str} (hf : f ≠ [47]) (h : blw s f = true) : ∃ r, s = f ++ r ∧ (r = [] ∨ ∃ q, r = 47 :: q) := by
  unfold blw at h
  simp only [Bool.or_eq_true, beq_iff_eq] at h
  rcases h with rfl | h
  · exact ⟨[], by simp, .inl rfl⟩
  · obtain ⟨r, h⟩ := und_split hf h
    exact ⟨47 :: r, h, .inr ⟨r, rfl⟩⟩
theorem split_blw {f r : Str} (h : r = [] ∨ ∃ q, r = 47 :: q) : blw (f ++ r) f = true := by
  unfold blw
  rcases h with rfl | ⟨q, rfl⟩
  · simp
  · rw [split_und]; simp
theorem pMove_blw {s f to : Str} (h : blw s f = true) (hm : (pMove s f to).isSome = true) : pMove s f to = some (to ++ s.drop f.length) ∧ pOk (to ++ s.drop f.length) = true := by
  unfold pMove at hm ⊢
  by_cases h1 : (pOk s && pOk f && pOk to) = true
  · rw [if_pos h1] at hm ⊢
    have h2 : ¬ (s != f && !und s f) = true := by
      unfold blw at h
      by_cases hs : s = f
      · simp [hs]
      · simp [hs] at h; simp [h]
    rw [if_neg h2] at hm ⊢
    by_cases h3 : pOk (to ++ s.drop f.length) = true
    · rw [if_pos h3]; exact ⟨rfl, h3⟩
    · rw [if_neg h3] at hm; cases hm
  · rw [if_neg h1] at hm; cases hm
theorem pMove_not {s f to : Str} (hs : pOk s = true) (hf : pOk f = true) (ht : pOk to = true) (h : blw s f = false) : pMove s f to = some s := by
  unfold pMove
  rw [if_pos (by simp [hs, hf, ht]), if_pos]
  unfold blw at h
  simpa using h

/-- What is moved, and from where to where. -/
structure MV (t : List Ent) (f to : Str) : Prop where
  tg : TG t
  pf : pOk f = true
  pt : pOk to = true
  frm : ∃ e, find t f = some e
  up : isDir t (pUp to) = true
  free : find t to = none
  nun : und to f = false
  all : ∀ e ∈ t, (pMove e.path f to).isSome = true
theorem MV.of {t : List Ent} {op : Op} (ht : TG t) (ho : opOkB op = true) (hk : op.kind = 5) (h : movC t op = 0) : MV t op.path op.dest := by
  have hp := op_path ho
  have hq := (op_5 ho hk).1
  obtain ⟨a, b, c, d, e⟩ := (mov0 hp hq).1 h
  exact ⟨ht, hp, hq, a, b, c, d, e⟩

section
variable {t : List Ent} {f to : Str}
theorem MV.fr (h : MV t f to) : f ≠ [47] := ok_ne_root h.pf
theorem MV.tr (h : MV t f to) : to ≠ [47] := ok_ne_root h.pt
theorem MV.at (h : MV t f to) {e : Ent} (he : e ∈ t) (hb : blw e.path f = true) : (movE f to e).path = to ++ e.path.drop f.length ∧ pOk (to ++ e.path.drop f.length) = true := by
  obtain ⟨h1, h2⟩ := pMove_blw hb (h.all e he)
  exact ⟨by unfold movE; rw [h1]; rfl, h2⟩
theorem MV.stay (h : MV t f to) {e : Ent} (he : e ∈ t) (hb : blw e.path f = false) : movE f to e = e := by
  unfold movE; rw [pMove_not (h.tg.path he) h.pf h.pt hb]; rfl
/-- Nothing is at the new place, or below it. -/
theorem MV.clear (h : MV t f to) {e : Ent} (he : e ∈ t) : blw e.path to = false := by
  cases hb : blw e.path to with
  | false => rfl
  | true =>
    unfold blw at hb
    simp only [Bool.or_eq_true, beq_iff_eq] at hb
    have hf := h.free
    rcases hb with hb | hb
    · rw [← hb, h.tg.at he] at hf; cases hf
    · rw [h.tg.anc' (h.tg.at he) h.pt hb] at hf; cases hf
theorem MV.blw_to (h : MV t f to) {e : Ent} (he : e ∈ t) : blw (movE f to e).path to = blw e.path f := by
  cases hb : blw e.path f with
  | true =>
    rw [(h.at he hb).1]
    obtain ⟨r, h1, h2⟩ := blw_split h.fr hb
    rw [h1, List.drop_left]
    exact split_blw h2
  | false => rw [h.stay he hb]; exact h.clear he
/-- And back. -/
theorem MV.inv (h : MV t f to) {e : Ent} (he : e ∈ t) : movE to f (movE f to e) = e := by
  cases hb : blw e.path f with
  | true =>
    obtain ⟨h1, h2⟩ := h.at he hb
    have hb2 := h.blw_to he
    rw [hb, h1] at hb2
    obtain ⟨r, h3, h4⟩ := blw_split h.fr hb
    have hd : f ++ (to ++ e.path.drop f.length).drop to.length = e.path := by rw [List.drop_left, h3, List.drop_left]
    have hm : pMove (to ++ e.path.drop f.length) to f = some e.path := by
      unfold pMove
      rw [if_pos (by simp [h2, h.pf, h.pt]), if_neg, hd, if_pos (h.tg.path he)]
      unfold blw at hb2
      simp only [Bool.or_eq_true, beq_iff_eq] at hb2
      rcases hb2 with hb2 | hb2
      · simp [hb2]
      · simp [hb2]
    unfold movE at h1 ⊢
    simp only at h1
    simp only [h1, hm]
    rfl
  | false =>
    rw [h.stay he hb]
    unfold movE
    rw [pMove_not (h.tg.path he) h.pt h.pf (h.clear he)]
    rfl
theorem MV.inj (h : MV t f to) {x y : Ent} (hx : x ∈ t) (hy : y ∈ t) (e : (movE f to x).path = (movE f to y).path) : x.path = y.path := by
  have hb : blw x.path f = blw y.path f := by rw [← h.blw_to hx, ← h.blw_to hy, e]
  cases hb2 : blw x.path f with
  | true =>
    rw [(h.at hx hb2).1, (h.at hy (hb ▸ hb2)).1] at e
    have e' := List.append_cancel_left e
    obtain ⟨r, h1, _⟩ := blw_split h.fr hb2
    obtain ⟨q, h3, _⟩ := blw_split h.fr (hb ▸ hb2)
    rw [h1, h3, List.drop_left, List.drop_left] at e'
    rw [h1, h3, e']
  | false => rw [h.stay hx hb2, h.stay hy (hb ▸ hb2)] at e; exact e
theorem MV.nodup (h : MV t f to) : ((t.map (movE f to)).map Ent.path).Nodup := by
  have hn := srt_nodup h.tg.srt
  rw [List.map_map]
  unfold List.Nodup at hn ⊢
  rw [List.pairwise_map] at hn ⊢
  exact hn.imp_of_mem fun hx hy hne e => hne (h.inj hx hy e)
end

/-- Puts one behind the other, of things with keys of their own. -/
theorem fold_put_mem {α : Type} {key : α → Str} : ∀ {l t : List α}, Srt key t → ((t ++ l).map key).Nodup → Srt key (l.foldl (putG key) t) ∧ ∀ x, x ∈ l.foldl (putG key) t ↔ x ∈ t ∨ x ∈ l
  | [], t, hs, _ => ⟨hs, by simp⟩
  | e :: l, t, hs, hn => by
    have hk : ∀ y ∈ t, key y ≠ key e := fun y hy he => by
      rw [List.map_append] at hn
      have := (List.nodup_append.1 hn).2.2 (key y) (List.mem_map_of_mem hy) (key e) (by simp)
      exact this he
    have hm : ∀ x, x ∈ putG key t e ↔ x = e ∨ x ∈ t := fun x => by
      rw [mem_put' hs]
      constructor
      · rintro (h | h)
        · exact .inl h
        · exact .inr h.1
      · rintro (h | h)
        · exact .inl h
        · exact .inr ⟨h, hk x h⟩
    have hn2 : ((putG key t e ++ l).map key).Nodup := by
      have hp : ((putG key t e).map key).Nodup := srt_nodup (srt_put hs)
      rw [List.map_append] at hn ⊢
      rw [List.nodup_append] at hn ⊢
      obtain ⟨h1, h2, h3⟩ := hn
      rw [List.map_cons, List.nodup_cons] at h2
      refine ⟨hp, h2.2, ?_⟩
      intro a ha b hb
      obtain ⟨x, hx, rfl⟩ := List.mem_map.1 ha
      rcases (hm x).1 hx with rfl | hx
      · rintro rfl; exact h2.1 hb
      · exact h3 _ (List.mem_map_of_mem hx) b (by simp; exact .inr (by simpa using hb))
    obtain ⟨h1, h2⟩ := fold_put_mem (srt_put hs) hn2
    refine ⟨h1, fun x => ?_⟩
    rw [List.foldl_cons, h2, hm]
    simp only [List.mem_cons]
    constructor
    · rintro ((h | h) | h)
      · exact .inr (.inl h)
      · exact .inl h
      · exact .inr (.inr h)
    · rintro (h | h | h)
      · exact .inl (.inr h)
      · exact .inl (.inl h)
      · exact .inr h
theorem movT_eq (t : List Ent) (f to : Str) : movT t f to = (t.map (movE f to)).foldl put [] := by
  unfold movT; rw [List.foldl_map]
theorem MV.spec {t : List Ent} {f to : Str} (h : MV t f to) : Srt Ent.path (movT t f to) ∧ ∀ x, x ∈ movT t f to ↔ ∃ e ∈ t, movE f to e = x := by
  obtain ⟨h1, h2⟩ := fold_put_mem (key := Ent.path) (l := t.map (movE f to)) (t := []) List.Pairwise.nil (by simpa using h.nodup)
  rw [movT_eq]
  exact ⟨h1, fun x => by rw [h2]; simp⟩
theorem movE_path_ne {f to : Str} {e : Ent} : (movE f to e).dir = e.dir ∧ (movE f to e).data = e.data := ⟨rfl, rfl⟩

/-- A directory in a tree, by what is in it. -/
theorem isDir_of {t : List Ent} (hs : Srt Ent.path t) {p : Str} {e : Ent} (hp : pOk p = true) (he : e ∈ t) (h1 : e.path = p) (h2 : e.dir = true) : isDir t p = true := by
  unfold isDir
  have : find t p = some e := by rw [← h1]; exact fnd_mem hs he
  rw [get_find hp, this]; exact h2
theorem MV.ok {t : List Ent} {f to : Str} (h : MV t f to) : TG (movT t f to) := by
  obtain ⟨h1, h2⟩ := h.spec
  have up : ∀ {u : Str} {d : Ent}, pOk u = true → d ∈ t → (movE f to d).path = u → d.dir = true → isDir (movT t f to) u = true := fun hu hd hp hdir => isDir_of h1 hu ((h2 _).2 ⟨_, hd, rfl⟩) hp hdir
  refine ⟨?_, h1, ?_, ?_⟩
  · have : (movT t f to).length ≤ (t.map (movE f to)).length := by
      rw [movT_eq]; exact Nat.le_trans (fold_put_len _ _) (by simp)
    have hl := h.tg.len
    rw [List.length_map] at this
    omega
  · intro x hx
    obtain ⟨e, he, rfl⟩ := (h2 x).1 hx
    have hk := h.tg.ok e he
    simp only [eok, Bool.and_eq_true] at hk ⊢
    refine ⟨?_, hk.2⟩
    cases hb : blw e.path f with
    | true => obtain ⟨q1, q2⟩ := h.at he hb; rw [q1]; exact q2
    | false => rw [h.stay he hb]; exact hk.1
  · intro x hx
    obtain ⟨e, he, rfl⟩ := (h2 x).1 hx
    have hpe := h.tg.path he
    cases hb : blw e.path f with
    | false =>
      rw [h.stay he hb]
      by_cases hr : pUp e.path = [47]
      · rw [hr]; exact isDir_root
      obtain ⟨q1, _⟩ := pOk_up hpe hr
      have hd := h.tg.isDir_ent q1 (h.tg.up e he)
      obtain ⟨d1, d2⟩ := find_path hd
      have hb2 : blw (pUp e.path) f = false := by
        cases hb3 : blw (pUp e.path) f with
        | false => rfl
        | true =>
          exfalso
          have : und e.path f = true := by
            unfold blw at hb3
            simp only [Bool.or_eq_true, beq_iff_eq] at hb3
            rcases hb3 with hb3 | hb3
            · rw [← hb3]; exact und_up hpe
            · exact und_trans h.fr hr (und_up hpe) hb3
          unfold blw at hb
          simp [this] at hb
      refine up q1 d2 ?_ rfl
      rw [h.stay d2 hb2]
    | true =>
      obtain ⟨q1, q2⟩ := h.at he hb
      rw [q1]
      unfold blw at hb
      simp only [Bool.or_eq_true, beq_iff_eq] at hb
      rcases hb with hb | hb
      · rw [hb]
        simp only [List.drop_length, List.append_nil]
        by_cases hr : pUp to = [47]
        · rw [hr]; exact isDir_root
        obtain ⟨g1, _⟩ := pOk_up h.pt hr
        have hd := h.tg.isDir_ent g1 h.up
        obtain ⟨d1, d2⟩ := find_path hd
        have hb2 : blw (pUp to) f = false := by
          cases hb3 : blw (pUp to) f with
          | false => rfl
          | true =>
            exfalso
            have : und to f = true := by
              unfold blw at hb3
              simp only [Bool.or_eq_true, beq_iff_eq] at hb3
              rcases hb3 with hb3 | hb3
              · rw [← hb3]; exact und_up h.pt
              · exact und_trans h.fr hr (und_up h.pt) hb3
            rw [h.nun] at this; cases this
        refine up g1 d2 ?_ rfl
        rw [h.stay d2 hb2]
      · have hu : pUp e.path = f ∨ (pUp e.path ≠ [47] ∧ pOk (pUp e.path) = true ∧ und (pUp e.path) f = true) := und_cases hpe h.pf hb
        have hr : pUp e.path ≠ [47] := by
          rcases hu with hu | hu
          · rw [hu]; exact h.fr
          · exact hu.1
        obtain ⟨g1, _⟩ := pOk_up hpe hr
        have hd := h.tg.isDir_ent g1 (h.tg.up e he)
        obtain ⟨d1, d2⟩ := find_path hd
        have hb2 : blw (pUp e.path) f = true := by
          unfold blw
          rcases hu with hu | hu
          · simp [hu]
          · simp [hu.2.2]
        obtain ⟨r, r1, r2⟩ := blw_split h.fr hb2
        obtain ⟨a, l, a1, a2, _, _, _, _, _, a6⟩ := pOk_two hpe
        have ha : a ≠ [] := by rintro rfl; rw [if_pos rfl] at a6; exact hr a6
        rw [if_neg ha] at a6
        obtain ⟨z1, z2⟩ := h.at (e := ⟨pUp e.path, true, []⟩) d2 hb2
        have hh : e.path.drop f.length = r ++ 47 :: l := by
          rw [a1, ← a6, r1, List.append_assoc, List.drop_left]
        have hz : (pUp e.path).drop f.length = r := by rw [r1, List.drop_left]
        simp only at z1 z2
        rw [hz] at z1 z2
        have : pUp (to ++ e.path.drop f.length) = to ++ r := by
          refine pUp_of q2 (l := l) (by rw [hh, List.append_assoc]) a2 ?_
          intro e0
          rw [e0] at z2
          exact absurd z2 (by decide)
        rw [this]
        exact up z2 d2 z1 rfl

theorem put_ok {t : List Ent} {n : Ent} (ht : TG t) (hn : eok n = true) (hup : isDir t (pUp n.path) = true) (hd : find t n.path = none ∧ t.length < 16 ∨ ∃ e, find t n.path = some e ∧ e.dir = false) : TG (put t n) := by
  have hp : pOk n.path = true := by simp only [eok, Bool.and_eq_true] at hn; exact hn.1
  have hs := srt_put (e := n) ht.srt
  refine ⟨?_, hs, ?_, ?_⟩
  · rcases hd with ⟨_, h⟩ | ⟨e, h1, _⟩
    · have := putG_len (key := Ent.path) (t := t) (e := n); show (putG Ent.path t n).length ≤ 16; omega
    · have : (put t n).length ≤ t.length := by
        have hn := srt_nodup hs
        have := nodup_len (l := (put t n).map Ent.path) (k := t.map Ent.path) hn fun x hx => by
          obtain ⟨y, hy, rfl⟩ := List.mem_map.1 hx
          rcases (mem_put' ht.srt).1 hy with rfl | hy
          · obtain ⟨q1, q2⟩ := find_path h1
            rw [← q1]; exact List.mem_map_of_mem q2
          · exact List.mem_map_of_mem hy.1
        simpa using this
      exact Nat.le_trans this ht.len
  · intro x hx
    rcases (mem_put' ht.srt).1 hx with rfl | hx
    · exact hn
    · exact ht.ok x hx.1
  · have key : ∀ {u : Str}, isDir t u = true → isDir (put t n) u = true := fun {u} hu => by
      unfold isDir get at hu ⊢
      by_cases hr : u = [47]
      · rw [if_pos hr]; rfl
      rw [if_neg hr] at hu ⊢
      have e : find (put t n) u = if n.path = u then some n else find t u := fnd_put
      rw [e]
      by_cases hnu : n.path = u
      · subst hnu
        exfalso
        rcases hd with ⟨h1, _⟩ | ⟨e, h1, h2⟩
        · rw [h1] at hu; cases hu
        · rw [h1] at hu; simp [h2] at hu
      · rw [if_neg hnu]; exact hu
    intro x hx
    rcases (mem_put' ht.srt).1 hx with rfl | hx
    · exact key hup
    · exact key (ht.up x hx.1)
theorem find_off {t : List Ent} (hs : Srt Ent.path t) {p q : Str} : find (offT t p) q = if q = p then none else find t q := by
  unfold offT
  have := fnd_filter (key := Ent.path) hs (q := fun e => e.path != p) (p := q)
  show fnd Ent.path _ q = _
  rw [this]
  by_cases h : q = p
  · subst h
    rw [if_pos rfl]
    cases hf : fnd Ent.path t q with
    | none => rfl
    | some e => simp [Option.filter, (fnd_some hf).1]
  · rw [if_neg h]
    show _ = fnd Ent.path t q
    cases hf : fnd Ent.path t q with
    | none => rfl
    | some e => simp [Option.filter, (fnd_some hf).1, h]
theorem off_ok {t : List Ent} (ht : TG t) {p : Str} (hp : pOk p = true) (hk : kids t p = []) : TG (offT t p) := by
  have hs : Srt Ent.path (offT t p) := srt_filter ht.srt _
  refine ⟨Nat.le_trans (List.length_filter_le _ _) ht.len, hs, fun e he => ht.ok e (List.mem_filter.1 he).1, fun e he => ?_⟩
  have he' := (List.mem_filter.1 he).1
  have hu := ht.up e he'
  unfold isDir get at hu ⊢
  by_cases hr : pUp e.path = [47]
  · rw [if_pos hr]; rfl
  rw [if_neg hr] at hu ⊢
  rw [find_off ht.srt, if_neg ?_]
  · exact hu
  · intro h
    have : e.path ∈ (t.filter fun e => pUp e.path == p).map Ent.path := List.mem_map_of_mem (List.mem_filter.2 ⟨he', by simp [h]⟩)
    unfold kids at hk
    rw [List.map_eq_nil_iff] at hk
    rw [hk] at this; cases this
/-- What is done to a right tree leaves a right one. -/
theorem doT_ok {t : List Ent} {op : Op} (ht : TG t) (ho : opOkB op = true) (hc : codeT t op = 0) : TG (doT t op) := by
  have hp := op_path ho
  unfold codeT at hc
  unfold doT
  by_cases h1 : op.kind = 1
  · rw [if_pos h1] at hc ⊢
    obtain ⟨a, b, c⟩ := (new0 hp).1 hc
    exact put_ok ht (by simp [eok, hp]; decide) a (.inl ⟨b, c⟩)
  rw [if_neg h1] at hc ⊢
  by_cases h2 : op.kind = 2
  · rw [if_pos h2] at hc ⊢
    obtain ⟨a, b⟩ := put0 hp hc
    exact put_ok ht (by simp [eok, hp, (op_n5 ho (by omega)).2.1]) a b
  rw [if_neg h2] at hc ⊢
  by_cases h5 : op.kind = 5
  · rw [if_pos h5] at hc ⊢
    exact (MV.of ht ho h5 hc).ok
  rw [if_neg h5] at hc ⊢
  have hk := op_kind ho
  obtain ⟨e, _, _, h⟩ := (off0 ht hp (by omega)).1 hc
  exact off_ok ht hp h
theorem TG.tOk {t : List Ent} (h : TG t) : tOk t = true := tOk_iff.2 ⟨h.len, h.srt, h.ok, h.up⟩
theorem treeDo_ok {t : List Ent} {op : Op} (ht : tOk t = true) (hc : (treeDo t op).2 = 0) : opOkB op = true ∧ codeT t op = 0 ∧ (treeDo t op).1 = doT t op ∧ Go.Proofs.YthblflnfhdnpdaaGreatDoor.tOk (doT t op) = true := by
  unfold treeDo at hc ⊢
  rw [if_pos ht] at hc ⊢
  by_cases ho : opOkB op = true
  · rw [if_pos ho] at hc ⊢
    by_cases h0 : codeT t op = 0
    · rw [if_pos h0]
      exact ⟨ho, h0, rfl, (doT_ok (TG.of ht) ho h0).tOk⟩
    · rw [if_neg h0] at hc; exact absurd hc h0
  · rw [if_neg ho] at hc; cases hc

/- The program's way: codes. -/
def movC2 (t : List Ent) (op : Op) : Int := if (find t op.path).isSome = false then 2 else if upC t op.dest ≠ 0 then upC t op.dest else if (find t op.dest).isSome = true then 4 else if und op.dest op.path = true then 7 else
  if t.all (fun e => (pMove e.path op.path op.dest).isSome) = true then 0 else 8
theorem und3_eq {s d : Str} (hs : pOk s = true) (hd : pOk d = true) : (pOk s && (d == [47] || (pOk d && (d ++ [47]).isPrefixOf s))) = und s d := by
  unfold und; simp [hs, hd]
/-- A directory has something in it where there is something below it. -/
theorem kids_below {t : List Ent} (ht : TG t) {p : Str} (hp : pOk p = true) : kids t p ≠ [] ↔ ∃ e ∈ t, und e.path p = true := by
  have h1 : kids t p ≠ [] ↔ ∃ e ∈ t, pUp e.path = p := by
    unfold kids
    rw [ne_eq, List.map_eq_nil_iff, List.filter_eq_nil_iff]
    simp
  rw [h1]
  constructor
  · rintro ⟨e, he, h⟩
    refine ⟨e, he, ?_⟩
    rw [← h]; exact und_up (ht.path he)
  · rintro ⟨e, he, h⟩
    have key : ∀ (n : Nat) {e : Ent}, (names e.path).length ≤ n → e ∈ t → und e.path p = true → ∃ e ∈ t, pUp e.path = p := by
      intro n
      induction n with
      | zero => intro e hn he _; have := (pOk_names (ht.path he)).1.1; omega
      | succ n ih =>
        intro e hn he hu
        rcases und_cases (ht.path he) hp hu with h | ⟨h2, h3, h4⟩
        · exact ⟨e, he, h⟩
        · have hd := ht.isDir_ent h3 (ht.up e he)
          have := (pOk_up (ht.path he) h2).2.2
          exact ih (e := ⟨pUp e.path, true, []⟩) (by simp only; omega) (find_path hd).2 h4
    exact key _ (Nat.le_refl _) he h

/- The program's way: the tree, ahead of the sorting. -/
def doX (t : List Ent) (op : Op) : List Ent := if op.kind = 5 then t.map (movE op.path op.dest) else if op.kind = 1 ∨ op.kind = 2 then (t.filter fun e => e.path != op.path) ++ [⟨op.path, op.kind == 1, op.data⟩] else t.filter fun e => e.path != op.path
theorem doX_sorts {t S : List Ent} {op : Op} (ht : TG t) (ho : opOkB op = true) (hc : codeT t op = 0) (h : Sorts Ent.path (doX t op) S) : S = doT t op := by
  have hg := doT_ok ht ho hc
  have hp := op_path ho
  have put_case : ∀ n : Ent, n.path = op.path → doX t op = (t.filter fun e => e.path != op.path) ++ [n] → doT t op = put t n → S = doT t op := fun n hn e1 e2 => by
    rw [e1] at h
    rw [e2] at hg ⊢
    refine h.eq ?_ hg.srt fun e => ?_
    · rw [List.map_append, List.nodup_append]
      refine ⟨?_, by simp, ?_⟩
      · exact srt_nodup (srt_filter ht.srt _)
      · intro a ha b hb
        obtain ⟨x, hx, rfl⟩ := List.mem_map.1 ha
        have := (List.mem_filter.1 hx).2
        simp only [List.map_cons, List.map_nil, List.mem_singleton] at hb
        rw [hb, hn]
        simpa using this
    · rw [mem_put' ht.srt, List.mem_append, List.mem_filter, List.mem_singleton, hn]
      simp only [bne_iff_ne, ne_eq]
      constructor
      · rintro (h | h)
        · exact .inr h
        · exact .inl h
      · rintro (h | h)
        · exact .inr h
        · exact .inl h
  by_cases h1 : op.kind = 1
  · have hd := (op_n5 ho (by omega)).2.2
    refine put_case ⟨op.path, true, []⟩ rfl ?_ (by unfold doT; rw [if_pos h1])
    unfold doX
    rw [if_neg (by omega), if_pos (.inl h1)]
    rcases hd with hd | hd
    · omega
    · rw [hd, h1]; rfl
  by_cases h2 : op.kind = 2
  · refine put_case ⟨op.path, false, op.data⟩ rfl ?_ (by unfold doT; rw [if_neg h1, if_pos h2])
    unfold doX
    rw [if_neg (by omega), if_pos (.inr h2), h2]; rfl
  by_cases h5 : op.kind = 5
  · have hv := MV.of ht ho h5 (by unfold codeT at hc; rw [if_neg h1, if_neg h2, if_pos h5] at hc; exact hc)
    have e1 : doX t op = t.map (movE op.path op.dest) := by unfold doX; rw [if_pos h5]
    have e2 : doT t op = movT t op.path op.dest := by unfold doT; rw [if_neg h1, if_neg h2, if_pos h5]
    rw [e1] at h
    rw [e2]
    obtain ⟨q1, q2⟩ := hv.spec
    refine h.eq hv.nodup q1 fun e => ?_
    rw [q2]; simp
  · have e1 : doX t op = offT t op.path := by unfold doX; rw [if_neg h5, if_neg (by omega)]; rfl
    have e2 : doT t op = offT t op.path := by unfold doT; rw [if_neg h1, if_neg h2, if_neg h5]
    rw [e1] at h
    rw [e2] at hg ⊢
    exact h.eq (srt_nodup hg.srt) hg.srt fun e => Iff.rfl
theorem doX_len {t : List Ent} {op : Op} : (doX t op).length ≤ t.length + 1 := by
  unfold doX
  have := List.length_filter_le (fun e : Ent => e.path != op.path) t
  split
  · simp
  · split
    · simp; omega
    · omega

end Go.Proofs.YthblflnfhdnpdaaGreatDoor

/- A layer on a tree: what is found where; no condition, no program. -/
import Derived.Test.YthblflnfhdnpdaaGreatDoorQa2
namespace Go.Proofs.YthblflnfhdnpdaaGreatDoor
set_option linter.unusedSimpArgs false
set_option linter.unusedVariables false
open Go Go.RowKit

def onEnt (m : Mark) : Option Ent := if m.kind = 1 then some ⟨m.path, false, m.data⟩ else if m.kind = 2 ∨ m.kind = 4 then some ⟨m.path, true, []⟩ else none

theorem onP_eq (out : List Ent) (m : Mark) : onP out m = match onEnt m with
  | some e => put out e
  | none => out := by
  unfold onP onEnt
  by_cases h1 : m.kind = 1
  · rw [if_pos h1, if_pos h1]
  · rw [if_neg h1, if_neg h1]
    by_cases h2 : m.kind = 2 ∨ m.kind = 4
    · rw [if_pos h2, if_pos h2]
    · rw [if_neg h2, if_neg h2]
theorem onEnt_path {m : Mark} {e : Ent} (h : onEnt m = some e) : e.path = m.path := by
  unfold onEnt at h
  split at h
  · cases h; rfl
  · split at h
    · cases h; rfl
    · cases h
theorem srt_onP {out : List Ent} {m : Mark} (h : Srt Ent.path out) : Srt Ent.path (onP out m) := by
  rw [onP_eq]
  split
  · exact srt_put h
  · exact h
theorem fnd_onP {out : List Ent} {m : Mark} {p : Str} : find (onP out m) p = if m.path = p then (onEnt m).or (find out p) else find out p := by
  rw [onP_eq]
  cases h : onEnt m with
  | none => simp
  | some e =>
    have : find (put out e) p = if e.path = p then some e else find out p := fnd_put
    simp only [this, onEnt_path h, Option.some_or]
theorem srt_fold_on : ∀ {l : List Mark} {out : List Ent}, Srt Ent.path out → Srt Ent.path (l.foldl onP out)
  | [], _, h => h
  | _ :: l, _, h => srt_fold_on (l := l) (srt_onP h)
theorem fnd_fold_on : ∀ {l : List Mark} {out : List Ent} {p : Str}, Srt Mark.path l → find (l.foldl onP out) p = match mfind l p with
    | some m => (onEnt m).or (find out p)
    | none => find out p
  | [], _, _, _ => rfl
  | m :: l, out, p, hs => by
    unfold Srt at hs
    rw [List.pairwise_cons] at hs
    rw [List.foldl_cons, fnd_fold_on (l := l) hs.2, fnd_onP]
    have e : mfind (m :: l) p = if m.path = p then some m else mfind l p := fnd_cons (key := Mark.path)
    rw [e]
    by_cases h : m.path = p
    · have h2 : mfind l p = none := fnd_none.2 fun x hx => by rw [← h]; exact (ltS_ne (hs.1 x hx)).symm
      rw [if_pos h, h2, if_pos h]
    · rw [if_neg h, if_neg h]

theorem srt_on {l : List Mark} {t : List Ent} (ht : Srt Ent.path t) : Srt Ent.path (onRaw l t) := srt_fold_on (srt_filter ht _)

theorem on_findS {l : List Mark} {t : List Ent} (hs : Srt Mark.path l) (ht : Srt Ent.path t) (p : Str) : find (onRaw l t) p = match mfind l p with
    | some m => onEnt m
    | none => if hides l p = true then none else find t p := by
  have hf : find (t.filter fun e => !hides l e.path) p = if hides l p = true then none else find t p := by
    have h : find (t.filter fun e => !hides l e.path) p = (find t p).filter fun e => !hides l e.path := fnd_filter ht
    rw [h]
    cases hp : find t p with
    | none => simp
    | some e =>
      have := (find_path hp).1
      rw [Option.filter, this]
      cases hides l p <;> rfl
  unfold onRaw
  rw [fnd_fold_on hs, hf]
  cases h : mfind l p with
  | none => rfl
  | some m =>
    simp only
    obtain ⟨h1, h2⟩ := mfind_path h
    cases ho : onEnt m with
    | some e => rfl
    | none =>
      have hk : m.kind ≠ 2 := by
        intro e; unfold onEnt at ho; rw [if_neg (by omega), if_pos (.inl e)] at ho; cases ho
      have : hides l p = true := by
        unfold hides
        rw [List.any_eq_true]
        exact ⟨m, h2, by simp [hidP, h1, hk]⟩
      rw [if_pos this]; rfl

theorem on_find {l : List Mark} {t : List Ent} (hl : lOk l = true) (ht : Srt Ent.path t) (p : Str) : find (onRaw l t) p = match mfind l p with
    | some m => onEnt m
    | none => if hides l p = true then none else find t p := on_findS (lOk_iff.1 hl).2.1 ht p

theorem mem_on {l : List Mark} {t : List Ent} (hl : lOk l = true) (ht : Srt Ent.path t) {e : Ent} : e ∈ onRaw l t ↔ (∃ m ∈ l, onEnt m = some e) ∨ (mfind l e.path = none ∧ hides l e.path = false ∧ e ∈ t) := by
  obtain ⟨_, hs, hm, _⟩ := lOk_iff.1 hl
  have h : e ∈ onRaw l t ↔ find (onRaw l t) e.path = some e := fnd_iff (srt_on ht)
  rw [h, on_find hl ht]
  cases hf : mfind l e.path with
  | some m =>
    obtain ⟨h1, h2⟩ := mfind_path hf
    simp only [reduceCtorEq, false_and, or_false]
    constructor
    · exact fun h => ⟨m, h2, h⟩
    · rintro ⟨m', hm', h'⟩
      have := onEnt_path h'
      have h3 : mfind l m'.path = some m' := fnd_mem hs hm'
      rw [← this, hf] at h3
      cases h3; exact h'
  | none =>
    have hn : ∀ m ∈ l, m.path ≠ e.path := fnd_none.1 hf
    simp only [true_and]
    constructor
    · intro h
      right
      cases hh : hides l e.path with
      | true => rw [hh] at h; simp at h
      | false => rw [hh] at h; simp at h; exact ⟨rfl, (find_path h).2⟩
    · rintro (⟨m, hm', h'⟩ | ⟨h1, h2⟩)
      · exact absurd (onEnt_path h').symm (hn m hm')
      · rw [h1]; simp; exact fnd_mem ht h2

theorem onEnt_eok {m : Mark} {e : Ent} (h : mok m = true) (ho : onEnt m = some e) : eok e = true := by
  simp only [mok, Bool.and_eq_true, Bool.not_eq_true', Bool.and_eq_false_iff] at h
  unfold onEnt at ho
  split at ho
  · cases ho; simp [eok, h.2.1, h.2.2.1]
  · split at ho
    · cases ho; simp [eok, h.2.1]; rfl
    · cases ho

/-- A right layer on a right tree: all but its size is right. -/
theorem on_ok {l : List Mark} {t : List Ent} (hl : lOk l = true) (ht : tOk t = true) : Srt Ent.path (onRaw l t) ∧ (∀ e ∈ onRaw l t, eok e = true) ∧ ∀ e ∈ onRaw l t, isDir (onRaw l t) (pUp e.path) = true := by
  obtain ⟨_, hs, hm, hin, hb⟩ := lOk_iff.1 hl
  obtain ⟨_, ts, te, tu⟩ := tOk_iff.1 ht
  refine ⟨srt_on ts, fun e he => ?_, fun e he => ?_⟩
  · rcases (mem_on hl ts).1 he with ⟨m, h1, h2⟩ | ⟨_, _, h3⟩
    · exact onEnt_eok (hm m h1) h2
    · exact te e h3
  · have hd : ∀ m ∈ l, m.kind = 2 ∨ m.kind = 4 → isDir (onRaw l t) m.path = true := by
      intro m hmem hk
      have hp := mok_path (hm m hmem)
      have h3 : mfind l m.path = some m := fnd_mem hs hmem
      unfold isDir
      rw [get_find hp, on_find hl ts, h3]
      simp only [onEnt]
      rw [if_neg (by omega), if_pos hk]
    rcases (mem_on hl ts).1 he with ⟨m, h1, h2⟩ | ⟨h1, h2, h3⟩
    · rw [onEnt_path h2]
      have := hin m h1
      unfold inD at this
      simp only [Bool.or_eq_true, beq_iff_eq] at this
      rcases this with h | h
      · rw [h]; rfl
      · unfold kind at h
        cases hf : mfind l (pUp m.path) with
        | none => rw [hf] at h; simp at h
        | some m' =>
          rw [hf] at h
          obtain ⟨g1, g2⟩ := mfind_path hf
          rw [← g1]
          exact hd m' g2 h
    · have hep := te e h3
      simp only [eok, Bool.and_eq_true] at hep
      have hpe := hep.1
      have htu := tu e h3
      by_cases hr : pUp e.path = [47]
      · rw [hr]; rfl
      have hup := (pOk_up hpe hr).1
      have hnot : ∀ m ∈ l, hidP e.path m = false := by
        intro m hmem
        unfold hides at h2
        rw [List.any_eq_false] at h2
        simpa using h2 m hmem
      cases hf : mfind l (pUp e.path) with
      | some m =>
        obtain ⟨g1, g2⟩ := mfind_path hf
        rw [← g1]
        refine hd m g2 ?_
        have := hnot m g2
        unfold hidP at this
        have hu : und e.path m.path = true := by rw [g1]; exact und_up hpe
        simp [hu] at this
        exact .inl this.2
      | none =>
        have hh : hides l (pUp e.path) = false := by
          unfold hides
          rw [List.any_eq_false]
          intro m hmem hc
          have h0 := hnot m hmem
          have hmr := ok_ne_root (mok_path (hm m hmem))
          unfold hidP at hc h0
          simp only [Bool.or_eq_true, Bool.and_eq_true, beq_iff_eq, bne_iff_ne] at hc
          rcases hc with ⟨c1, _⟩ | ⟨c1, c2⟩
          · exact fnd_none.1 hf m hmem c1
          · have := und_trans hmr hr (und_up hpe) c2
            simp [this, c1] at h0
        unfold isDir at htu ⊢
        rw [get_find hup] at htu ⊢
        rw [on_find hl ts, hf]
        simp only [hh, Bool.false_eq_true, if_false]
        exact htu

theorem lOn_tOk {l : List Mark} {t t' : List Ent} (h : lOn l t = some t') : tOk t' = true := by
  obtain ⟨h1, h2, h3, rfl⟩ := lOn_ok h
  exact tOk_iff.2 ⟨h1, on_ok h2 h3⟩

theorem lowerA_app : ∀ {a b : List (List Mark)} {t : List Ent}, lowerA (a ++ b) t = match lowerA a t with
    | some t' => lowerA b t'
    | none => none
  | [], _, _ => rfl
  | l :: a, b, t => by
    rw [List.cons_append, lowerA, lowerA]
    cases lOn l t with
    | none => rfl
    | some t' => exact lowerA_app (a := a)
theorem lowerA_tOk : ∀ {a : List (List Mark)} {t t' : List Ent}, tOk t = true → lowerA a t = some t' → tOk t' = true
  | [], t, t', h, h2 => by cases h2; exact h
  | l :: a, t, t', h, h2 => by
    rw [lowerA] at h2
    cases h3 : lOn l t with
    | none => rw [h3] at h2; cases h2
    | some x => rw [h3] at h2; exact lowerA_tOk (a := a) (lOn_tOk h3) h2
theorem lower4_tOk {o : Over} {t : List Ent} (h : lower4 o = some t) : tOk t = true := by
  unfold lower4 at h
  split at h
  · rename_i hc; exact lowerA_tOk hc.1 h
  · cases h
theorem view4_tOk {o : Over} {t : List Ent} (h : view4 o = some t) : tOk t = true := by
  unfold view4 at h
  split at h
  · exact lOn_tOk h
  · cases h

/-- The uppermost layer that has a mark at a path, counted from one. -/
def topN (all : List (List Mark)) (p : Str) : Nat → Nat
  | 0 => 0
  | k + 1 => if kind (all.getD k []) p ≠ 0 then k + 1 else topN all p k
def allL (o : Over) : List (List Mark) := o.layers ++ [o.upper]
def oGet (o : Over) (p : Str) : Option (Ent × Int) := if oOk o = true then (match view4 o with
  | some t => match get t p with
    | some e => some (e, (topN (allL o) p (allL o).length : Int))
    | none => none
  | none => none) else none
def eOGet : Option (Ent × Int) → CV
  | none => .tup [eEnt noE, CI 0, CB false]
  | some x => .tup [eEnt x.1, CI x.2, CB true]
theorem topN_le {all : List (List Mark)} {p : Str} : ∀ {k : Nat}, topN all p k ≤ k
  | 0 => by simp [topN]
  | k + 1 => by
    have := topN_le (all := all) (p := p) (k := k)
    unfold topN; split <;> omega
theorem oOk_some {o : Over} (h : oOk o = true) : ∃ t x, lower4 o = some t ∧ view4 o = some x ∧ o.upper = diff t x := by
  unfold oOk at h
  split at h
  · rename_i t x h1 h2; exact ⟨t, x, h1, h2, by simpa using h⟩
  · cases h

end Go.Proofs.YthblflnfhdnpdaaGreatDoor

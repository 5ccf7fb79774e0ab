/- Paths: the plain functions, and what is true of them; no condition, no program. -/
import Derived.Test.YthblflnfhdnpdaaGreatDoorAm1
namespace Go.Proofs.YthblflnfhdnpdaaGreatDoor
set_option linter.unusedSimpArgs false
set_option linter.unusedVariables false
open Go Go.RowKit

/-- The pieces of a text between bytes c. -/
def cut (c : UInt8) : Str → List Str
  | [] => [[]]
  | b :: t => if b = c then [] :: cut c t else match cut c t with
    | [] => [[b]]
    | h :: r => (b :: h) :: r

theorem cut_ne (c : UInt8) : ∀ s, cut c s ≠ []
  | [] => by simp [cut]
  | b :: t => by
    unfold cut
    split
    · simp
    · split <;> simp

theorem cut_none {c : UInt8} : ∀ {s : Str}, c ∉ s → cut c s = [s]
  | [], _ => rfl
  | b :: t, h => by
    simp only [List.mem_cons, not_or] at h
    unfold cut
    rw [if_neg (fun e => h.1 e.symm), cut_none h.2]

theorem cut_app {c : UInt8} : ∀ {a : Str} (b : Str), c ∉ a → cut c (a ++ c :: b) = a :: cut c b
  | [], b, _ => by simp [cut]
  | x :: a, b, h => by
    simp only [List.mem_cons, not_or] at h
    rw [List.cons_append, cut, if_neg (fun e => h.1 e.symm), cut_app b h.2]

theorem cut_mem {c : UInt8} : ∀ {s : Str}, ∀ n ∈ cut c s, c ∉ n
  | [], n, h => by simp [cut] at h; simp [h]
  | b :: t, n, h => by
    unfold cut at h
    have ih := @cut_mem c t
    split at h
    · rcases List.mem_cons.1 h with rfl | h
      · simp
      · exact ih n h
    · rename_i hb
      split at h
      · simp at h; subst h; simpa using fun e => hb e.symm
      · rename_i x r hc
        rw [hc] at ih
        rcases List.mem_cons.1 h with rfl | h
        · simp only [List.mem_cons, not_or]; exact ⟨fun e => hb e.symm, ih x (by simp)⟩
        · exact ih n (by simp [h])

/-- Names behind strokes. -/
def jn (ns : List Str) : Str := ns.flatMap (47 :: ·)

theorem jn_cut : ∀ (s : Str), jn (cut 47 s) = 47 :: s
  | [] => rfl
  | b :: t => by
    have ih := jn_cut t
    unfold cut
    split
    · rename_i hb; subst hb; simp only [jn, List.flatMap_cons] at ih ⊢; rw [ih]; rfl
    · split
      · rename_i hc; exact absurd hc (cut_ne _ _)
      · rename_i x r hc
        rw [hc] at ih
        simp only [jn, List.flatMap_cons, List.cons_append, List.cons.injEq, true_and] at ih ⊢
        rw [ih]

theorem cut_jn : ∀ {n : Str} {ns : List Str}, (∀ x ∈ n :: ns, (47 : UInt8) ∉ x) → cut 47 (n ++ jn ns) = n :: ns
  | n, [], h => by simp [jn]; exact cut_none (h n (by simp))
  | n, m :: ns, h => by
    have : jn (m :: ns) = 47 :: (m ++ jn ns) := rfl
    rw [this, cut_app _ (h n (by simp)), cut_jn fun x hx => h x (by simp at hx ⊢; exact .inr hx)]

def lower (b : UInt8) : Bool := 97 ≤ b.toNat && b.toNat ≤ 122
def nameOk (n : Str) : Bool := n.all lower && (1 ≤ n.length && n.length ≤ 3)

theorem nameOk_no {n : Str} (h : nameOk n = true) : (47 : UInt8) ∉ n := by
  intro hm
  simp only [nameOk, Bool.and_eq_true, List.all_eq_true] at h
  have := h.1 _ hm
  simp [lower] at this

/-- The names of a path, or none. -/
def names (s : Str) : List Str := if s.length < 2 ∨ s.head? ≠ some 47 then [] else cut 47 s.tail
def pOk (s : Str) : Bool := s.length ≤ 12 && ((names s).all nameOk && (1 ≤ (names s).length && (names s).length ≤ 3))

/-- A path is one to three names. -/
theorem pOk_iff {s : Str} : pOk s = true ↔ ∃ ns : List Str, (1 ≤ ns.length ∧ ns.length ≤ 3) ∧ (∀ n ∈ ns, nameOk n = true) ∧ s = jn ns := by
  constructor
  · intro h
    simp only [pOk, Bool.and_eq_true, decide_eq_true_eq, List.all_eq_true] at h
    obtain ⟨_, h1, h2, h3⟩ := h
    refine ⟨names s, ⟨h2, h3⟩, h1, ?_⟩
    unfold names at h2 ⊢
    split at h2
    · simp at h2
    · rename_i hc
      rw [if_neg hc, jn_cut]
      cases s with
      | nil => simp at hc
      | cons b t => simp at hc; simp [hc.2]
  · rintro ⟨ns, ⟨h1, h2⟩, h3, rfl⟩
    cases ns with
    | nil => simp at h1
    | cons n ns =>
      have hno : ∀ x ∈ n :: ns, (47 : UInt8) ∉ x := fun x hx => nameOk_no (h3 x hx)
      have e : jn (n :: ns) = 47 :: (n ++ jn ns) := rfl
      have hlen : ∀ (ns : List Str), (∀ n ∈ ns, nameOk n = true) → (jn ns).length ≤ 4 * ns.length := by
        intro ns
        induction ns with
        | nil => intro _; simp [jn]
        | cons a l ih =>
          intro h
          have := ih fun n hn => h n (by simp [hn])
          have ha := h a (by simp)
          simp only [nameOk, Bool.and_eq_true, decide_eq_true_eq] at ha
          have e : jn (a :: l) = 47 :: (a ++ jn l) := rfl
          rw [e]; simp; omega
      have hn := h3 n (by simp)
      simp only [nameOk, Bool.and_eq_true, decide_eq_true_eq] at hn
      have hnm : names (jn (n :: ns)) = n :: ns := by
        unfold names
        rw [e]
        rw [if_neg (by simp; omega)]
        exact cut_jn hno
      simp only [pOk, Bool.and_eq_true, decide_eq_true_eq, List.all_eq_true, hnm]
      have := hlen _ h3
      exact ⟨by omega, h3, h1, h2⟩

theorem names_jn {ns : List Str} (h1 : 1 ≤ ns.length) (h3 : ∀ n ∈ ns, nameOk n = true) : names (jn ns) = ns := by
  cases ns with
  | nil => simp at h1
  | cons n ns =>
    have hno : ∀ x ∈ n :: ns, (47 : UInt8) ∉ x := fun x hx => nameOk_no (h3 x hx)
    have e : jn (n :: ns) = 47 :: (n ++ jn ns) := rfl
    have hn := h3 n (by simp)
    simp only [nameOk, Bool.and_eq_true, decide_eq_true_eq] at hn
    unfold names
    rw [e, if_neg (by simp; omega)]
    exact cut_jn hno

theorem jn_append (a b : List Str) : jn (a ++ b) = jn a ++ jn b := by simp [jn]

theorem pOk_names {s : Str} (h : pOk s = true) : (1 ≤ (names s).length ∧ (names s).length ≤ 3) ∧ (∀ n ∈ names s, nameOk n = true) ∧ s = jn (names s) := by
  obtain ⟨ns, h1, h2, rfl⟩ := pOk_iff.1 h
  rw [names_jn h1.1 h2]
  exact ⟨h1, h2, rfl⟩

theorem pOk_len {s : Str} (h : pOk s = true) : 2 ≤ s.length ∧ s.length ≤ 12 ∧ s.head? = some 47 := by
  have h12 : s.length ≤ 12 := by simp only [pOk, Bool.and_eq_true, decide_eq_true_eq] at h; exact h.1
  obtain ⟨⟨h1, _⟩, _, _⟩ := pOk_names h
  unfold names at h1
  split at h1
  · simp at h1
  · rename_i hc; simp only [not_or, Nat.not_lt, ne_eq, Classical.not_not] at hc; exact ⟨hc.1, h12, hc.2⟩

/-- The path that a path is in. -/
def pUp (s : Str) : Str := if pOk s then (if (names s).length = 1 then [47] else jn (names s).dropLast) else []
def pName (s : Str) : Str := if pOk s then (names s).getLast?.getD [] else []

/-- Is a path below another one, or the root? -/
def und (s d : Str) : Bool := d == [47] || (d ++ [47]).isPrefixOf s
def pMove (s f t : Str) : Option Str := if (pOk s && pOk f && pOk t) = true then (if (s != f && !und s f) = true then some s else if pOk (t ++ s.drop f.length) = true then some (t ++ s.drop f.length) else none) else none
def eOpt : Option Str → CV
  | none => .tup [CS [], CB false]
  | some s => .tup [CS s, CB true]

/-- A path in two: what it is in, and its name. -/
theorem pOk_two {s : Str} (h : pOk s = true) : ∃ a l, s = a ++ 47 :: l ∧ (47 : UInt8) ∉ l ∧ a = jn (names s).dropLast ∧ (names s).getLast? = some l ∧ nameOk l = true ∧ (a = [] ↔ (names s).length = 1) ∧ pName s = l ∧ pUp s = (if a = [] then [47] else a) := by
  obtain ⟨⟨h1, h2⟩, h3, h4⟩ := pOk_names h
  obtain ⟨l, hl⟩ : ∃ l, (names s).getLast? = some l := by
    cases hn : names s with
    | nil => rw [hn] at h1; simp at h1
    | cons x r => exact ⟨_, List.getLast?_eq_some_getLast (by simp)⟩
  have hsp : names s = (names s).dropLast ++ [l] := by
    obtain ⟨hne, e⟩ := List.getLast?_eq_some_iff.1 hl
    rw [e]; simp
  have hlm : l ∈ names s := by rw [hsp]; simp
  have ha : (jn (names s).dropLast = [] ↔ (names s).length = 1) := by
    cases hd : (names s).dropLast with
    | nil =>
      have : (names s).length = 1 := by rw [hsp, hd]; rfl
      simp [jn, this]
    | cons x r =>
      have : (names s).length = r.length + 2 := by rw [hsp, hd]; simp
      simp [jn, this]
  refine ⟨jn (names s).dropLast, l, ?_, nameOk_no (h3 l hlm), rfl, hl, h3 l hlm, ha, ?_, ?_⟩
  · have e : jn (names s) = jn (names s).dropLast ++ jn [l] := by rw [← jn_append, ← hsp]
    rw [h4.symm] at e
    simpa [jn] using e
  · simp [pName, h, hl]
  · unfold pUp
    rw [if_pos h]
    by_cases hc : (names s).length = 1
    · rw [if_pos hc, if_pos (ha.2 hc)]
    · rw [if_neg hc, if_neg (fun e => hc (ha.1 e))]

theorem take_all {α : Type} {q : α → Bool} {l : List α} {k : Nat} (h : k < l.length) (h1 : (l.take k).all q = true) (h2 : q l[k] = true) : (l.take (k + 1)).all q = true := by
  rw [List.take_succ_eq_append_getElem h, List.all_append, h1]; simp [h2]
theorem all_no {α : Type} {q : α → Bool} {l : List α} {k : Nat} (h : k < l.length) (h2 : q l[k] = false) : l.all q = false := by
  rw [List.all_eq_false]; exact ⟨l[k], List.getElem_mem h, by simp [h2]⟩

end Go.Proofs.YthblflnfhdnpdaaGreatDoor

/- Trees: the plain functions, and what is true of them; no condition, no program. -/
import Derived.Test.YthblflnfhdnpdaaGreatDoorPa1
namespace Go.Proofs.YthblflnfhdnpdaaGreatDoor
set_option linter.unusedSimpArgs false
set_option linter.unusedVariables false
open Go Go.RowKit

theorem ltS_nil (b : Str) : ltS [] b = !b.isEmpty := by rw [ltS_d]; cases b <;> rfl
theorem ltS_cons (x : UInt8) (a : Str) : ltS (x :: a) [] = false := by rw [ltS_d]; rfl
theorem ltS_cc (x y : UInt8) (a b : Str) : ltS (x :: a) (y :: b) = (x < y || (x == y && ltS a b)) := by rw [ltS_d, ltS_d]; rfl

theorem ltS_irr : ∀ (a : Str), ltS a a = false
  | [] => by rw [ltS_nil]; rfl
  | x :: a => by rw [ltS_cc, ltS_irr a]; simp

theorem ltS_trans : ∀ {a b c : Str}, ltS a b = true → ltS b c = true → ltS a c = true
  | [], b, [], h1, h2 => by cases b with
    | nil => rw [ltS_irr] at h1; cases h1
    | cons y b => rw [ltS_cons] at h2; cases h2
  | [], _, z :: c, _, _ => by rw [ltS_nil]; rfl
  | x :: a, [], c, h1, _ => by rw [ltS_cons] at h1; cases h1
  | x :: a, y :: b, [], _, h2 => by rw [ltS_cons] at h2; cases h2
  | x :: a, y :: b, z :: c, h1, h2 => by
    rw [ltS_cc] at h1 h2 ⊢
    simp only [Bool.or_eq_true, Bool.and_eq_true, decide_eq_true_eq, beq_iff_eq] at h1 h2 ⊢
    simp only [UInt8.lt_iff_toNat_lt] at h1 h2 ⊢
    rcases h1 with h1 | ⟨rfl, h1⟩ <;> rcases h2 with h2 | ⟨rfl, h2⟩
    · left; omega
    · left; exact h1
    · left; exact h2
    · right; exact ⟨rfl, ltS_trans h1 h2⟩

theorem ltS_tri : ∀ (a b : Str), a = b ∨ ltS a b = true ∨ ltS b a = true
  | [], [] => .inl rfl
  | [], y :: b => by rw [ltS_nil]; simp
  | x :: a, [] => by rw [ltS_nil (x :: a)]; simp
  | x :: a, y :: b => by
    rw [ltS_cc, ltS_cc]
    rcases ltS_tri a b with h | h | h
    · subst h
      simp only [Bool.or_eq_true, decide_eq_true_eq, Bool.and_eq_true, beq_iff_eq, UInt8.lt_iff_toNat_lt]
      rcases Nat.lt_trichotomy x.toNat y.toNat with h | h | h
      · right; left; left; exact h
      · left; rw [UInt8.toNat_inj.1 h]
      · right; right; left; exact h
    · simp only [Bool.or_eq_true, decide_eq_true_eq, Bool.and_eq_true, beq_iff_eq, UInt8.lt_iff_toNat_lt]
      rcases Nat.lt_trichotomy x.toNat y.toNat with h' | h' | h'
      · right; left; left; exact h'
      · right; left; right; exact ⟨UInt8.toNat_inj.1 h', h⟩
      · right; right; left; exact h'
    · simp only [Bool.or_eq_true, decide_eq_true_eq, Bool.and_eq_true, beq_iff_eq, UInt8.lt_iff_toNat_lt]
      rcases Nat.lt_trichotomy x.toNat y.toNat with h' | h' | h'
      · right; left; left; exact h'
      · right; right; right; exact ⟨(UInt8.toNat_inj.1 h').symm, h⟩
      · right; right; left; exact h'

theorem ltS_asym {a b : Str} (h : ltS a b = true) : ltS b a = false := by
  cases h' : ltS b a with
  | false => rfl
  | true => have := ltS_trans h h'; rw [ltS_irr] at this; cases this
theorem ltS_ne {a b : Str} (h : ltS a b = true) : a ≠ b := by rintro rfl; rw [ltS_irr] at h; cases h
theorem ltS_f {a b : Str} (h : ltS a b = false) : a = b ∨ ltS b a = true := by
  rcases ltS_tri a b with h' | h' | h'
  · exact .inl h'
  · rw [h] at h'; cases h'
  · exact .inr h'
theorem ltS_app (a : Str) (x : UInt8) (r : Str) : ltS a (a ++ x :: r) = true := by
  induction a with
  | nil => rw [ltS_nil]; rfl
  | cons y a ih => rw [List.cons_append, ltS_cc, ih]; simp
/-- Between a text and all that it begins, nothing else lies. -/
theorem ltS_pre {a b r : Str} (h1 : ltS a b = true) (h2 : ltS b (a ++ r) = true) : a.isPrefixOf b = true := by
  induction a generalizing b with
  | nil => rfl
  | cons x a ih =>
    cases b with
    | nil => rw [ltS_cons] at h1; cases h1
    | cons y b =>
      rw [List.cons_append] at h2
      rw [ltS_cc] at h1 h2
      simp only [Bool.or_eq_true, Bool.and_eq_true, decide_eq_true_eq, beq_iff_eq, UInt8.lt_iff_toNat_lt] at h1 h2
      have e : x = y := by
        apply UInt8.toNat_inj.1
        rcases h1 with h1 | ⟨rfl, _⟩
        · rcases h2 with h2 | ⟨rfl, _⟩
          · omega
          · rfl
        · rfl
      subst e
      have g1 : ltS a b = true := by rcases h1 with h1 | h1; · omega
                                     · exact h1.2
      have g2 : ltS b (a ++ r) = true := by rcases h2 with h2 | h2; · omega
                                            · exact h2.2
      simp [ih g1 g2]

def alnum (b : UInt8) : Bool := lower b || (48 ≤ b.toNat && b.toNat ≤ 57)
def dataOk (s : Str) : Bool := s.all alnum && s.length ≤ 6

def find (t : List Ent) (p : Str) : Option Ent := t.find? fun e => e.path == p
def idx (t : List Ent) (p : Str) : Int := match t.findIdx? (fun e => e.path == p) with
  | some i => i
  | none => -1
def rootE : Ent := ⟨[47], true, []⟩
def noE : Ent := ⟨[], false, []⟩
def get (t : List Ent) (p : Str) : Option Ent := if p = [47] then some rootE else find t p
def isDir (t : List Ent) (p : Str) : Bool := match get t p with
  | some e => e.dir
  | none => false
def eEntO : Option Ent → CV
  | none => .tup [eEnt noE, CB false]
  | some e => .tup [eEnt e, CB true]

theorem idx_cases (t : List Ent) (p : Str) : (idx t p = -1 ∧ find t p = none ∧ ∀ e ∈ t, e.path ≠ p) ∨ ∃ j, ∃ h : j < t.length, idx t p = (j : Int) ∧ find t p = some t[j] ∧ t[j].path = p ∧ ∀ i (h' : i < t.length), i < j → t[i].path ≠ p := by
  unfold idx find
  cases hf : t.findIdx? (fun e => e.path == p) with
  | none =>
    left
    have hn := List.findIdx?_eq_none_iff.1 hf
    refine ⟨rfl, List.find?_eq_none.2 fun e he => by simpa using hn e he, fun e he => by simpa using hn e he⟩
  | some j =>
    right
    obtain ⟨h, h1, h2⟩ := List.findIdx?_eq_some_iff_getElem.1 hf
    refine ⟨j, h, rfl, ?_, by simpa using h1, fun i h' hi => by simpa using h2 i hi⟩
    rw [List.find?_eq_some_iff_getElem]
    exact ⟨h1, j, h, rfl, fun i hi => by simpa using h2 i hi⟩

theorem idx_of_first {t : List Ent} {p : Str} {k : Nat} (h : k < t.length) (hp : t[k].path = p) (hn : ∀ i (h' : i < t.length), i < k → t[i].path ≠ p) : idx t p = (k : Int) := by
  rcases idx_cases t p with ⟨_, _, h3⟩ | ⟨j, hj, h1, _, h2, h3⟩
  · exact absurd hp (h3 _ (List.getElem_mem h))
  · rcases Nat.lt_trichotomy j k with h' | h' | h'
    · exact absurd h2 (hn j hj h')
    · rw [h1, h']
    · exact absurd hp (h3 k h h')
theorem idx_of_none {t : List Ent} {p : Str} (hn : ∀ i (h' : i < t.length), t[i].path ≠ p) : idx t p = -1 := by
  rcases idx_cases t p with ⟨h, _⟩ | ⟨j, hj, _, _, h2, _⟩
  · exact h
  · exact absurd h2 (hn j hj)

theorem find_path {t : List Ent} {p : Str} {e : Ent} (h : find t p = some e) : e.path = p ∧ e ∈ t := by
  unfold find at h
  exact ⟨by simpa using List.find?_some h, List.mem_of_find?_eq_some h⟩

/-- Is an entry right behind these? -/
def ok1 (pre : List Ent) (e : Ent) : Bool := pOk e.path && (dataOk e.data && (!(e.dir && e.data != []) && ((match pre.getLast? with
  | none => true
  | some l => ltS l.path e.path) && isDir pre (pUp e.path))))

def okA : List Ent → List Ent → Bool
  | _, [] => true
  | pre, e :: r => ok1 pre e && okA (pre ++ [e]) r

def tOk (t : List Ent) : Bool := t.length ≤ 16 && okA [] t

theorem okA_iff : ∀ {r pre : List Ent}, okA pre r = true ↔ ∀ j (h : j < r.length), ok1 (pre ++ r.take j) r[j] = true
  | [], pre => by simp [okA]
  | e :: r, pre => by
    rw [okA, Bool.and_eq_true, okA_iff (r := r)]
    constructor
    · rintro ⟨h1, h2⟩ j hj
      cases j with
      | zero => rw [List.take_zero, List.append_nil]; exact h1
      | succ j => have := h2 j (by simpa using hj); simpa using this
    · intro h
      refine ⟨by have := h 0 (by simp); rw [List.take_zero, List.append_nil] at this; exact this, fun j hj => ?_⟩
      have := h (j + 1) (by simpa using hj)
      simpa using this

theorem okA0 {t : List Ent} : okA [] t = true ↔ ∀ j (h : j < t.length), ok1 (t.take j) t[j] = true := by
  rw [okA_iff]; simp

end Go.Proofs.YthblflnfhdnpdaaGreatDoor

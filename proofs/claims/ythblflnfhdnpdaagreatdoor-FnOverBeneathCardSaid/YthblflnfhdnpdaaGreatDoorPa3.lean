/- Layers: the plain functions; no condition, no program. -/
import Derived.Test.YthblflnfhdnpdaaGreatDoorPa2
namespace Go.Proofs.YthblflnfhdnpdaaGreatDoor
set_option linter.unusedSimpArgs false
set_option linter.unusedVariables false
open Go Go.RowKit

theorem tw_dw {α : Type} {q : α → Bool} : ∀ {t : List α} {k : Nat}, (t.take k).all q = true → (∀ h : k < t.length, q t[k] = false) → t.takeWhile q = t.take k ∧ t.dropWhile q = t.drop k
  | [], _, _, _ => by simp
  | x :: t, 0, _, h2 => by
    have := h2 (by simp)
    simp only [List.getElem_cons_zero] at this
    simp [this]
  | x :: t, k + 1, h1, h2 => by
    simp only [List.take_succ_cons, List.all_cons, Bool.and_eq_true] at h1
    have := tw_dw (t := t) (k := k) h1.2 fun h => by have := h2 (by simpa using h); simpa using this
    simp [h1.1, this.1, this.2]

/-- Something comes into a list in the order of paths, in the place of what is there. -/
def putG {α : Type} (key : α → Str) (t : List α) (e : α) : List α :=
  t.takeWhile (fun x => ltS (key x) (key e)) ++ e :: (match t.dropWhile (fun x => ltS (key x) (key e)) with
    | [] => []
    | x :: r => if key x = key e then r else x :: r)
abbrev put := putG Ent.path
abbrev lput := putG Mark.path

theorem putG_len {α : Type} {key : α → Str} {t : List α} {e : α} : (putG key t e).length ≤ t.length + 1 := by
  have h := congrArg List.length (List.takeWhile_append_dropWhile (p := fun x => ltS (key x) (key e)) (l := t))
  rw [List.length_append] at h
  unfold putG
  rw [List.length_append, List.length_cons]
  split
  · simp; omega
  · rename_i hc
    rw [hc] at h
    split <;> simp at h ⊢ <;> omega

theorem put_end {α : Type} {key : α → Str} {t : List α} {e : α} {k : Nat} (hk : ¬ k < t.length) (h1 : (t.take k).all (fun x => ltS (key x) (key e)) = true) : putG key t e = t.take k ++ [e] := by
  obtain ⟨e1, e2⟩ := tw_dw h1 fun h => absurd h hk
  unfold putG
  rw [e1, e2, List.drop_of_length_le (by omega)]
theorem put_in {α : Type} {key : α → Str} {t : List α} {e : α} {k : Nat} (hk : k < t.length) (h1 : (t.take k).all (fun x => ltS (key x) (key e)) = true) (h2 : ltS (key t[k]) (key e) = false) (h3 : key t[k] ≠ key e) : putG key t e = t.take k ++ e :: t.drop k := by
  obtain ⟨e1, e2⟩ := tw_dw h1 fun _ => h2
  unfold putG
  rw [e1, e2, List.drop_eq_getElem_cons hk]
  simp only [if_neg h3]
theorem put_at {α : Type} {key : α → Str} {t : List α} {e : α} {k : Nat} (hk : k < t.length) (h1 : (t.take k).all (fun x => ltS (key x) (key e)) = true) (h2 : ltS (key t[k]) (key e) = false) (h3 : key t[k] = key e) : putG key t e = t.take k ++ e :: t.drop (k + 1) := by
  obtain ⟨e1, e2⟩ := tw_dw h1 fun _ => h2
  unfold putG
  rw [e1, e2, List.drop_eq_getElem_cons hk]
  simp only [if_pos h3]

/-- All paths of two trees. -/
def both (a b : List Ent) : List Ent := b.foldl put a
def tudP (a b : List Ent) (e : Ent) : Bool := decide (get a e.path ≠ get b e.path)
def turned (a b : List Ent) : List Str := ((both a b).filter (tudP a b)).map (·.path)

def mfind (l : List Mark) (p : Str) : Option Mark := l.find? fun m => m.path == p
def midx (l : List Mark) (p : Str) : Int := match l.findIdx? (fun m => m.path == p) with
  | some i => i
  | none => -1
theorem midx_cases (t : List Mark) (p : Str) : (midx t p = -1 ∧ mfind t p = none ∧ ∀ e ∈ t, e.path ≠ p) ∨ ∃ j, ∃ h : j < t.length, midx t p = (j : Int) ∧ mfind t p = some t[j] ∧ t[j].path = p ∧ ∀ i (h' : i < t.length), i < j → t[i].path ≠ p := by
  unfold midx mfind
  cases hf : t.findIdx? (fun e => e.path == p) with
  | none =>
    left
    have hn := List.findIdx?_eq_none_iff.1 hf
    refine ⟨rfl, List.find?_eq_none.2 fun e he => by simpa using hn e he, fun e he => by simpa using hn e he⟩
  | some j =>
    right
    obtain ⟨h, h1, h2⟩ := List.findIdx?_eq_some_iff_getElem.1 hf
    refine ⟨j, h, rfl, ?_, by simpa using h1, fun i h' hi => by simpa using h2 i hi⟩
    rw [List.find?_eq_some_iff_getElem]
    exact ⟨h1, j, h, rfl, fun i hi => by simpa using h2 i hi⟩

theorem midx_of_first {t : List Mark} {p : Str} {k : Nat} (h : k < t.length) (hp : t[k].path = p) (hn : ∀ i (h' : i < t.length), i < k → t[i].path ≠ p) : midx t p = (k : Int) := by
  rcases midx_cases t p with ⟨_, _, h3⟩ | ⟨j, hj, h1, _, h2, h3⟩
  · exact absurd hp (h3 _ (List.getElem_mem h))
  · rcases Nat.lt_trichotomy j k with h' | h' | h'
    · exact absurd h2 (hn j hj h')
    · rw [h1, h']
    · exact absurd hp (h3 k h h')
theorem midx_of_none {t : List Mark} {p : Str} (hn : ∀ i (h' : i < t.length), t[i].path ≠ p) : midx t p = -1 := by
  rcases midx_cases t p with ⟨h, _⟩ | ⟨j, hj, _, _, h2, _⟩
  · exact h
  · exact absurd h2 (hn j hj)

theorem mfind_path {t : List Mark} {p : Str} {e : Mark} (h : mfind t p = some e) : e.path = p ∧ e ∈ t := by
  unfold mfind at h
  exact ⟨by simpa using List.find?_some h, List.mem_of_find?_eq_some h⟩

def kind (l : List Mark) (p : Str) : Int := match mfind l p with
  | some m => m.kind
  | none => 0
def bare (l : List Mark) (p : Str) : Bool := l.any fun m => m.kind == 4 && und p m.path
def inD (l : List Mark) (p : Str) : Bool := pUp p == [47] || (kind l (pUp p) == 2 || kind l (pUp p) == 4)
def hidP (p : Str) (m : Mark) : Bool := (m.path == p && m.kind != 2) || (m.kind != 2 && und p m.path)
def hides (l : List Mark) (p : Str) : Bool := l.any (hidP p)

def mlast (pre : List Mark) (p : Str) : Bool := match pre.getLast? with
  | none => true
  | some l => ltS l.path p
def mok1 (pre : List Mark) (m : Mark) : Bool := (decide (1 ≤ m.kind) && decide (m.kind ≤ 4)) && (pOk m.path && (dataOk m.data && (!(m.kind != 1 && m.data != []) && (mlast pre m.path && (inD pre m.path && !(decide (2 < m.kind) && bare pre m.path))))))
def mokA : List Mark → List Mark → Bool
  | _, [] => true
  | pre, e :: r => mok1 pre e && mokA (pre ++ [e]) r
def lOk (l : List Mark) : Bool := l.length ≤ 32 && mokA [] l

theorem mokA_iff : ∀ {r pre : List Mark}, mokA pre r = true ↔ ∀ j (h : j < r.length), mok1 (pre ++ r.take j) r[j] = true
  | [], pre => by simp [mokA]
  | e :: r, pre => by
    rw [mokA, Bool.and_eq_true, mokA_iff (r := r)]
    constructor
    · rintro ⟨h1, h2⟩ j hj
      cases j with
      | zero => rw [List.take_zero, List.append_nil]; exact h1
      | succ j => have := h2 j (by simpa using hj); simpa using this
    · intro h
      refine ⟨by have := h 0 (by simp); rw [List.take_zero, List.append_nil] at this; exact this, fun j hj => ?_⟩
      have := h (j + 1) (by simpa using hj)
      simpa using this

theorem mokA0 {t : List Mark} : mokA [] t = true ↔ ∀ j (h : j < t.length), mok1 (t.take j) t[j] = true := by
  rw [mokA_iff]; simp

def onP (out : List Ent) (m : Mark) : List Ent := if m.kind = 1 then put out ⟨m.path, false, m.data⟩ else if m.kind = 2 ∨ m.kind = 4 then put out ⟨m.path, true, []⟩ else out
def onRaw (l : List Mark) (t : List Ent) : List Ent := l.foldl onP (t.filter fun e => !hides l e.path)
def lOn (l : List Mark) (t : List Ent) : Option (List Ent) := if (lOk l && tOk t) = true then (if (onRaw l t).length ≤ 16 then some (onRaw l t) else none) else none
def eEntsO : Option (List Ent) → CV
  | none => .tup [eEnts [], CB false]
  | some t => .tup [eEnts t, CB true]
theorem eEntsO_eq (o : Option (List Ent)) : eEntsO o = .tup [eEnts (o.getD []), CB o.isSome] := by cases o <;> rfl

/-- The directories on the way to a path, the nearest first. -/
def upsN : Nat → Str → List Str
  | 0, _ => []
  | n + 1, p => if pUp p = [47] then [] else pUp p :: upsN n (pUp p)
def upsP (l : List Mark) (u : Str) : List Mark := if kind l u = 0 then lput l ⟨u, 2, []⟩ else l
def ups (l : List Mark) (p : Str) : List Mark := (upsN 3 p).foldl upsP l
def difM (to : List Ent) (p : Str) : Option Mark := match get to p with
  | some e => some ⟨p, if e.dir = true then 2 else 1, e.data⟩
  | none => if isDir to (pUp p) = true then some ⟨p, 3, []⟩ else none
def difP (to : List Ent) (out : List Mark) (p : Str) : List Mark := match difM to p with
  | some m => ups (lput out m) p
  | none => out
def diff (a b : List Ent) : List Mark := (turned a b).foldl (difP b) []

def lowerA : List (List Mark) → List Ent → Option (List Ent)
  | [], t => some t
  | l :: r, t => match lOn l t with
    | some t' => lowerA r t'
    | none => none
def lower4 (o : Over) : Option (List Ent) := if tOk o.base = true ∧ o.layers.length ≤ 4 then lowerA o.layers o.base else none
def view4 (o : Over) : Option (List Ent) := match lower4 o with
  | some t => lOn o.upper t
  | none => none
def oOk (o : Over) : Bool := match lower4 o, view4 o with
  | some t, some x => decide (o.upper = diff t x)
  | _, _ => false

theorem eEntO_eq (o : Option Ent) : eEntO o = .tup [eEnt (o.getD noE), CB o.isSome] := by cases o <;> rfl
theorem some_ne {α : Type} {a b : Option α} {d : α} : a = b ↔ a.isSome = b.isSome ∧ a.getD d = b.getD d := by cases a <;> cases b <;> simp
theorem fold_next {α β : Type} {f : β → α → β} {z : β} {l : List α} {k : Nat} (h : k < l.length) : (l.take (k + 1)).foldl f z = f ((l.take k).foldl f z) l[k] := by
  rw [List.take_succ_eq_append_getElem h, List.foldl_append]; rfl
theorem filt_t {α : Type} {q : α → Bool} {l : List α} {k : Nat} (h : k < l.length) (hq : q l[k] = true) : (l.take (k + 1)).filter q = (l.take k).filter q ++ [l[k]] := by
  rw [List.take_succ_eq_append_getElem h, List.filter_append]; simp [hq]
theorem filt_f {α : Type} {q : α → Bool} {l : List α} {k : Nat} (h : k < l.length) (hq : q l[k] = false) : (l.take (k + 1)).filter q = (l.take k).filter q := by
  rw [List.take_succ_eq_append_getElem h, List.filter_append]; simp [hq]
theorem filt_le {α : Type} {q : α → Bool} {l : List α} {k : Nat} : ((l.take k).filter q).length ≤ l.length := by
  have h1 := List.length_filter_le q (l.take k)
  have h2 := List.length_take_le' k l
  omega
theorem fold_put_len {α : Type} {key : α → Str} : ∀ (l : List α) (t : List α), (l.foldl (putG key) t).length ≤ t.length + l.length
  | [], t => by simp
  | e :: l, t => by
    have h := fold_put_len (key := key) l (putG key t e)
    have h2 := putG_len (key := key) (t := t) (e := e)
    simp only [List.foldl_cons, List.length_cons]
    omega
theorem fold_put_take {α : Type} {key : α → Str} (l : List α) (t : List α) (k : Nat) : ((l.take k).foldl (putG key) t).length ≤ t.length + l.length := by
  have h := fold_put_len (key := key) (l.take k) t
  have h2 := List.length_take_le' k l
  omega

theorem pOk_up {p : Str} (h : pOk p = true) (h2 : pUp p ≠ [47]) : pOk (pUp p) = true ∧ names (pUp p) = (names p).dropLast ∧ (names (pUp p)).length + 1 = (names p).length := by
  obtain ⟨⟨h1, h3⟩, h4, _⟩ := pOk_names h
  have hl : (names p).length ≠ 1 := by
    intro e; unfold pUp at h2; rw [if_pos h, if_pos e] at h2; exact h2 rfl
  have e : pUp p = jn (names p).dropLast := by unfold pUp; rw [if_pos h, if_neg hl]
  have hd : ∀ n ∈ (names p).dropLast, nameOk n = true := fun n hn => h4 n (List.dropLast_subset _ hn)
  have hdl : (names p).dropLast.length + 1 = (names p).length := by rw [List.length_dropLast]; omega
  have hn : names (pUp p) = (names p).dropLast := by rw [e]; exact names_jn (by omega) hd
  exact ⟨pOk_iff.2 ⟨_, ⟨by omega, by omega⟩, hd, e⟩, hn, by rw [hn]; exact hdl⟩
theorem pUp_root {p : Str} (h : pOk p = true) : pUp p = [47] ↔ (names p).length = 1 := by
  constructor
  · intro e
    obtain ⟨⟨h1, h3⟩, h4, _⟩ := pOk_names h
    apply Classical.byContradiction; intro hl
    have e2 : pUp p = jn (names p).dropLast := by unfold pUp; rw [if_pos h, if_neg hl]
    have hd : ∀ n ∈ (names p).dropLast, nameOk n = true := fun n hn => h4 n (List.dropLast_subset _ hn)
    have hdl : (names p).dropLast.length + 1 = (names p).length := by rw [List.length_dropLast]; omega
    have : pOk (pUp p) = true := pOk_iff.2 ⟨_, ⟨by omega, by omega⟩, hd, e2⟩
    rw [e] at this
    have := (pOk_len this).1
    simp at this
  · intro e; unfold pUp; rw [if_pos h, if_pos e]
theorem mem_putG {α : Type} {key : α → Str} {t : List α} {e x : α} (h : x ∈ putG key t e) : x = e ∨ x ∈ t := by
  have hs := List.takeWhile_append_dropWhile (p := fun x => ltS (key x) (key e)) (l := t)
  unfold putG at h
  rw [List.mem_append, List.mem_cons] at h
  rw [← hs, List.mem_append]
  rcases h with h | h | h
  · exact .inr (.inl h)
  · exact .inl h
  · split at h
    · cases h
    · rename_i hc
      rw [hc]
      split at h
      · exact .inr (.inr (by simp [h]))
      · exact .inr (.inr h)
theorem mem_fold_put {α : Type} {key : α → Str} : ∀ {l : List α} {t : List α} {x : α}, x ∈ l.foldl (putG key) t → x ∈ l ∨ x ∈ t
  | [], _, _, h => .inr h
  | e :: l, t, x, h => by
    rcases mem_fold_put (l := l) h with h | h
    · exact .inl (by simp [h])
    · rcases mem_putG h with rfl | h
      · exact .inl (by simp)
      · exact .inr h
theorem tOk_at {t : List Ent} (h : tOk t = true) : t.length ≤ 16 ∧ ∀ j (h : j < t.length), ok1 (t.take j) t[j] = true := by
  simp only [tOk, Bool.and_eq_true, decide_eq_true_eq] at h
  exact ⟨h.1, okA0.1 h.2⟩
theorem tOk_path {t : List Ent} (h : tOk t = true) {e : Ent} (he : e ∈ t) : pOk e.path = true := by
  obtain ⟨j, hj, rfl⟩ := List.mem_iff_getElem.1 he
  have := (tOk_at h).2 j hj
  simp only [ok1, Bool.and_eq_true] at this
  exact this.1
theorem turned_ok {a b : List Ent} (ha : tOk a = true) (hb : tOk b = true) {p : Str} (h : p ∈ turned a b) : pOk p = true := by
  obtain ⟨e, he, rfl⟩ := List.mem_map.1 h
  rcases mem_fold_put (List.mem_filter.1 he).1 with h | h
  · exact tOk_path hb h
  · exact tOk_path ha h
theorem turned_len {a b : List Ent} : (turned a b).length ≤ a.length + b.length := by
  unfold turned
  rw [List.length_map]
  have h1 := List.length_filter_le (tudP a b) (both a b)
  have h2 := fold_put_len (key := Ent.path) b a
  have h3 : (both a b).length ≤ a.length + b.length := h2
  omega
theorem upsN_len : ∀ (n : Nat) (p : Str), (upsN n p).length ≤ n
  | 0, _ => by simp [upsN]
  | n + 1, p => by
    unfold upsN
    split
    · simp
    · have := upsN_len n (pUp p); simp; omega
theorem upsP_len {l : List Mark} {u : Str} : (upsP l u).length ≤ l.length + 1 := by
  unfold upsP
  split
  · exact putG_len
  · omega
theorem fold_ups_len : ∀ (us : List Str) (l : List Mark), (us.foldl upsP l).length ≤ l.length + us.length
  | [], l => by simp
  | u :: us, l => by
    have h := fold_ups_len us (upsP l u)
    have h2 := upsP_len (l := l) (u := u)
    simp only [List.foldl_cons, List.length_cons]
    omega
theorem ups_len {l : List Mark} {p : Str} : (ups l p).length ≤ l.length + 3 := by
  have h := fold_ups_len (upsN 3 p) l
  have h2 := upsN_len 3 p
  unfold ups
  omega
theorem difP_len {b : List Ent} {out : List Mark} {p : Str} : (difP b out p).length ≤ out.length + 4 := by
  unfold difP
  split
  · rename_i m _
    have h := ups_len (l := lput out m) (p := p)
    have h2 : (lput out m).length ≤ out.length + 1 := putG_len
    omega
  · omega
theorem fold_dif_len {b : List Ent} : ∀ (ps : List Str) (out : List Mark), (ps.foldl (difP b) out).length ≤ out.length + 4 * ps.length
  | [], l => by simp
  | u :: us, l => by
    have h := fold_dif_len (b := b) us (difP b l u)
    have h2 := difP_len (b := b) (out := l) (p := u)
    simp only [List.foldl_cons, List.length_cons]
    omega
theorem onP_len {out : List Ent} {m : Mark} : (onP out m).length ≤ out.length + 1 := by
  unfold onP
  split
  · exact putG_len
  · split
    · exact putG_len
    · omega
theorem fold_on_len : ∀ (l : List Mark) (out : List Ent), (l.foldl onP out).length ≤ out.length + l.length
  | [], out => by simp
  | m :: l, out => by
    have h := fold_on_len l (onP out m)
    have h2 := onP_len (out := out) (m := m)
    simp only [List.foldl_cons, List.length_cons]
    omega
theorem lOn_ok {l : List Mark} {t t' : List Ent} (h : lOn l t = some t') : t'.length ≤ 16 ∧ lOk l = true ∧ tOk t = true ∧ t' = onRaw l t := by
  unfold lOn at h
  split at h
  · rename_i hc
    simp only [Bool.and_eq_true] at hc
    split at h
    · cases h; exact ⟨by assumption, hc.1, hc.2, rfl⟩
    · cases h
  · cases h

end Go.Proofs.YthblflnfhdnpdaaGreatDoor

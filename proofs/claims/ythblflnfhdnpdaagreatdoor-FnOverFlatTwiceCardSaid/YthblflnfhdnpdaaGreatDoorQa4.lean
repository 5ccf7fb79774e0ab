/- Two layers in one: what is found where; no condition, no program. -/
import Derived.Test.YthblflnfhdnpdaaGreatDoorQa3
namespace Go.Proofs.YthblflnfhdnpdaaGreatDoor
set_option linter.unusedSimpArgs false
set_option linter.unusedVariables false
open Go Go.RowKit

section
variable {α : Type} {key : α → Str}
theorem srt_mem_ext {a b : List α} (ha : Srt key a) (hb : Srt key b) (h : ∀ e, e ∈ a ↔ e ∈ b) : a = b := by
  refine srt_ext ha hb fun p => ?_
  cases ha' : fnd key a p with
  | some e =>
    obtain ⟨h1, h2⟩ := fnd_some ha'
    have := fnd_mem hb ((h e).1 h2)
    rw [h1] at this; exact this.symm
  | none =>
    refine (fnd_none.2 fun e he hk => ?_).symm
    exact fnd_none.1 ha' e ((h e).2 he) hk
theorem fnd_fold_put : ∀ {l t : List α} {p : Str}, Srt key l → fnd key (l.foldl (putG key) t) p = (fnd key l p).or (fnd key t p)
  | [], t, p, _ => by simp [fnd_nil]
  | e :: l, t, p, hs => by
    unfold Srt at hs
    rw [List.pairwise_cons] at hs
    rw [List.foldl_cons, fnd_fold_put (l := l) hs.2, fnd_put, fnd_cons]
    by_cases h : key e = p
    · have h2 : fnd key l p = none := fnd_none.2 fun x hx => by rw [← h]; exact (ltS_ne (hs.1 x hx)).symm
      rw [if_pos h, if_pos h, h2]; rfl
    · rw [if_neg h, if_neg h]
theorem srt_map {f : α → α} (hf : ∀ x, key (f x) = key x) {l : List α} (hs : Srt key l) : Srt key (l.map f) := by
  unfold Srt at hs ⊢
  rw [List.pairwise_map]
  exact hs.imp fun h => by rw [hf, hf]; exact h
theorem fnd_map {f : α → α} (hf : ∀ x, key (f x) = key x) : ∀ {l : List α} {p : Str}, fnd key (l.map f) p = (fnd key l p).map f
  | [], _ => rfl
  | x :: l, p => by
    rw [List.map_cons, fnd_cons, fnd_cons, hf, fnd_map hf (l := l)]
    split <;> rfl
theorem srt_fm {f : α → Option α} (hf : ∀ x y, f x = some y → key y = key x) {l : List α} (hs : Srt key l) : Srt key (l.filterMap f) := by
  induction l with
  | nil => exact List.Pairwise.nil
  | cons x l ih =>
    unfold Srt at hs
    rw [List.pairwise_cons] at hs
    rw [List.filterMap_cons]
    split
    · exact ih hs.2
    · rename_i y hy
      refine List.pairwise_cons.2 ⟨fun z hz => ?_, ih hs.2⟩
      obtain ⟨u, hu, hz⟩ := List.mem_filterMap.1 hz
      rw [hf _ _ hy, hf _ _ hz]; exact hs.1 u hu
theorem fnd_fm {f : α → Option α} (hf : ∀ x y, f x = some y → key y = key x) {l : List α} (hs : Srt key l) {p : Str} : fnd key (l.filterMap f) p = (fnd key l p).bind f := by
  cases h : fnd key l p with
  | none =>
    rw [fnd_none] at h
    refine fnd_none.2 fun e he hk => ?_
    obtain ⟨u, hu, he⟩ := List.mem_filterMap.1 he
    exact h u hu (by rw [← hf _ _ he, hk])
  | some e =>
    obtain ⟨h1, h2⟩ := fnd_some h
    simp only [Option.bind_some]
    cases hy : f e with
    | some y =>
      have := fnd_mem (srt_fm hf hs) (List.mem_filterMap.2 ⟨e, h2, hy⟩)
      rw [hf _ _ hy, h1] at this; exact this
    | none =>
      refine fnd_none.2 fun z hz hk => ?_
      obtain ⟨u, hu, hz⟩ := List.mem_filterMap.1 hz
      have : fnd key l (key u) = some u := fnd_mem hs hu
      rw [← hf _ _ hz, hk, h] at this
      cases this
      rw [hy] at hz; cases hz
end

/-- Right but for its size and for what its marks are in. -/
structure LG (l : List Mark) : Prop where
  srt : Srt Mark.path l
  ok : ∀ m ∈ l, mok m = true

theorem LG.of {l : List Mark} (h : lOk l = true) : LG l := by obtain ⟨_, hs, hm, _⟩ := lOk_iff.1 h; exact ⟨hs, hm⟩
theorem LG.path {l : List Mark} (h : LG l) {m : Mark} (hm : m ∈ l) : pOk m.path = true := mok_path (h.ok m hm)
theorem LG.root {l : List Mark} (h : LG l) {m : Mark} (hm : m ∈ l) : m.path ≠ [47] := ok_ne_root (h.path hm)
theorem LG.at {l : List Mark} (h : LG l) {m : Mark} (hm : m ∈ l) : mfind l m.path = some m := fnd_mem h.srt hm
theorem mok_kind {m : Mark} (h : mok m = true) : 1 ≤ m.kind ∧ m.kind ≤ 4 := by
  simp only [mok, Bool.and_eq_true, decide_eq_true_eq] at h; exact h.1
theorem mok_data {m : Mark} (h : mok m = true) (hk : m.kind ≠ 1) : m.data = [] := by
  simp only [mok, Bool.and_eq_true, Bool.not_eq_true', Bool.and_eq_false_iff] at h
  have := h.2.2.2
  simp [hk] at this; exact this
theorem mok_re {m : Mark} (h : mok m = true) {k : Int} (h1 : 2 ≤ k) (h2 : k ≤ 4) (hk : m.kind ≠ 1) : mok { m with kind := k } = true := by
  have hd := mok_data h hk
  have hp := mok_path h
  simp only [mok, Bool.and_eq_true] at h ⊢
  refine ⟨⟨by simp; omega, by simpa using h2⟩, hp, h.2.2.1, by simp [hd]⟩
theorem LG.kind0 {l : List Mark} (h : LG l) {p : Str} : kind l p = 0 ↔ mfind l p = none := by
  unfold kind
  cases hf : mfind l p with
  | none => simp
  | some m =>
    have := mok_kind (h.ok m (mfind_path hf).2)
    simp; omega
theorem kind_some {l : List Mark} {p : Str} {m : Mark} (h : mfind l p = some m) : kind l p = m.kind := by unfold kind; rw [h]

theorem hides_of {l : List Mark} {p : Str} {m : Mark} (hm : m ∈ l) (hk : m.kind ≠ 2) (h : m.path = p ∨ und p m.path = true) : hides l p = true := by
  unfold hides; rw [List.any_eq_true]
  refine ⟨m, hm, ?_⟩
  unfold hidP
  rcases h with h | h
  · simp [h, hk]
  · simp [h, hk]
theorem of_hides {l : List Mark} {p : Str} (h : hides l p = true) : ∃ m ∈ l, m.kind ≠ 2 ∧ (m.path = p ∨ und p m.path = true) := by
  unfold hides at h; rw [List.any_eq_true] at h
  obtain ⟨m, hm, h⟩ := h
  unfold hidP at h
  simp only [Bool.or_eq_true, Bool.and_eq_true, beq_iff_eq, bne_iff_ne] at h
  rcases h with ⟨h1, h2⟩ | ⟨h1, h2⟩
  · exact ⟨m, hm, h2, .inl h1⟩
  · exact ⟨m, hm, h1, .inr h2⟩
theorem LG.hides_und {l : List Mark} (h : LG l) {p d : Str} (hd : d ≠ [47]) (hu : und p d = true) (hh : hides l d = true) : hides l p = true := by
  obtain ⟨m, hm, hk, h1⟩ := of_hides hh
  refine hides_of hm hk (.inr ?_)
  rcases h1 with h1 | h1
  · rw [h1]; exact hu
  · exact und_trans (h.root hm) hd hu h1
theorem of_bare {l : List Mark} {p : Str} (h : bare l p = true) : ∃ m ∈ l, m.kind = 4 ∧ und p m.path = true := by
  unfold bare at h; rw [List.any_eq_true] at h
  obtain ⟨m, hm, h⟩ := h
  simp only [Bool.and_eq_true, beq_iff_eq] at h
  exact ⟨m, hm, h.1, h.2⟩
theorem bare_of {l : List Mark} {p : Str} {m : Mark} (hm : m ∈ l) (hk : m.kind = 4) (h : und p m.path = true) : bare l p = true := by
  unfold bare; rw [List.any_eq_true]
  exact ⟨m, hm, by simp [hk, h]⟩
theorem bare_hides {l : List Mark} {p : Str} (h : bare l p = true) : hides l p = true := by
  obtain ⟨m, hm, hk, hu⟩ := of_bare h
  exact hides_of hm (by omega) (.inr hu)
theorem LG.bare_und {l : List Mark} (h : LG l) {p d : Str} (hd : d ≠ [47]) (hu : und p d = true) (hh : bare l d = true) : bare l p = true := by
  obtain ⟨m, hm, hk, h1⟩ := of_bare hh
  exact bare_of hm hk (und_trans (h.root hm) hd hu h1)
theorem und_len {p d : Str} (h : und p d = true) (hd : d ≠ [47]) : d.length < p.length := by
  unfold und at h
  simp only [Bool.or_eq_true, beq_iff_eq, List.isPrefixOf_iff_prefix] at h
  rcases h with h | h
  · exact absurd h hd
  · have := h.length_le; simp at this; omega
/-- The uppermost bare one. -/
theorem LG.bare_top {l : List Mark} (h : LG l) : ∀ (n : Nat) {p : Str}, p.length ≤ n → bare l p = true → ∃ m ∈ l, m.kind = 4 ∧ und p m.path = true ∧ bare l m.path = false
  | 0, p, hn, hb => by
    obtain ⟨m, hm, hk, hu⟩ := of_bare hb
    have := und_len hu (h.root hm); omega
  | n + 1, p, hn, hb => by
    obtain ⟨m, hm, hk, hu⟩ := of_bare hb
    cases hb2 : bare l m.path with
    | false => exact ⟨m, hm, hk, hu, hb2⟩
    | true =>
      have := und_len hu (h.root hm)
      obtain ⟨m', h1, h2, h3, h4⟩ := h.bare_top n (p := m.path) (by omega) hb2
      exact ⟨m', h1, h2, und_trans (h.root h1) (h.root hm) hu h3, h4⟩

/-- What is needless below what is bare, taken out. -/
def tidyP (l : List Mark) (m : Mark) : Option Mark := if bare l m.path = true then (if m.kind = 3 then none else some (if m.kind = 4 then { m with kind := 2 } else m)) else some m
def tidyL (l : List Mark) : List Mark := l.filterMap (tidyP l)
theorem tidyP_path {l : List Mark} (x y : Mark) (h : tidyP l x = some y) : y.path = x.path := by
  unfold tidyP at h
  split at h
  · split at h
    · cases h
    · cases h; split <;> rfl
  · cases h; rfl
theorem tidy_same {l : List Mark} {m : Mark} (h : bare l m.path = false) : tidyP l m = some m := by unfold tidyP; simp [h]
theorem tidy_find {l : List Mark} (h : LG l) {p : Str} : mfind (tidyL l) p = (mfind l p).bind (tidyP l) := fnd_fm tidyP_path h.srt
theorem mem_tidy {l : List Mark} {m : Mark} : m ∈ tidyL l ↔ ∃ x ∈ l, tidyP l x = some m := List.mem_filterMap
theorem tidy_in {l : List Mark} {m : Mark} (hm : m ∈ l) (h : bare l m.path = false) : m ∈ tidyL l := mem_tidy.2 ⟨m, hm, tidy_same h⟩
theorem tidyP_kind {l : List Mark} {x y : Mark} (h : tidyP l x = some y) : y = x ∨ (x.kind = 4 ∧ y = { x with kind := 2 }) := by
  unfold tidyP at h
  split at h
  · split at h
    · cases h
    · split at h
      · cases h; exact .inr ⟨by assumption, rfl⟩
      · cases h; exact .inl rfl
  · cases h; exact .inl rfl
theorem LG.tidy {l : List Mark} (h : LG l) : LG (tidyL l) := by
  refine ⟨srt_fm tidyP_path h.srt, fun m hm => ?_⟩
  obtain ⟨x, hx, e⟩ := mem_tidy.1 hm
  rcases tidyP_kind e with rfl | ⟨hk, rfl⟩
  · exact h.ok _ hx
  · exact mok_re (h.ok x hx) (by omega) (by omega) (by omega)
theorem LG.tidy_bare {l : List Mark} (h : LG l) {p : Str} : bare (tidyL l) p = bare l p := by
  rw [Bool.eq_iff_iff]
  constructor
  · intro hb
    obtain ⟨m, hm, hk, hu⟩ := of_bare hb
    obtain ⟨x, hx, e⟩ := mem_tidy.1 hm
    rcases tidyP_kind e with rfl | ⟨_, rfl⟩
    · exact bare_of hx hk hu
    · simp at hk
  · intro hb
    obtain ⟨m, hm, hk, hu, hn⟩ := h.bare_top p.length (Nat.le_refl _) hb
    exact bare_of (tidy_in hm hn) hk hu
theorem LG.tidy_hides {l : List Mark} (h : LG l) {p : Str} : hides (tidyL l) p = hides l p := by
  rw [Bool.eq_iff_iff]
  constructor
  · intro hb
    obtain ⟨m, hm, hk, hu⟩ := of_hides hb
    obtain ⟨x, hx, e⟩ := mem_tidy.1 hm
    rcases tidyP_kind e with rfl | ⟨_, rfl⟩
    · exact hides_of hx hk hu
    · simp at hk
  · intro hb
    obtain ⟨m, hm, hk, hu⟩ := of_hides hb
    cases hb2 : bare l m.path with
    | false => exact hides_of (tidy_in hm hb2) hk hu
    | true =>
      have : bare l p = true := by
        rcases hu with hu | hu
        · rw [← hu]; exact hb2
        · exact h.bare_und (h.root hm) hu hb2
      exact bare_hides (by rw [h.tidy_bare]; exact this)
/-- Tidied, a layer does the same. -/
theorem on_tidy {l : List Mark} {t : List Ent} (h : LG l) (ht : Srt Ent.path t) : onRaw (tidyL l) t = onRaw l t := by
  refine srt_ext (srt_on ht) (srt_on ht) fun p => ?_
  show find _ p = find _ p
  rw [on_findS h.tidy.srt ht, on_findS h.srt ht, tidy_find h, h.tidy_hides]
  cases hf : mfind l p with
  | none => rfl
  | some m =>
    obtain ⟨h1, h2⟩ := mfind_path hf
    simp only [Option.bind_some]
    unfold tidyP
    by_cases hb : bare l m.path = true
    · rw [if_pos hb]
      have hh : hides l p = true := bare_hides (by rw [← h1]; exact hb)
      by_cases h3 : m.kind = 3
      · rw [if_pos h3, hh]
        simp [onEnt, h3]
      · rw [if_neg h3]
        by_cases h4 : m.kind = 4
        · rw [if_pos h4]; simp [onEnt, h4]
        · rw [if_neg h4]
    · rw [if_neg hb]

/-- The kind of a mark on another one. -/
def bothK (a b : Int) : Int := if a = 2 ∧ b ≠ 0 ∧ b ≠ 2 then 4 else a
def joinM (b : List Mark) (m : Mark) : Mark := { m with kind := bothK m.kind (kind b m.path) }
def joinB (a : List Mark) (m : Mark) : Bool := !hides a m.path && kind a m.path == 0
def join0 (a b : List Mark) : List Mark := (a.map (joinM b)).foldl lput ((b.filter (joinB a)).foldl lput [])
def joinL (a b : List Mark) : List Mark := tidyL (join0 a b)

theorem bothK_ne {a b : Int} (h : a ≠ 2) : bothK a b = a := by unfold bothK; rw [if_neg (by simp [h])]
theorem bothK_2 {a b : Int} : bothK a b = 2 ∨ bothK a b = 4 ↔ a = 2 ∨ a = 4 := by
  unfold bothK
  split
  · omega
  · exact Iff.rfl
theorem join0_find {a b : List Mark} (ha : LG a) (hb : LG b) {p : Str} : mfind (join0 a b) p = match mfind a p with
    | some m => some (joinM b m)
    | none => if hides a p = true then none else mfind b p := by
  have h1 : fnd Mark.path (join0 a b) p = (fnd Mark.path (a.map (joinM b)) p).or (fnd Mark.path ((b.filter (joinB a)).foldl lput []) p) := fnd_fold_put (srt_map (f := joinM b) (fun _ => rfl) ha.srt)
  have h2 : fnd Mark.path ((b.filter (joinB a)).foldl lput []) p = (fnd Mark.path (b.filter (joinB a)) p).or (fnd Mark.path [] p) := fnd_fold_put (srt_filter hb.srt _)
  have h3 : fnd Mark.path (b.filter (joinB a)) p = (mfind b p).filter (joinB a) := fnd_filter hb.srt
  have h4 : fnd Mark.path (a.map (joinM b)) p = (mfind a p).map (joinM b) := fnd_map (f := joinM b) (fun _ => rfl)
  show fnd Mark.path (join0 a b) p = _
  rw [h1, h2, h3, h4, fnd_nil]
  cases hf : mfind a p with
  | some m => rfl
  | none =>
    have hk := ha.kind0.2 hf
    cases hg : mfind b p with
    | none => simp
    | some m =>
      have hp := (mfind_path hg).1
      simp [Option.filter, joinB, hp, hk]
      cases hides a p <;> rfl
theorem join0_srt {a b : List Mark} : Srt Mark.path (join0 a b) := fold_put_srt (fold_put_srt List.Pairwise.nil)
theorem mem_join0 {a b : List Mark} (ha : LG a) (hb : LG b) {m : Mark} : m ∈ join0 a b ↔ (∃ x ∈ a, m = joinM b x) ∨ (m ∈ b ∧ mfind a m.path = none ∧ hides a m.path = false) := by
  have h : m ∈ join0 a b ↔ mfind (join0 a b) m.path = some m := fnd_iff join0_srt
  rw [h, join0_find ha hb]
  cases hf : mfind a m.path with
  | some x =>
    obtain ⟨h1, h2⟩ := mfind_path hf
    simp only [Option.some.injEq, reduceCtorEq, false_and, and_false, or_false]
    constructor
    · rintro rfl; exact ⟨x, h2, rfl⟩
    · rintro ⟨y, hy, rfl⟩
      have : mfind a y.path = some y := ha.at hy
      have e : (joinM b y).path = y.path := rfl
      rw [e, this] at hf; cases hf; rfl
  | none =>
    simp only [true_and]
    have hn : ¬ ∃ x ∈ a, m = joinM b x := by
      rintro ⟨y, hy, rfl⟩
      have : mfind a y.path = some y := ha.at hy
      have e : (joinM b y).path = y.path := rfl
      rw [e, this] at hf; cases hf
    cases hh : hides a m.path with
    | true => simp [hn]
    | false =>
      simp only [Bool.false_eq_true, if_false, hn, and_true, false_or]
      exact (fnd_iff hb.srt).symm
theorem join0_LG {a b : List Mark} (ha : LG a) (hb : LG b) : LG (join0 a b) := by
  refine ⟨join0_srt, fun m hm => ?_⟩
  rcases (mem_join0 ha hb).1 hm with ⟨x, hx, rfl⟩ | ⟨h, _⟩
  · have ho := ha.ok x hx
    by_cases hk : x.kind = 2
    · refine mok_re ho ?_ ?_ (by omega) <;> (unfold bothK; split <;> omega)
    · have : joinM b x = x := by unfold joinM; rw [bothK_ne hk]
      rw [this]; exact ho
  · exact hb.ok m h
theorem onEnt_join {b : List Mark} {m : Mark} : onEnt (joinM b m) = onEnt m := by
  unfold onEnt joinM bothK
  by_cases h : m.kind = 2 ∧ kind b m.path ≠ 0 ∧ kind b m.path ≠ 2
  · simp [h, h.1]
  · simp only [if_neg h]

/-- Two layers in one do what they do one on the other. -/
theorem on_join0 {a b : List Mark} {t : List Ent} (ha : LG a) (hb : LG b) (ht : Srt Ent.path t) : onRaw (join0 a b) t = onRaw a (onRaw b t) := by
  refine srt_ext (srt_on ht) (srt_on (srt_on ht)) fun p => ?_
  show find _ p = find _ p
  have hj := join0_LG ha hb
  rw [on_findS hj.srt ht, on_findS ha.srt (srt_on ht), on_findS hb.srt ht, join0_find ha hb]
  cases hf : mfind a p with
  | some m => exact onEnt_join
  | none =>
    have hne : ∀ {m}, m ∈ a → m.path ≠ p := fun {m} hm e => by have := ha.at hm; rw [e, hf] at this; cases this
    cases hh : hides a p with
    | true =>
      obtain ⟨m, hm, hk, hu⟩ := of_hides hh
      have hu : und p m.path = true := hu.resolve_left (hne hm)
      have : hides (join0 a b) p = true := by
        refine hides_of (m := joinM b m) ((mem_join0 ha hb).2 (.inl ⟨m, hm, rfl⟩)) ?_ (.inr hu)
        show bothK m.kind _ ≠ 2
        rw [bothK_ne hk]; exact hk
      simp [this]
    | false =>
      simp only [Bool.false_eq_true, if_false]
      cases hg : mfind b p with
      | some m => rfl
      | none =>
        have hnb : ∀ {m}, m ∈ b → m.path ≠ p := fun {m} hm e => by have := hb.at hm; rw [e, hg] at this; cases this
        have key : hides (join0 a b) p = hides b p := by
          rw [Bool.eq_iff_iff]
          constructor
          · intro h
            obtain ⟨m, hm, hk, hu⟩ := of_hides h
            rcases (mem_join0 ha hb).1 hm with ⟨x, hx, rfl⟩ | ⟨h1, _⟩
            · have hu : und p x.path = true := hu.resolve_left (fun e => hne hx e)
              have hx2 : x.kind = 2 := by
                apply Classical.byContradiction; intro hn
                have := hides_of hx hn (.inr hu); rw [hh] at this; cases this
              have hkb : kind b x.path ≠ 0 ∧ kind b x.path ≠ 2 := by
                apply Classical.byContradiction; intro hn
                apply hk
                show bothK x.kind _ = 2
                unfold bothK; rw [if_neg (fun e => hn e.2)]; exact hx2
              unfold kind at hkb
              cases hy : mfind b x.path with
              | none => rw [hy] at hkb; exact absurd rfl hkb.1
              | some y =>
                rw [hy] at hkb
                obtain ⟨g1, g2⟩ := mfind_path hy
                exact hides_of g2 hkb.2 (.inr (by rw [g1]; exact hu))
            · exact hides_of h1 hk (.inr (hu.resolve_left (hnb h1)))
          · intro h
            obtain ⟨m, hm, hk, hu⟩ := of_hides h
            have hu : und p m.path = true := hu.resolve_left (hnb hm)
            cases hy : mfind a m.path with
            | some x =>
              obtain ⟨g1, g2⟩ := mfind_path hy
              have hx2 : x.kind = 2 := by
                apply Classical.byContradiction; intro hn
                have := hides_of g2 hn (.inr (by rw [g1]; exact hu)); rw [hh] at this; cases this
              refine hides_of (m := joinM b x) ((mem_join0 ha hb).2 (.inl ⟨x, g2, rfl⟩)) ?_ (.inr (by show und p x.path = true; rw [g1]; exact hu))
              show bothK x.kind (kind b x.path) ≠ 2
              have e : kind b x.path = m.kind := by rw [g1]; exact kind_some (hb.at hm)
              have := mok_kind (hb.ok m hm)
              unfold bothK; rw [if_pos ⟨hx2, by omega, by omega⟩]; omega
            | none =>
              have hn : hides a m.path = false := by
                cases hz : hides a m.path with
                | false => rfl
                | true => have := ha.hides_und (hb.root hm) hu hz; rw [hh] at this; cases this
              exact hides_of ((mem_join0 ha hb).2 (.inr ⟨hm, hy, hn⟩)) hk (.inr hu)
        rw [key]
theorem on_join {a b : List Mark} {t : List Ent} (ha : LG a) (hb : LG b) (ht : Srt Ent.path t) : onRaw (joinL a b) t = onRaw a (onRaw b t) := by
  unfold joinL; rw [on_tidy (join0_LG ha hb) ht, on_join0 ha hb ht]
theorem joinL_LG {a b : List Mark} (ha : LG a) (hb : LG b) : LG (joinL a b) := (join0_LG ha hb).tidy

theorem in_iff {l : List Mark} {p : Str} : inD l p = true ↔ pUp p = [47] ∨ ∃ m, mfind l (pUp p) = some m ∧ (m.kind = 2 ∨ m.kind = 4) := by
  unfold inD kind
  cases h : mfind l (pUp p) with
  | none => simp
  | some m => simp

theorem joinL_ok {a b : List Mark} (ha : lOk a = true) (hb : lOk b = true) (hl : (joinL a b).length ≤ 32) : lOk (joinL a b) = true := by
  have ga := LG.of ha
  have gb := LG.of hb
  have g0 := join0_LG ga gb
  have gj := joinL_LG ga gb
  obtain ⟨_, _, _, ia, _⟩ := lOk_iff.1 ha
  obtain ⟨_, _, _, ib, _⟩ := lOk_iff.1 hb
  refine lOk_iff.2 ⟨hl, gj.srt, gj.ok, fun m hm => ?_, fun m hm hk => ?_⟩
  · obtain ⟨x, hx, e⟩ := mem_tidy.1 hm
    have hp := tidyP_path _ _ e
    have hxp := g0.path hx
    rw [in_iff, hp]
    by_cases hr : pUp x.path = [47]
    · exact .inl hr
    right
    have hup := (pOk_up hxp hr).1
    have key : ∃ y, mfind (join0 a b) (pUp x.path) = some y ∧ (y.kind = 2 ∨ y.kind = 4) := by
      rw [join0_find ga gb]
      rcases (mem_join0 ga gb).1 hx with ⟨z, hz, e2⟩ | ⟨h1, h2, h3⟩
      · have hzp : x.path = z.path := by rw [e2]; rfl
        rw [hzp] at hr hup ⊢
        rcases in_iff.1 (ia z hz) with h | ⟨y, hy, hk⟩
        · exact absurd h hr
        · rw [hy]; exact ⟨_, rfl, bothK_2.2 hk⟩
      · rcases in_iff.1 (ib x h1) with h | ⟨y, hy, hk⟩
        · exact absurd h hr
        · cases hz : mfind a (pUp x.path) with
          | some z =>
            obtain ⟨q1, q2⟩ := mfind_path hz
            have : z.kind = 2 := by
              apply Classical.byContradiction; intro hn
              have := hides_of (p := x.path) q2 hn (.inr (by rw [q1]; exact und_up hxp))
              rw [h3] at this; cases this
            exact ⟨_, rfl, bothK_2.2 (.inl this)⟩
          | none =>
            have : hides a (pUp x.path) = false := by
              cases hq : hides a (pUp x.path) with
              | false => rfl
              | true => have := ga.hides_und hr (und_up hxp) hq; rw [h3] at this; cases this
            simp only [this, Bool.false_eq_true, if_false]
            exact ⟨y, hy, hk⟩
    obtain ⟨y, hy, hk⟩ := key
    unfold joinL
    rw [tidy_find g0, hy]
    simp only [Option.bind_some]
    unfold tidyP
    split
    · rw [if_neg (by omega)]
      refine ⟨_, rfl, ?_⟩
      split
      · exact .inl rfl
      · exact hk
    · exact ⟨_, rfl, hk⟩
  · unfold joinL
    rw [g0.tidy_bare]
    obtain ⟨x, hx, e⟩ := mem_tidy.1 hm
    have hp := tidyP_path _ _ e
    have hmk := mok_kind (gj.ok m hm)
    rw [hp]
    cases hb : bare (join0 a b) x.path with
    | false => rfl
    | true =>
      unfold tidyP at e
      rw [if_pos hb] at e
      split at e
      · cases e
      · cases e
        split at hk
        · simp at hk
        · split at hmk
          · omega
          · omega

def lJoin (a b : List Mark) : Option (List Mark) := if (lOk a && lOk b) = true then (if (joinL a b).length ≤ 32 then some (joinL a b) else none) else none
def eMarksO : Option (List Mark) → CV
  | none => .tup [eMarks [], CB false]
  | some t => .tup [eMarks t, CB true]
theorem lJoin_some {a b j : List Mark} (h : lJoin a b = some j) : lOk a = true ∧ lOk b = true ∧ j = joinL a b ∧ lOk j = true := by
  unfold lJoin at h
  split at h
  · rename_i hc
    simp only [Bool.and_eq_true] at hc
    split at h
    · cases h; exact ⟨hc.1, hc.2, rfl, joinL_ok hc.1 hc.2 (by assumption)⟩
    · cases h
  · cases h

/-- What the reference's loop makes of marks in their order. -/
def tidyF (out : List Mark) (m : Mark) : List Mark := if bare out m.path = true then (if m.kind = 3 then out else out ++ [if m.kind = 4 then { m with kind := 2 } else m]) else out ++ [m]
theorem fm_next {α β : Type} {f : α → Option β} {l : List α} {k : Nat} (h : k < l.length) : (l.take (k + 1)).filterMap f = (l.take k).filterMap f ++ (f l[k]).toList := by
  rw [List.take_succ_eq_append_getElem h, List.filterMap_append]
  cases hf : f l[k] <;> simp [hf]
theorem tidy_fold {l : List Mark} (h : LG l) : ∀ {k : Nat}, k ≤ l.length → (l.take k).foldl tidyF [] = (l.take k).filterMap (tidyP l)
  | 0, _ => by simp
  | k + 1, hk => by
    have hk' : k < l.length := by omega
    rw [fold_next hk', tidy_fold h (by omega), fm_next hk']
    have hm : l[k] ∈ l := List.getElem_mem hk'
    have e : bare ((l.take k).filterMap (tidyP l)) l[k].path = bare l l[k].path := by
      rw [Bool.eq_iff_iff]
      constructor
      · intro hb
        obtain ⟨m, hm', hk4, hu⟩ := of_bare hb
        obtain ⟨x, hx, e⟩ := List.mem_filterMap.1 hm'
        rcases tidyP_kind e with rfl | ⟨_, rfl⟩
        · exact bare_of (List.mem_of_mem_take hx) hk4 hu
        · simp at hk4
      · intro hb
        obtain ⟨m, hm', hk4, hu, hn⟩ := h.bare_top _ (Nat.le_refl _) hb
        have hlt := und_lt hu (h.root hm')
        refine bare_of (m := m) (List.mem_filterMap.2 ⟨m, ?_, tidy_same hn⟩) hk4 hu
        have h1 := fnd_take h.srt hk' hlt
        have h2 : fnd Mark.path l m.path = some m := fnd_mem h.srt hm'
        rw [h2] at h1
        exact (fnd_some h1).2
    rw [tidyF, e]
    unfold tidyP
    split
    · split
      · simp
      · simp
    · simp
theorem tidy_fold_all {l : List Mark} (h : LG l) : l.foldl tidyF [] = tidyL l := by
  have := tidy_fold h (Nat.le_refl l.length)
  rw [List.take_length] at this; exact this

end Go.Proofs.YthblflnfhdnpdaaGreatDoor

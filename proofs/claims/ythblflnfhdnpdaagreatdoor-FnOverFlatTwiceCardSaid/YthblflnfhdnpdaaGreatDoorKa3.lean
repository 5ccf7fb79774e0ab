/- The abstract logic (parts 31 to 33): closed values, abstract memory, operations and regions, and that they are sound over the model; no condition. -/
import Derived.Test.YthblflnfhdnpdaaGreatDoorKa2
namespace Go.Proofs.YthblflnfhdnpdaaGreatDoor
set_option linter.unusedSimpArgs false
set_option linter.unusedVariables false
open Go Go.RowKit

/- Part 31. -/
section
variable (s : Nat → Nat)
def ren1 : PV → PV
  | .ptr id off => .ptr (s id) off
  | .own id n => .own (s id) n
  | .eo id n i off => .eo (s id) n i off
  | .fn g ids => .fn g (ids.map s)
  | x => x
def renA : PV → PV
  | .agg cs => .agg (cs.map (ren1 s))
  | x => ren1 s x
def renP : PV → PV
  | .tup cs => .tup (cs.map (renA s))
  | x => renA s x
def renB : Blk → Blk
  | .box cs => .box (cs.map (ren1 s))
  | .row L sz e => .row (L.map (renA s)) sz e
def renM : Mem → Mem
  | [] => []
  | (k, b) :: l => (s k, renB s b) :: renM l
def renK (κ : Kap) : Kap := ⟨fun i => κ (s i), κ.S⟩
end

section
variable {s : Nat → Nat} (hs : ∀ i, s (s i) = i)
include hs
omit hs in
theorem map_id' {α : Type} {f : α → α} (h : ∀ a, f (f a) = a) (l : List α) : l.map (f ∘ f) = l := by
  have : f ∘ f = id := by funext a; exact h a
  rw [this, List.map_id]
theorem ren1_ren1 (x : PV) : ren1 s (ren1 s x) = x := by
  have : s ∘ s = id := by funext a; exact hs a
  cases x <;> simp [ren1, hs, this]
theorem renA_renA (x : PV) : renA s (renA s x) = x := by
  have h1 := ren1_ren1 hs
  cases x with
  | agg cs => simp only [renA, List.map_map]; congr 1; exact map_id' h1 cs
  | ptr a b => exact h1 (.ptr a b)
  | own a b => exact h1 (.own a b)
  | eo a b c d => exact h1 (.eo a b c d)
  | fn a b => exact h1 (.fn a b)
  | _ => rfl
theorem renP_renP (x : PV) : renP s (renP s x) = x := by
  have h1 := renA_renA hs
  cases x with
  | tup cs => simp only [renP, List.map_map]; congr 1; exact map_id' h1 cs
  | ptr a b => exact h1 (.ptr a b)
  | own a b => exact h1 (.own a b)
  | eo a b c d => exact h1 (.eo a b c d)
  | fn a b => exact h1 (.fn a b)
  | agg cs => exact h1 (.agg cs)
  | _ => rfl
theorem renB_renB (b : Blk) : renB s (renB s b) = b := by
  cases b with
  | box cs => simp only [renB, List.map_map]; congr 1; exact map_id' (ren1_ren1 hs) cs
  | row L sz e => simp only [renB, List.map_map]; congr 1; exact map_id' (renA_renA hs) L
theorem renM_renM : ∀ m : Mem, renM s (renM s m) = m
  | [] => rfl
  | (k, b) :: l => by simp only [renM, hs, renB_renB hs, renM_renM l]
theorem renK_renK (κ : Kap) : renK s (renK s κ) = κ := by cases κ; simp [renK, hs]
theorem lk_ren {m : Mem} {i : Nat} : lk (renM s m) i = (lk m (s i)).map (renB s) := by
  induction m with
  | nil => rfl
  | cons p m ih =>
    obtain ⟨k, b⟩ := p
    simp only [renM, lk_cons]
    by_cases h : i = s k
    · subst h; simp [hs]
    · rw [if_neg h, if_neg (fun e => h (by rw [← e, hs])), ih]
theorem lk_ren' {m : Mem} {i : Nat} : lk (renM s m) (s i) = (lk m i).map (renB s) := by rw [lk_ren hs, hs]
omit hs in
theorem cells_ren {x : PV} : (renA s x).cells = x.cells.map (ren1 s) := by
  cases x with
  | c y => simp only [renA, ren1, PV.cells, List.map_map]; exact List.map_congr_left fun _ _ => rfl
  | _ => rfl
theorem own_ren {κ : Kap} {m : Mem} {b : Nat} : Own (renK s κ) (renM s m) b ↔ Own κ m b := by
  constructor
  · rintro ⟨i, h1, h2⟩
    exact ⟨s i, by rw [lk_ren hs] at h1; simpa using h1, h2⟩
  · rintro ⟨i, h1, h2⟩
    exact ⟨s i, by rw [lk_ren' hs]; simpa using h1, by show κ (s (s i)) = _; rw [hs]; exact h2⟩
theorem live_ren {κ : Kap} {m : Mem} : Live (renK s κ) (renM s m) = Live κ m := by
  funext b
  exact propext (or_congr Iff.rfl (own_ren hs))

variable {κ κ' κ0 : Kap} {m m' m0 : Mem} {w w' w0 W0 : World}
theorem Rep1.ren {x : PV} {v : Value} (h : Rep1 κ m w x v) : Rep1 (renK s κ) (renM s m) w (ren1 s x) v := by
  have hk : ∀ i, (renK s κ) (s i) = κ i := fun i => by show κ (s (s i)) = _; rw [hs]
  cases x with
  | c y =>
    have e : Rep1 (renK s κ) (renM s m) w (.c y) v = Rep1 κ m w (.c y) v := by cases y <;> simp only [Rep1, live_ren hs]
    show Rep1 (renK s κ) (renM s m) w (.c y) v
    rw [e]; exact h
  | nil => exact h
  | np => exact h
  | ptr id off =>
    obtain ⟨b, cs, h1, h2, h3⟩ := h
    exact ⟨b, cs.map (ren1 s), by rw [lk_ren' hs, h1]; rfl, by rw [hk]; exact h2, h3⟩
  | own id n =>
    obtain ⟨h1, h2, L, sz, e, h3, h4, h5⟩ := h
    refine ⟨h1, h2, L.map (renA s), sz, e, by rw [lk_ren' hs, h3]; rfl, by simpa using h4, fun hl => ?_⟩
    have := h5 (by simpa using hl)
    unfold OwnV at this ⊢
    rw [hk]; exact this
  | ep y off =>
    obtain ⟨b, o, vs, h1, h2, h3⟩ := h
    refine ⟨b, o, vs, h1, by rw [live_ren hs]; exact h2, ?_⟩
    rw [live_ren hs]; exact h3
  | eo id n i off =>
    obtain ⟨h1, L, sz, e, h3, h4, h5⟩ := h
    refine ⟨h1, L.map (renA s), sz, e, by rw [lk_ren' hs, h3]; rfl, by simpa using h4, fun hl => ?_⟩
    obtain ⟨b, h6, h7⟩ := h5 (by simpa using hl)
    exact ⟨b, by rw [hk]; exact h6, h7⟩
  | fn g ids =>
    obtain ⟨bs, h1, h2⟩ := h
    refine ⟨bs, h1, All2.map_left s (h2.imp fun id b ⟨⟨cs, h3⟩, h4⟩ => ⟨⟨cs.map (ren1 s), by rw [lk_ren' hs, h3]; rfl⟩, by rw [hk]; exact h4⟩)⟩
  | agg cs => exact h.elim
  | tup cs => exact h.elim
theorem all2_ren1 : ∀ {cs : List PV} {vs : List Value}, All2 (Rep1 κ m w) cs vs → All2 (Rep1 (renK s κ) (renM s m) w) (cs.map (ren1 s)) vs
  | [], [], _ => trivial
  | _ :: _, _ :: _, h => ⟨Rep1.ren hs h.1, all2_ren1 h.2⟩
  | [], _ :: _, h => h.elim
  | _ :: _, [], h => h.elim
theorem RepA.ren {x : PV} {v : Value} (h : RepA κ m w x v) : RepA (renK s κ) (renM s m) w (renA s x) v := by
  cases x with
  | agg cs => obtain ⟨vs, h1, h2⟩ := h; exact ⟨vs, h1, all2_ren1 hs h2⟩
  | c y =>
    cases y with
    | agg cs =>
      show RepC w (Live (renK s κ) (renM s m)) (.agg cs) v
      rw [live_ren hs]; exact h
    | sc y => exact Rep1.ren hs (x := .c (.sc y)) h
    | row y => exact Rep1.ren hs (x := .c (.row y)) h
    | tup y => exact (show False from h).elim
  | ptr a b => exact Rep1.ren hs (κ := κ) (m := m) (w := w) (v := v) (x := .ptr a b) h
  | own a b => exact Rep1.ren hs (κ := κ) (m := m) (w := w) (v := v) (x := .own a b) h
  | eo a b c d => exact Rep1.ren hs (κ := κ) (m := m) (w := w) (v := v) (x := .eo a b c d) h
  | fn a b => exact Rep1.ren hs (κ := κ) (m := m) (w := w) (v := v) (x := .fn a b) h
  | ep a b => exact Rep1.ren hs (κ := κ) (m := m) (w := w) (v := v) (x := .ep a b) h
  | nil => exact h
  | np => exact h
  | tup cs => exact Rep1.ren hs (κ := κ) (m := m) (w := w) (v := v) (x := .tup cs) h
theorem all2_renA : ∀ {cs : List PV} {vs : List Value}, All2 (RepA κ m w) cs vs → All2 (RepA (renK s κ) (renM s m) w) (cs.map (renA s)) vs
  | [], [], _ => trivial
  | _ :: _, _ :: _, h => ⟨RepA.ren hs h.1, all2_renA h.2⟩
  | [], _ :: _, h => h.elim
  | _ :: _, [], h => h.elim
theorem Rep.ren {x : PV} {v : Value} (h : Rep κ m w x v) : Rep (renK s κ) (renM s m) w (renP s x) v := by
  cases x with
  | tup cs => obtain ⟨vs, h1, h2⟩ := h; exact ⟨vs, h1, all2_renA hs h2⟩
  | c y =>
    cases y with
    | tup cs =>
      show RepC w (Live (renK s κ) (renM s m)) (.tup cs) v
      rw [live_ren hs]; exact h
    | sc y => exact RepA.ren hs (x := .c (.sc y)) h
    | row y => exact RepA.ren hs (x := .c (.row y)) h
    | agg y => exact RepA.ren hs (x := .c (.agg y)) h
  | ptr a b => exact RepA.ren hs (κ := κ) (m := m) (w := w) (v := v) (x := .ptr a b) h
  | own a b => exact RepA.ren hs (κ := κ) (m := m) (w := w) (v := v) (x := .own a b) h
  | eo a b c d => exact RepA.ren hs (κ := κ) (m := m) (w := w) (v := v) (x := .eo a b c d) h
  | fn a b => exact RepA.ren hs (κ := κ) (m := m) (w := w) (v := v) (x := .fn a b) h
  | ep a b => exact RepA.ren hs (κ := κ) (m := m) (w := w) (v := v) (x := .ep a b) h
  | agg cs => exact RepA.ren hs (κ := κ) (m := m) (w := w) (v := v) (x := .agg cs) h
  | nil => exact h
  | np => exact h
theorem all2_ren : ∀ {cs : List PV} {vs : List Value}, All2 (Rep κ m w) cs vs → All2 (Rep (renK s κ) (renM s m) w) (cs.map (renP s)) vs
  | [], [], _ => trivial
  | _ :: _, _ :: _, h => ⟨Rep.ren hs h.1, all2_ren h.2⟩
  | [], _ :: _, h => h.elim
  | _ :: _, [], h => h.elim

omit hs in
theorem flat_ren : ∀ {L : List PV}, (L.map (renA s)).flatMap PV.cells = (L.flatMap PV.cells).map (ren1 s)
  | [] => rfl
  | x :: L => by simp only [List.map_cons, List.flatMap_cons, List.map_append, cells_ren, flat_ren (L := L)]
theorem BlkOk.ren {id : Nat} {b : Blk} (h : BlkOk κ m w id b) : BlkOk (renK s κ) (renM s m) w (s id) (renB s b) := by
  have hk : (renK s κ) (s id) = κ id := by show κ (s (s id)) = _; rw [hs]
  cases b with
  | box cs =>
    obtain ⟨b, vs, e, h1, h2, h3⟩ := h
    exact ⟨b, vs, e, by rw [hk]; exact h1, h2, all2_ren1 hs h3⟩
  | row L sz e =>
    obtain ⟨h1, h2, h3⟩ := h
    refine ⟨fun x hx => ?_, h2, ?_⟩
    · obtain ⟨y, hy, rfl⟩ := List.mem_map.1 hx
      rw [cells_ren, List.length_map]; exact h1 y hy
    · rcases h3 with ⟨h4, h5⟩ | ⟨b, vs, rest, h4, h5, h6⟩
      · exact .inl ⟨by rw [hk]; exact h4, h5.imp (fun e => by rw [e]; rfl) fun e => by simpa using e⟩
      · exact .inr ⟨b, vs, rest, by rw [hk]; exact h4, h5, by rw [flat_ren]; exact all2_ren1 hs h6⟩
theorem MemOk.ren (h : MemOk κ m w) : MemOk (renK s κ) (renM s m) w := by
  refine ⟨fun id b hb => ?_, fun i j b hi hj h1 h2 => ?_, h.sb, fun i b hi hb => h.sd (s i) b (by rw [lk_ren hs] at hi; simpa using hi) hb⟩
  · rw [lk_ren hs] at hb
    obtain ⟨c, h1, rfl⟩ := Option.map_eq_some_iff.1 hb
    have := BlkOk.ren hs (h.blk _ _ h1)
    rw [hs] at this; exact this
  · rw [lk_ren hs] at hi hj
    have := h.inj (s i) (s j) b (by simpa using hi) (by simpa using hj) h1 h2
    rw [← hs i, this, hs]
theorem Pres.ren (h : Pres κ m w κ' m' w') : Pres (renK s κ) (renM s m) w (renK s κ') (renM s m') w' := by
  refine ⟨fun id cs hb => ?_, fun id L sz e hr => ?_, fun b o v hl hc => ?_⟩
  · rw [lk_ren hs] at hb
    obtain ⟨c, h1, h2⟩ := Option.map_eq_some_iff.1 hb
    cases c with
    | row => cases h2
    | box cs0 =>
      obtain ⟨⟨cs', h3⟩, h4⟩ := h.box _ _ h1
      exact ⟨⟨cs'.map (ren1 s), by rw [lk_ren hs, h3]; rfl⟩, h4⟩
  · rw [lk_ren hs] at hr
    obtain ⟨c, h1, h2⟩ := Option.map_eq_some_iff.1 hr
    cases c with
    | box => cases h2
    | row L0 sz0 e0 =>
      simp only [renB, Blk.row.injEq] at h2
      obtain ⟨rfl, rfl, rfl⟩ := h2
      obtain ⟨L', h3, h4, h5⟩ := h.row _ _ _ _ h1
      exact ⟨L'.map (renA s), by rw [lk_ren hs, h3]; rfl, by simpa using h4, fun hl => h5 (by simpa using hl)⟩
  · rw [live_ren hs] at hl ⊢
    exact h.cell b o v hl hc
theorem MW.ren (h : MW W0 w0 κ0 m0 κ m w) : MW W0 w0 (renK s κ0) (renM s m0) (renK s κ) (renM s m) w := by
  refine ⟨MemOk.ren hs h.mem, fun b hb => h.low b (by rw [live_ren hs] at hb; exact hb), Pres.ren hs h.pres, ⟨h.ext.os, h.ext.tape, h.ext.output, h.ext.size, fun b hb hl => h.ext.block b hb fun ho => hl ((own_ren hs).2 ho)⟩, fun id b h1 h2 => ?_, h.hS⟩
  rw [lk_ren hs] at h1
  exact (h.new (s id) b (by simpa using h1) h2).imp (own_ren hs).2 fun h => h

/-- A contract under other names. -/
theorem FunC.ren {P : Program} {f : FuncId} {args : List PV} {Φ : PV → Mem → Prop} (h : FunC P W0 f args m Φ) : FunC P W0 f (args.map (renP s)) (renM s m) (fun r m' => Φ (renP s r) (renM s m')) := by
  intro κ w vs hB hm hr
  have hm' := MW.ren hs hm
  rw [renM_renM hs] at hm'
  have hr' := all2_ren hs hr
  rw [renM_renM hs, List.map_map, map_id' (renP_renP hs)] at hr'
  refine (h _ w vs hB hm' hr').mono ?_
  rintro e w' ⟨v, r, m', κ', rfl, h1, h2, h3⟩
  have h2' := MW.ren hs h2
  rw [renK_renK hs] at h2'
  exact ⟨v, renP s r, renM s m', renK s κ', rfl, by show Φ (renP s (renP s r)) (renM s (renM s m')); rw [renP_renP hs, renM_renM hs]; exact h1, h2', Rep.ren hs h3⟩
end

def renXB (s : Nat → Nat) : XB → XB
  | .box cs => .box (cs.map (ren1 s))
  | .row L sz e => .row L sz e
  | .rowP L e => .rowP (L.map (renA s)) e
  | .dead sz e => .dead sz e
def renX (s : Nat → Nat) : XM → XM
  | [] => []
  | (k, b) :: l => (s k, renXB s b) :: renX s l
theorem renX_er {s : Nat → Nat} : ∀ {m : XM}, er (renX s m) = renM s (er m)
  | [] => rfl
  | (k, b) :: l => by
    simp only [renX, er, renM, renX_er (m := l)]
    congr 2
    cases b with
    | box cs => rfl
    | row L sz e => simp only [renXB, XB.er, renB, List.map_map]; congr 1
    | rowP L e => rfl
    | dead sz e =>
      simp only [renXB, XB.er, renB]
      rw [deadL_map]
      cases sz with
      | zero => rfl
      | succ n =>
        show PV.agg ((List.replicate (n + 1) PV.nil).map (ren1 s)) = _
        rw [List.map_replicate]; rfl

/-- Two names change places. -/
def sw (a b i : Nat) : Nat := match Nat.beq i a with
  | true => b
  | false => match Nat.beq i b with
    | true => a
    | false => i
theorem sw_sw (a b i : Nat) : sw a b (sw a b i) = i := by
  have hb : ∀ x y : Nat, Nat.beq x y = decide (x = y) := fun x y => by
    cases h : Nat.beq x y with
    | true => rw [Nat.eq_of_beq_eq_true h]; simp
    | false => have := Nat.ne_of_beq_eq_false h; simp [this]
  unfold sw
  simp only [hb]
  by_cases h1 : i = a
  · subst h1
    simp
    by_cases h2 : b = i
    · simp [h2]
    · simp [h2]
  · by_cases h2 : i = b
    · subst h2; simp [h1]
    · simp [h1, h2]

/-- A contract that tells of something: what is known of it, the result, the memory. -/
def FunW (P : Program) (W0 : World) (f : FuncId) (vs : List PV) (mp : XM) {α : Type} (ok : α → Prop) (R : α → PV) (M : α → XM) : Prop := FunX P W0 f vs mp fun r mx => ∃ a, ok a ∧ r = R a ∧ mx = M a

theorem FunW.swp {P : Program} {W0 : World} {f : FuncId} {vs : List PV} {mp : XM} {α : Type} {ok : α → Prop} {R : α → PV} {M : α → XM} (h : FunW P W0 f vs mp ok R M) (a b : Nat) :
    FunW P W0 f (vs.map (renP (sw a b))) (renX (sw a b) mp) ok (fun x => renP (sw a b) (R x)) (fun x => renX (sw a b) (M x)) := by
  have := FunC.ren (s := sw a b) (sw_sw a b) h
  unfold FunW FunX
  rw [renX_er]
  intro κ w vs hB hm hr
  refine (this κ w vs hB hm hr).mono ?_
  rintro e w' ⟨v, r, m', κ', rfl, ⟨mx, h1, x, h2, h3, rfl⟩, h4, h5⟩
  refine ⟨v, r, m', κ', rfl, ⟨renX (sw a b) (M x), ?_, x, h2, ?_, rfl⟩, h4, h5⟩
  · show m' = er (renX (sw a b) (M x))
    rw [renX_er, ← h1, renM_renM (sw_sw a b)]
  · show r = renP (sw a b) (R x)
    rw [← h3, renP_renP (sw_sw a b)]

def subX (m : XM) : XM → Prop
  | [] => True
  | (id, b) :: l => (lkX m id = some b) ∧ subX m l
theorem subX_sp {m : XM} : ∀ {l : XM}, subX m l → ∀ id b, lk (er l) id = some b → lk (er m) id = some b
  | [], _, id, b, h => by cases h
  | (k, x) :: l, h, id, b, hl => by
    rw [er, lk_cons] at hl
    split at hl
    · rename_i e; subst e; cases hl; rw [lk_er, h.1]; rfl
    · exact subX_sp h.2 id b hl
def inMX (m : XM) : Bool := m.all fun p => inBX m p.2
theorem inMX_sp {m : XM} (h : inMX m = true) : inMem (er m) = true := by
  have key : ∀ l : XM, (∀ p ∈ l, inBX m p.2 = true) → (er l).all (fun p => inB (er m) p.2) = true := by
    intro l
    induction l with
    | nil => intro _; rfl
    | cons p l ih =>
      intro hp
      simp only [er, List.all_cons, Bool.and_eq_true]
      exact ⟨inBX_sp (hp p (by simp)), ih fun q hq => hp q (by simp [hq])⟩
  exact key m (List.all_eq_true.1 h)
def newX (mp m : XM) : XM → Bool
  | [] => true
  | (k, _) :: l => match lkX mp k with
    | some _ => newX mp m l
    | none => match lkX m k with
      | none => newX mp m l
      | some _ => false
theorem newX_sp {mp m : XM} : ∀ {l : XM}, newX mp m l = true → ∀ id, (lkX l id).isSome = true → (lkX mp id).isSome = true ∨ lkX m id = none
  | [], _, id, h => by cases h
  | (k, x) :: l, h, id, hl => by
    rw [lkX] at hl
    rw [newX] at h
    cases hb : Nat.beq id k with
    | true =>
      have e := Nat.eq_of_beq_eq_true hb
      subst e
      cases h1 : lkX mp id with
      | some _ => exact .inl rfl
      | none =>
        rw [h1] at h
        cases h2 : lkX m id with
        | none => exact .inr rfl
        | some _ => rw [h2] at h; cases h
    | false =>
      rw [hb] at hl
      refine newX_sp (l := l) ?_ id hl
      split at h
      · exact h
      · split at h
        · exact h
        · cases h

/-- A call by such a contract. -/
theorem oW {P : Program} {W0 : World} {f : FuncId} {vs vs' : List PV} {m mp : XM} {K : PV → XM → Prop} {α : Type} {ok : α → Prop} {R : α → PV} {M : α → XM} (h : FunW P W0 f vs' mp ok R M) (hv : vs = vs') (hsub : subX m mp) (h1 : inMX mp = true)
    (h2 : vs.all (inPX mp) = true) (h0 : ∃ a, ok a) (k : ∀ a, ok a → newX mp m (M a) = true ∧ K (R a) (mergeX m (M a))) : OpnX P W0 f vs m K := by
  subst hv
  refine ⟨mp, _, subX_sp hsub, inMX_sp h1, ?_, h, ?_, ?_⟩
  · rw [← h2]; congr 1; funext x; exact inPX_sp.symm
  · obtain ⟨a, ha⟩ := h0; exact ⟨_, _, a, ha, rfl, rfl⟩
  · rintro r mx ⟨a, ha, rfl, rfl⟩
    obtain ⟨h3, h4⟩ := k a ha
    exact ⟨newX_sp h3, h4⟩

/-- From the text of a function to such a contract. -/
theorem funW {P : Program} {W0 : World} {f : FuncId} {c : XC} {on : List FuncId} {ars : List AR} {n : Nat} {args : List PV} {m : XM} {α : Type} {ok : α → Prop} {R : α → PV} {M : α → XM} {F : Fr} {k0 : List Nat} (hm : P.follows .mixedOrders = true)
    (hc : compF P on f = some (c.ac, ars, n)) (hn : args.length ≤ n) (hF : argF 0 args = F) (hk : m.map (·.1) = k0)
    (h : (∀ x ∈ args, goodP x) → xwp P W0 k0 c (finX k0 ars fun r mx => ∃ a, ok a ∧ r = R a ∧ mx = M a) (fun _ _ _ => False) (finX k0 ars fun r mx => ∃ a, ok a ∧ r = R a ∧ mx = M a) F m) : FunW P W0 f args m ok R M := funX hm hc hn hF hk h

/-- What a closed contract tells, as such. -/
theorem Fn.funW {P : Program} {W0 : World} {f : FuncId} {args : List CV} {r : CV} (h : Fn P W0 f args (.c r) []) : FunW P W0 f (args.map .c) [] (fun _ : Unit => True) (fun _ => .c r) (fun _ => []) := by
  intro κ w vs hB hm hr
  refine (h κ w vs hB hm hr).mono ?_
  rintro e w' ⟨v, x, m', κ', rfl, ⟨rfl, rfl⟩, h3, h4⟩
  exact ⟨v, _, _, κ', rfl, ⟨[], rfl, (), trivial, rfl, rfl⟩, h3, h4⟩
theorem FunW.imp {P : Program} {W0 : World} {f : FuncId} {vs : List PV} {mp : XM} {α β : Type} {ok : α → Prop} {R : α → PV} {M : α → XM} {ok' : β → Prop} {R' : β → PV} {M' : β → XM} (h : FunW P W0 f vs mp ok R M)
    (g : α → β) (hg : ∀ a, ok a → ok' (g a) ∧ R a = R' (g a) ∧ M a = M' (g a)) : FunW P W0 f vs mp ok' R' M' := by
  intro κ w vs hB hm hr
  refine (h κ w vs hB hm hr).mono ?_
  rintro e w' ⟨v, x, m', κ', rfl, ⟨mx, h1, a, h2, rfl, rfl⟩, h3, h4⟩
  obtain ⟨g1, g2, g3⟩ := hg a h2
  exact ⟨v, _, m', κ', rfl, ⟨M a, h1, g a, g1, g2, g3⟩, h3, h4⟩

/- Part 32. -/
theorem sw_fix {a b i : Nat} (h1 : i ≠ a) (h2 : i ≠ b) : sw a b i = i := by
  unfold sw
  cases h : Nat.beq i a with
  | true => exact absurd (Nat.eq_of_beq_eq_true h) h1
  | false =>
    cases h' : Nat.beq i b with
    | true => exact absurd (Nat.eq_of_beq_eq_true h') h2
    | false => rfl

/-- Two names change places: names that were not handed in. -/
theorem KeepG.ren {W0 : World} {k0 : List Nat} {F : Fr} {m : Mem} {K : Fr → Mem → Prop} (a b : Nat) (ha : k0.contains a = false) (hb : k0.contains b = false)
    (hK : K (mapL (renP (sw a b)) F) (renM (sw a b) m)) : KeepG W0 k0 F m K := by
  intro w0 κ0 m0 N κ act w hk0 hr
  have hs := sw_sw a b
  have hfix : ∀ id, (lk m0 id).isSome = true → sw a b id = id := fun id h => by
    have := hk0 id h
    refine sw_fix ?_ ?_
    · rintro rfl; rw [ha] at this; cases this
    · rintro rfl; rw [hb] at this; cases this
  have hmw := hr.mw
  refine ⟨renK (sw a b) κ, _, _, ⟨⟨MemOk.ren hs hmw.mem, fun c hc => hmw.low c (by rw [live_ren hs] at hc; exact hc), ⟨fun id cs h => ?_, fun id L sz e h => ?_, fun c o v hl hc => ?_⟩, hmw.ext, fun id c h1 h2 => ?_, hmw.hS⟩, hr.start, hr.low0, hr.s0, hr.size, hr.defers, fun t x hx => ?_⟩, hK⟩
  · obtain ⟨⟨cs', h1⟩, h2⟩ := hmw.pres.box id cs h
    have e := hfix id (by simp [h])
    exact ⟨⟨_, by rw [lk_ren hs, e, h1]; rfl⟩, by show κ (sw a b id) = _; rw [e]; exact h2⟩
  · obtain ⟨L', h1, h2, h3⟩ := hmw.pres.row id L sz e h
    have e' := hfix id (by simp [h])
    exact ⟨_, by rw [lk_ren hs, e', h1]; rfl, by simpa using h2, fun hl => by
      have := h3 (by simpa using hl)
      refine ⟨?_, this.2⟩
      show κ (sw a b id) = _
      rw [e']; exact this.1⟩
  · rw [live_ren hs]; exact hmw.pres.cell c o v hl hc
  · rw [lk_ren hs] at h1
    exact hmw.new (sw a b id) c (by simpa using h1) h2
  · rw [lk_map, Option.map_eq_some_iff] at hx
    obtain ⟨y, hy, rfl⟩ := hx
    obtain ⟨g1, g2⟩ := hr.tmps t y hy
    exact ⟨g1, Rep.ren hs g2⟩
theorem KeepS.ren {k0 : List Nat} {z : Option Nat} {A : Fr} {m : XM} {F2 : Fr} {m2 : XM} (a b : Nat) (ha : k0.contains a = false) (hb : k0.contains b = false)
    (h : KeepX k0 z (mapL (renP (sw a b)) A) (renX (sw a b) m) F2 m2) : KeepX k0 (some 3) A m F2 m2 := fun W0 F K hA hK => by
  refine KeepG.trans (KeepG.ren a b ha hb (K := fun F' m' => KeepG W0 k0 F' m' K) ?_) fun _ _ h => h
  rw [← renX_er]
  refine keep_tr (A := mapL (renP (sw a b)) A) (fun t => ?_) h hK
  rw [lk_map, lk_map, hA t]

/-- A slice without room, as a row of the call's own that has no element yet. -/
def NR1 (id : Nat) (x y : PV) : Prop := y = x ∨ (x = .nil ∧ y = .own id 0)
def NRA (id : Nat) (x y : PV) : Prop := NR1 id x y ∨ ∃ cs ds, x = .agg cs ∧ y = .agg ds ∧ All2 (NR1 id) cs ds
def NRB (id : Nat) (x y : Blk) : Prop := y = x ∨ ∃ cs ds, x = .box cs ∧ y = .box ds ∧ All2 (NR1 id) cs ds
theorem KeepG.nil {W0 : World} {k0 : List Nat} {F F2 : Fr} {m m2 : Mem} {K : Fr → Mem → Prop} (id sz : Nat) (e : TypeId) (hid : lk m id = none) (h0 : 0 < sz)
    (hF : ∀ t x, lk F2 t = some x → ∃ y, lk F t = some y ∧ NRA id y x) (hm : ∀ i b, lk m2 i = some b → ∃ c, lk m i = some c ∧ NRB id c b) (hm' : ∀ i, (lk m i).isSome = true → (lk m2 i).isSome = true)
    (hK : K F2 ((id, .row [] sz e) :: m2)) : KeepG W0 k0 F m K := by
  intro w0 κ0 m0 N κ act w hk0 hr
  have hmw := hr.mw
  have hW := hr.big
  obtain ⟨g1, g2⟩ := hmw.noRow hW hid e h0
  have hid2 : lk m2 id = none := by
    cases hh : lk m2 id with
    | none => rfl
    | some b => obtain ⟨c, h1, _⟩ := hm id b hh; rw [hid] at h1; cases h1
  have hlk : ∀ i, i ≠ id → lk ((id, Blk.row [] sz e) :: m2) i = lk m2 i := fun i hi => by rw [lk_cons, if_neg hi]
  have hlk' : ∀ i, i ≠ id → lk ((id, Blk.row [] sz e) :: m) i = lk m i := fun i hi => by rw [lk_cons, if_neg hi]
  have hso : ∀ i, (lk ((id, Blk.row [] sz e) :: m2) i).isSome = (lk ((id, Blk.row [] sz e) :: m) i).isSome := fun i => by
    by_cases hi : i = id
    · subst hi; simp [lk_cons]
    · rw [hlk i hi, hlk' i hi]
      cases h1 : lk m2 i with
      | some b => obtain ⟨c, h2, _⟩ := hm i b h1; rw [h2]; rfl
      | none =>
        cases h2 : lk m i with
        | none => rfl
        | some c => have := hm' i (by rw [h2]; rfl); rw [h1] at this; cases this
  have hown : ∀ b, Own (nameB κ id none) ((id, Blk.row [] sz e) :: m2) b ↔ Own (nameB κ id none) ((id, Blk.row [] sz e) :: m) b := fun b => by
    unfold Own; simp only [hso]
  have hlive : Live (nameB κ id none) ((id, Blk.row [] sz e) :: m2) = Live (nameB κ id none) ((id, Blk.row [] sz e) :: m) := by
    funext b; unfold Live; rw [hown b]
  have hC : ∀ {y : CV} {v : Value}, RepC w (Live (nameB κ id none) ((id, Blk.row [] sz e) :: m)) y v → RepC w (Live (nameB κ id none) ((id, Blk.row [] sz e) :: m2)) y v := fun h => by rw [hlive]; exact h
  have key1 : ∀ {x y : PV} {v : Value}, NR1 id x y → Rep1 (nameB κ id none) ((id, Blk.row [] sz e) :: m) w x v → Rep1 (nameB κ id none) ((id, Blk.row [] sz e) :: m2) w y v := by
    intro x y v hn h
    rcases hn with rfl | ⟨rfl, rfl⟩
    · cases y with
      | c x =>
        cases x with
        | agg => exact h.elim
        | tup => exact h.elim
        | sc u => exact hC (y := .sc u) h
        | row L => exact hC (y := .row L) h
      | nil => exact h
      | np => exact h
      | ptr i off =>
        obtain ⟨b, cs, h1, h2, h3⟩ := h
        have hi : i ≠ id := by rintro rfl; simp [lk_cons] at h1
        rw [hlk' i hi] at h1
        obtain ⟨c, hc⟩ := Option.isSome_iff_exists.1 (hm' i (by rw [h1]; rfl))
        obtain ⟨c', h4, h5⟩ := hm i c hc
        rw [h1] at h4; cases h4
        rcases h5 with rfl | ⟨cs', ds, h6, rfl, _⟩
        · exact ⟨b, cs, by rw [hlk i hi]; exact hc, h2, h3⟩
        · exact ⟨b, ds, by rw [hlk i hi]; exact hc, h2, h3⟩
      | own i n =>
        obtain ⟨h1, h2, L, s, e', h3, h4, h5⟩ := h
        refine ⟨h1, h2, L, s, e', ?_, h4, h5⟩
        by_cases hi : i = id
        · subst hi; simp only [lk_cons, if_true] at h3 ⊢; exact h3
        · rw [hlk' i hi] at h3
          rw [hlk i hi]
          obtain ⟨c, hc⟩ := Option.isSome_iff_exists.1 (hm' i (by rw [h3]; rfl))
          obtain ⟨c', h6, h7⟩ := hm i c hc
          rw [h3] at h6; cases h6
          rcases h7 with rfl | ⟨_, _, h8, _, _⟩
          · exact hc
          · cases h8
      | ep x off =>
        obtain ⟨b, o, vs, h1, h2, h3, hp, h4⟩ := h
        exact ⟨b, o, vs, h1, by rw [hlive]; exact h2, h3, hp, fun i y u hy hu => ⟨hC (h4 i y u hy hu).1, (h4 i y u hy hu).2⟩⟩
      | eo i n j off =>
        obtain ⟨h1, L, s, e', h3, h4, h5⟩ := h
        refine ⟨h1, L, s, e', ?_, h4, h5⟩
        by_cases hi : i = id
        · subst hi; simp only [lk_cons, if_true] at h3 ⊢; exact h3
        · rw [hlk' i hi] at h3
          rw [hlk i hi]
          obtain ⟨c, hc⟩ := Option.isSome_iff_exists.1 (hm' i (by rw [h3]; rfl))
          obtain ⟨c', h6, h7⟩ := hm i c hc
          rw [h3] at h6; cases h6
          rcases h7 with rfl | ⟨_, _, h8, _, _⟩
          · exact hc
          · cases h8
      | fn g ids =>
        obtain ⟨bs, h1, h2⟩ := h
        refine ⟨bs, h1, h2.imp fun i b ⟨⟨cs, h3⟩, h4⟩ => ⟨?_, h4⟩⟩
        have hi : i ≠ id := by rintro rfl; simp [lk_cons] at h3
        rw [hlk' i hi] at h3
        obtain ⟨c, hc⟩ := Option.isSome_iff_exists.1 (hm' i (by rw [h3]; rfl))
        obtain ⟨c', h5, h6⟩ := hm i c hc
        rw [h3] at h5; cases h5
        rcases h6 with rfl | ⟨cs', ds, h7, rfl, _⟩
        · exact ⟨_, by rw [hlk i hi]; exact hc⟩
        · exact ⟨_, by rw [hlk i hi]; exact hc⟩
      | agg => exact h.elim
      | tup => exact h.elim
    · obtain ⟨o, rfl⟩ := h
      refine ⟨⟨_, _, rfl⟩, Nat.zero_le _, [], sz, e, by simp [lk_cons], Nat.le_refl _, fun _ => ?_⟩
      simp [OwnV, nameB]
  have keyL : ∀ {cs ds : List PV} {vs : List Value}, All2 (NR1 id) cs ds → All2 (Rep1 (nameB κ id none) ((id, Blk.row [] sz e) :: m) w) cs vs → All2 (Rep1 (nameB κ id none) ((id, Blk.row [] sz e) :: m2) w) ds vs := by
    intro cs
    induction cs with
    | nil => intro ds vs h1 h2; cases ds with | nil => (cases vs with | nil => trivial | cons => exact h2.elim) | cons => exact h1.elim
    | cons c cs ih =>
      intro ds vs h1 h2
      cases ds with
      | nil => exact h1.elim
      | cons d ds => cases vs with
        | nil => exact h2.elim
        | cons v vs => exact ⟨key1 h1.1 h2.1, ih h1.2 h2.2⟩
  have all_refl : ∀ cs : List PV, All2 (NR1 id) cs cs := fun cs => by
    induction cs with
    | nil => trivial
    | cons c cs ih => exact ⟨.inl rfl, ih⟩
  have keyA : ∀ {x y : PV} {v : Value}, NRA id x y → RepA (nameB κ id none) ((id, Blk.row [] sz e) :: m) w x v → RepA (nameB κ id none) ((id, Blk.row [] sz e) :: m2) w y v := by
    intro x y v hn h
    rcases hn with hn | ⟨cs, ds, rfl, rfl, hn⟩
    · rcases hn with rfl | ⟨rfl, rfl⟩
      · cases y with
        | agg cs => obtain ⟨vs, h1, h2⟩ := h; exact ⟨vs, h1, keyL (all_refl cs) h2⟩
        | c x =>
          cases x with
          | agg cs => exact hC (y := .agg cs) h
          | sc u => exact key1 (x := .c (.sc u)) (.inl rfl) h
          | row u => exact key1 (x := .c (.row u)) (.inl rfl) h
          | tup u => exact h.elim
        | nil => exact key1 (x := .nil) (.inl rfl) h
        | np => exact key1 (x := .np) (.inl rfl) h
        | ptr a b => exact key1 (x := .ptr a b) (.inl rfl) h
        | own a b => exact key1 (x := .own a b) (.inl rfl) h
        | ep a b => exact key1 (x := .ep a b) (.inl rfl) h
        | eo a b c d => exact key1 (x := .eo a b c d) (.inl rfl) h
        | fn a b => exact key1 (x := .fn a b) (.inl rfl) h
        | tup a => exact h.elim
      · exact key1 (x := .nil) (y := .own id 0) (.inr ⟨rfl, rfl⟩) h
    · obtain ⟨vs, h1, h2⟩ := h
      exact ⟨vs, h1, keyL hn h2⟩
  have keyAL : ∀ {cs : List PV} {vs : List Value}, All2 (RepA (nameB κ id none) ((id, Blk.row [] sz e) :: m) w) cs vs → All2 (RepA (nameB κ id none) ((id, Blk.row [] sz e) :: m2) w) cs vs := fun h => h.imp fun _ _ h => keyA (.inl (.inl rfl)) h
  refine ⟨nameB κ id none, F2, _, ⟨⟨⟨fun i b hb => ?_, fun i j b hi hj => g1.mem.inj i j b (by rw [← hso]; exact hi) (by rw [← hso]; exact hj), g1.mem.sb, fun i b hi => g1.mem.sd i b (by rw [← hso]; exact hi)⟩, fun b hb => g1.low b (by rw [← hlive]; exact hb),
    ⟨fun i cs hb => ?_, fun i L s e' hb => ?_, fun b o v hl hc => by rw [hlive]; exact g1.pres.cell b o v hl hc⟩, g1.ext, fun i b hi hb => g1.new i b (by rw [← hso]; exact hi) hb, g1.hS⟩, hr.start, hr.low0, hr.s0, hr.size, hr.defers, fun t x hx => ?_⟩, hK⟩
  · by_cases hi : i = id
    · subst hi
      simp only [lk_cons, if_true, Option.some.injEq] at hb
      subst hb
      exact ⟨by simp, h0, .inl ⟨by simp [nameB], .inl rfl⟩⟩
    · rw [hlk i hi] at hb
      obtain ⟨c, h1, h2⟩ := hm i b hb
      have hB := g1.mem.blk i c (by rw [hlk' i hi]; exact h1)
      rcases h2 with rfl | ⟨cs, ds, rfl, rfl, h2⟩
      · cases b with
        | box cs => obtain ⟨g, vs, e', q1, q2, q3⟩ := hB; exact ⟨g, vs, e', q1, q2, keyL (all_refl _) q3⟩
        | row L s e' =>
          obtain ⟨q1, q2, q3⟩ := hB
          exact ⟨q1, q2, q3.imp (fun h => h) fun ⟨g, vs, rest, q4, q5, q6⟩ => ⟨g, vs, rest, q4, q5, keyL (all_refl _) q6⟩⟩
      · obtain ⟨g, vs, e', q1, q2, q3⟩ := hB
        exact ⟨g, vs, e', q1, q2, keyL h2 q3⟩
  · obtain ⟨⟨cs', h1⟩, h2⟩ := g1.pres.box i cs hb
    by_cases hi : i = id
    · subst hi; simp [lk_cons] at h1
    · rw [hlk' i hi] at h1
      obtain ⟨c, hc⟩ := Option.isSome_iff_exists.1 (hm' i (by rw [h1]; rfl))
      obtain ⟨c', h3, h4⟩ := hm i c hc
      rw [h1] at h3; cases h3
      rcases h4 with rfl | ⟨_, ds, _, rfl, _⟩
      · exact ⟨⟨_, by rw [hlk i hi]; exact hc⟩, h2⟩
      · exact ⟨⟨_, by rw [hlk i hi]; exact hc⟩, h2⟩
  · obtain ⟨L', h1, h2⟩ := g1.pres.row i L s e' hb
    refine ⟨L', ?_, h2⟩
    by_cases hi : i = id
    · subst hi; simp only [lk_cons, if_true] at h1 ⊢; exact h1
    · rw [hlk' i hi] at h1
      rw [hlk i hi]
      obtain ⟨c, hc⟩ := Option.isSome_iff_exists.1 (hm' i (by rw [h1]; rfl))
      obtain ⟨c', h3, h4⟩ := hm i c hc
      rw [h1] at h3; cases h3
      rcases h4 with rfl | ⟨_, _, h5, _, _⟩
      · exact hc
      · cases h5
  · obtain ⟨y, hy, hn⟩ := hF t x hx
    obtain ⟨q1, q2⟩ := hr.tmps t y hy
    have q2 := Rep.pres g2 q2
    refine ⟨q1, ?_⟩
    rcases hn with hn | ⟨cs, ds, rfl, rfl, hn⟩
    · rcases hn with rfl | ⟨rfl, rfl⟩
      · cases x with
        | tup cs => obtain ⟨vs, h1, h2⟩ := q2; exact ⟨vs, h1, keyAL h2⟩
        | c x =>
          cases x with
          | tup cs => exact hC (y := .tup cs) q2
          | agg cs => exact keyA (x := .c (.agg cs)) (.inl (.inl rfl)) q2
          | sc cs => exact keyA (x := .c (.sc cs)) (.inl (.inl rfl)) q2
          | row cs => exact keyA (x := .c (.row cs)) (.inl (.inl rfl)) q2
        | nil => exact keyA (x := .nil) (.inl (.inl rfl)) q2
        | np => exact keyA (x := .np) (.inl (.inl rfl)) q2
        | ptr a b => exact keyA (x := .ptr a b) (.inl (.inl rfl)) q2
        | own a b => exact keyA (x := .own a b) (.inl (.inl rfl)) q2
        | ep a b => exact keyA (x := .ep a b) (.inl (.inl rfl)) q2
        | eo a b c d => exact keyA (x := .eo a b c d) (.inl (.inl rfl)) q2
        | fn a b => exact keyA (x := .fn a b) (.inl (.inl rfl)) q2
        | agg a => exact keyA (x := .agg a) (.inl (.inl rfl)) q2
      · exact keyA (x := .nil) (y := .own id 0) (.inl (.inr ⟨rfl, rfl⟩)) q2
    · exact keyA (x := .agg cs) (y := .agg ds) (.inr ⟨cs, ds, rfl, rfl, hn⟩) q2

/- Part 33. -/
theorem KeepS.trans {k0 : List Nat} {z : Option Nat} {A F1 F2 : Fr} {m m1 m2 : XM} (h1 : KeepS k0 A m F1 m1) (h2 : KeepX k0 z F1 m1 F2 m2) : KeepX k0 (some 3) A m F2 m2 := fun W0 F K hA hK =>
  KeepG.trans (h1 W0 F (fun F' m' => F' = F1 ∧ m' = er m1) hA ⟨rfl, rfl⟩) fun F' m' ⟨e1, e2⟩ => by
    subst e1 e2
    exact keep_tr (fun _ => rfl) h2 hK
/-- One way to keep, and another one. -/
theorem KeepX.trans {k0 : List Nat} {z z' : Option Nat} {A F1 F2 : Fr} {m m1 m2 : XM} (h1 : KeepX k0 z A m F1 m1) (h2 : KeepX k0 z' F1 m1 F2 m2) : KeepX k0 (some 3) A m F2 m2 := fun W0 F K hA hK =>
  KeepG.trans (keep_tr (K := fun F' m' => F' = F1 ∧ m' = er m1) hA h1 ⟨rfl, rfl⟩) fun F' m' ⟨e1, e2⟩ => by
    subst e1 e2
    exact keep_tr (fun _ => rfl) h2 hK

theorem all2_refl {α : Type} {R : α → α → Prop} (h : ∀ a, R a a) : ∀ l : List α, All2 R l l
  | [] => trivial
  | a :: l => ⟨h a, all2_refl h l⟩
/-- In a box: a slice without room, as a row of its own that has no element yet. -/
theorem KeepS.nilB {k0 : List Nat} {A : Fr} {m : XM} (bx : Nat) (cs cs' : List PV) (id : Nat) (e : TypeId) (hb : lkX m bx = some (.box cs)) (hid : lkX m id = none) (hc : All2 (NR1 id) cs cs') :
    KeepS k0 A m A ((id, .row [] 1 e) :: updX m bx (.box cs')) := fun W0 F K hA hK => by
  have hb' : lk (er m) bx = some (.box cs) := by rw [lk_er, hb]; rfl
  have hup : er (updX m bx (.box cs')) = upd (er m) bx (.box cs') := updX_er
  refine KeepG.nil (F2 := A) (m2 := upd (er m) bx (.box cs')) id 1 e (by rw [lk_er, hid]; rfl) (by omega) (fun t x hx => ⟨x, by rw [← hA t]; exact hx, .inl (.inl rfl)⟩) (fun i b hi => ?_) (fun i hi => by rw [isSome_upd]; exact hi) ?_
  · by_cases h : i = bx
    · subst h
      rw [lk_upd_same hb'] at hi
      cases hi
      exact ⟨_, hb', .inr ⟨cs, cs', rfl, rfl, hc⟩⟩
    · rw [lk_upd_other h] at hi
      exact ⟨b, hi, .inl rfl⟩
  · have : er ((id, XB.row [] 1 e) :: updX m bx (.box cs')) = (id, .row [] 1 e) :: upd (er m) bx (.box cs') := by simp only [er, XB.er, hup]; rfl
    rw [this] at hK; exact hK
theorem nr0 {id : Nat} {x : PV} : NR1 id x x := .inl rfl
theorem nr1 {id : Nat} : NR1 id .nil (.own id 0) := .inr ⟨rfl, rfl⟩

/-- A row is given away: what is of it now is closed. -/
theorem KeepG.give {W0 : World} {k0 : List Nat} {F : Fr} {m : Mem} {K : Fr → Mem → Prop} {fs ms : List Nat} {id : Nat} {L : List PV} {sz : Nat} {e : TypeId} {C : List CV} (hl : lk m id = some (.row L sz e)) (hC : closeAs L = some C) (hlen : L.length ≤ maxLen)
    (h1 : ∀ i, k0.contains i = true → i = id ∨ ms.contains i = true) (hms : ms.contains id = false) (h2 : inMem (mapL (frB (some (id, L.length, C))) (keepL m ms)) = true)
    (h3 : ((mapL (frP (some (id, L.length, C))) (keepL F fs)).all fun p => inP (mapL (frB (some (id, L.length, C))) (keepL m ms)) p.2) = true)
    (hK : K (mapL (frP (some (id, L.length, C))) (keepL F fs)) ((id, .row (deadL sz) sz e) :: mapL (frB (some (id, L.length, C))) (keepL m ms))) : KeepG W0 k0 F m K := by
  intro w0 κ0 m0 N κ act w hk0 hr
  have hmw := hr.mw
  generalize hz : (some (id, L.length, C) : Frz) = z at *
  generalize hm1 : mapL (frB z) (keepL m ms) = m1 at *
  have hsub : ∀ i b', lk m1 i = some b' → ∃ b, lk m i = some b ∧ b' = frB z b := by
    intro i b' hb
    rw [← hm1, lk_map, Option.map_eq_some_iff] at hb
    obtain ⟨b, hb, rfl⟩ := hb
    exact ⟨b, (lk_keep hb).1, rfl⟩
  have hid1 : lk m1 id = none := by
    cases hh : lk m1 id with
    | none => rfl
    | some b =>
      rw [← hm1, lk_map, Option.map_eq_some_iff] at hh
      obtain ⟨b', hb', _⟩ := hh
      have := (lk_keep hb').2
      rw [show ms.contains id = true by simpa using this] at hms
      cases hms
  have hkeep : ∀ i, i ≠ id → k0.contains i = true → lk m1 i = (lk m i).map (frB z) := by
    intro i hi hc
    rw [← hm1, lk_map, lk_keep_some]
    rcases h1 i hc with h | h
    · exact absurd h hi
    · simpa using h
  have hnl : ∀ b, κ id = some b → ¬ Live κ m1 b := fun b hb hl' => by
    rcases hl' with hl' | ⟨j, g6, g7⟩
    · exact hmw.mem.sd id b (by simp [hl]) hb hl'
    · obtain ⟨x, hx⟩ := Option.isSome_iff_exists.1 g6
      obtain ⟨y, hy, _⟩ := hsub j x hx
      have := hmw.mem.inj id j b (by simp [hl]) (by simp [hy]) hb g7
      subst this
      rw [hid1] at hx; cases hx
  have hfr : FrOk κ m m1 w z := ⟨hsub, fun i n C' hzz => by
    rw [← hz] at hzz; cases hzz
    exact ⟨⟨L, sz, e, hl, rfl, hC⟩, hnl⟩⟩
  have hmem1 : MemOk κ m1 w := hmw.mem.fr hfr h2
  have hp : Pres κ m1 w (nameB κ id none) ((id, .row (deadL sz) sz e) :: m1) w := pres_cons hmem1 hid1 (fun b hb => by cases hb) (Below.refl _ w)
  have hne : ∀ i, i ≠ id → nameB κ id none i = κ i := fun i hi => by simp [nameB, hi]
  have hown : ∀ b, Own (nameB κ id none) ((id, .row (deadL sz) sz e) :: m1) b → Own κ m1 b := fun b hb => by
    rcases (own_cons hid1).1 hb with h | h
    · exact h
    · cases h
  have hlive : ∀ b, Live (nameB κ id none) ((id, .row (deadL sz) sz e) :: m1) b → Live κ m1 b := fun b hb => hb.imp (fun h => h) (hown b)
  have hlk : ∀ i, i ≠ id → lk ((id, Blk.row (deadL sz) sz e) :: m1) i = lk m1 i := fun i hi => by rw [lk_cons, if_neg hi]
  have hdl := deadL_len sz
  have hsz0 : 0 < sz := (hmw.mem.blk id _ hl).2.1
  refine ⟨nameB κ id none, _, _, ⟨⟨⟨fun i b hb => ?_, fun i j b hi hj g1 g2 => ?_, hmem1.sb, fun i b hi hb => ?_⟩, fun b hb => hmw.low b (hfr.live (hlive b hb)), ⟨fun i cs hb => ?_, fun i L' sz' e' hb => ?_, fun b o v hl' hc => ?_⟩, hmw.ext, fun i b hi hb => ?_, hmw.hS⟩, hr.start, hr.low0, hr.s0, hr.size, hr.defers, fun t x hx => ?_⟩, hK⟩
  · by_cases hi : i = id
    · subst hi
      rw [lk_cons, if_pos rfl] at hb; cases hb
      refine ⟨fun x hx => ?_, hsz0, .inl ⟨by simp [nameB], .inr (by omega)⟩⟩
      rw [deadL_mem hx]
      cases sz with
      | zero => omega
      | succ n => simp [deadE, PV.cells]
    · rw [hlk i hi] at hb
      have := hmem1.blk i b hb
      cases b with
      | box cs => obtain ⟨g, vs, e', q1, q2, q3⟩ := this; exact ⟨g, vs, e', by rw [hne i hi]; exact q1, q2, q3.imp fun _ _ => Rep1.pres hp⟩
      | row L' s e' =>
        obtain ⟨q1, q2, q3⟩ := this
        exact ⟨q1, q2, q3.imp (fun h => by rw [hne i hi]; exact h) fun ⟨g, vs, rest, q4, q5, q6⟩ => ⟨g, vs, rest, by rw [hne i hi]; exact q4, q5, q6.imp fun _ _ => Rep1.pres hp⟩⟩
  · have hi' : i ≠ id := by rintro rfl; simp [nameB] at g1
    have hj' : j ≠ id := by rintro rfl; simp [nameB] at g2
    rw [hlk i hi'] at hi
    rw [hlk j hj'] at hj
    rw [hne i hi'] at g1
    rw [hne j hj'] at g2
    exact hmem1.inj i j b hi hj g1 g2
  · have hi' : i ≠ id := by rintro rfl; simp [nameB] at hb
    rw [hlk i hi'] at hi
    rw [hne i hi'] at hb
    exact hmem1.sd i b hi hb
  · obtain ⟨⟨cs', g1⟩, g2⟩ := hmw.pres.box i cs hb
    have hi : i ≠ id := by rintro rfl; rw [hl] at g1; cases g1
    exact ⟨⟨_, by rw [hlk i hi, hkeep i hi (hk0 i (by simp [hb])), g1]; rfl⟩, by rw [hne i hi]; exact g2⟩
  · obtain ⟨L2, g1, g2, g3⟩ := hmw.pres.row i L' sz' e' hb
    by_cases hi : i = id
    · subst hi
      rw [hl] at g1; cases g1
      exact ⟨_, by rw [lk_cons, if_pos rfl], by omega, fun hh => by omega⟩
    · exact ⟨_, by rw [hlk i hi, hkeep i hi (hk0 i (by simp [hb])), g1]; rfl, by simpa using g2, fun hh => by rw [hne i hi]; exact g3 (by simpa using hh)⟩
  · obtain ⟨g1, g2⟩ := hmw.pres.cell b o v hl' hc
    exact ⟨fun hh => g1 (hfr.live (hlive b hh)), g2⟩
  · have hi' : i ≠ id := by rintro rfl; simp [nameB] at hb
    rw [hlk i hi'] at hi
    rw [hne i hi'] at hb
    obtain ⟨x, hx⟩ := Option.isSome_iff_exists.1 hi
    obtain ⟨y, hy, _⟩ := hsub i x hx
    exact hmw.new i b (by simp [hy]) hb
  · have hx' := hx
    rw [lk_map, Option.map_eq_some_iff] at hx
    obtain ⟨y, hy, rfl⟩ := hx
    obtain ⟨g1, g2⟩ := hr.tmps t y (lk_keep hy).1
    refine ⟨g1, Rep.pres hp (Rep.fr hmw.mem hfr ?_ g2)⟩
    have hall := List.all_eq_true.1 h3
    have hmem : ∀ (G : List (Nat × PV)) (t : Nat) (x : PV), lk G t = some x → (t, x) ∈ G := by
      intro G t x
      induction G with
      | nil => simp [lk]
      | cons p G ih =>
        obtain ⟨k, u⟩ := p
        rw [lk_cons]
        split
        · rename_i h; subst h; intro hh; cases hh; simp
        · intro hh; exact List.mem_cons_of_mem _ (ih hh)
    exact hall _ (hmem _ _ _ hx')

/-- The same, as it is run: the row id is given away, m3 is what else is kept. -/
def GiveX (k0 : List Nat) (id : Nat) (A : Fr) (m : XM) (F2 : Fr) (m3 : XM) : Prop := onv (lkX m id) fun b => match b with
  | .row L _ _ => Ob (L.length ≤ 9223372036854775807) (match lkX m3 id, k0.all (fun i => Nat.beq i id || (lkX m3 i).isSome), m3.all (fun p => inBX m3 p.2), F2.all (fun p => inPX m3 p.2) with
    | none, true, true, true => KeepX.eqF A (some (id, L)) F2 (KeepX.eqM m (some (id, L)) m3 True)
    | _, _, _, _ => False)
  | _ => False
theorem KeepS.give {k0 : List Nat} {A F2 : Fr} {m m3 : XM} {L : List CV} {sz : Nat} {e : TypeId} (id : Nat) (hl : lkX m id = some (.row L sz e)) (h : GiveX k0 id A m F2 m3) : KeepS k0 A m F2 ((id, .dead sz e) :: m3) := fun W0 F K hA hK => by
  unfold GiveX at h
  obtain ⟨b, hb, h⟩ := onv_sp h
  rw [hl] at hb; cases hb
  obtain ⟨hlen, h⟩ := h
  split at h
  · rename_i hn hk hm3 hF2
    obtain ⟨f1, h⟩ := eqF_sp h
    obtain ⟨f2, _⟩ := eqM_sp h
    have eF := keepF_eq hA f1
    have eM := keepL_er f2
    have hz : toFrz (some (id, L)) = some (id, (L.map PV.c).length, L) := by simp [toFrz]
    rw [hz] at eF eM
    refine KeepG.give (fs := F2.map (·.1)) (ms := m3.map (·.1)) (id := id) (L := L.map .c) (sz := sz) (e := e) (C := L) (by rw [lk_er, hl]; rfl) (closeAs_map L) (by simpa [maxLen] using hlen) (fun i hi => ?_) ?_ ?_ ?_ ?_
    · have := (List.all_eq_true.1 hk) i (by simpa using hi)
      simp only [Bool.or_eq_true] at this
      rcases this with h | h
      · exact .inl (Nat.eq_of_beq_eq_true h)
      · right
        rw [← er_some] at h
        have key : ∀ (l : XM) (i : Nat), (lk (er l) i).isSome = true → (l.map (·.1)).contains i = true := by
          intro l i
          induction l with
          | nil => intro h; cases h
          | cons p l ih =>
            obtain ⟨k, x⟩ := p
            rw [er, lk_cons]
            split
            · rename_i h; subst h; intro _; simp
            · intro h; have := ih h; simp only [List.map_cons, List.contains_cons, this, Bool.or_true]
        exact key m3 i h
    · cases hh : (m3.map (·.1)).contains id with
      | false => rfl
      | true =>
        have key : ∀ (l : XM) (i : Nat), (l.map (·.1)).contains i = true → lkX l i ≠ none := by
          intro l i
          induction l with
          | nil => intro h; cases h
          | cons p l ih =>
            obtain ⟨k, x⟩ := p
            intro h
            rw [lkX]
            cases hb : Nat.beq i k with
            | true => simp
            | false =>
              simp only
              refine ih ?_
              simp only [List.map_cons, List.contains_cons, Bool.or_eq_true, beq_iff_eq] at h
              rcases h with h | h
              · subst h; simp at hb
              · exact h
        exact absurd hn (key m3 id hh)
    · rw [eM]; exact inMX_sp (by unfold inMX; exact hm3)
    · rw [eF, eM]
      refine List.all_eq_true.2 fun p hp => ?_
      have := (List.all_eq_true.1 hF2) p hp
      rw [inPX_sp] at this
      exact this
    · rw [eF, eM]
      exact hK
  · exact h.elim

/-- The same memory, written otherwise. -/
theorem KeepS.er {k0 : List Nat} {A F2 : Fr} {m m2 m3 : XM} (h : KeepS k0 A m F2 m2) (e : Go.Proofs.YthblflnfhdnpdaaGreatDoor.er m2 = Go.Proofs.YthblflnfhdnpdaaGreatDoor.er m3) : KeepS k0 A m F2 m3 := fun W0 F K hA hK => h W0 F K hA (by rw [e]; exact hK)
theorem KeepX.s {k0 : List Nat} {z : Option Nat} {A F2 : Fr} {m m2 : XM} (h : KeepX k0 z A m F2 m2) : KeepX k0 (some 3) A m F2 m2 := fun W0 F K hA hK => keep_tr hA h hK

theorem not_in {m : XM} {i : Nat} (h : lkX m i = none) : (m.map (·.1)).contains i = false := by
  cases hh : (m.map (·.1)).contains i with
  | false => rfl
  | true =>
    have key : ∀ (l : XM) (i : Nat), (l.map (·.1)).contains i = true → lkX l i ≠ none := by
      intro l i
      induction l with
      | nil => intro h; cases h
      | cons p l ih =>
        obtain ⟨k, x⟩ := p
        intro h
        rw [lkX]
        cases hb : Nat.beq i k with
        | true => simp
        | false =>
          simp only
          refine ih ?_
          simp only [List.map_cons, List.contains_cons, Bool.or_eq_true, beq_iff_eq] at h
          rcases h with h | h
          · subst h; simp at hb
          · exact h
    exact absurd h (key m i hh)
theorem is_in : ∀ {m : XM} {i : Nat}, (lkX m i).isSome = true → (m.map (·.1)).contains i = true
  | [], i, h => by cases h
  | (k, x) :: l, i, h => by
    rw [lkX] at h
    cases hb : Nat.beq i k with
    | true => have := Nat.eq_of_beq_eq_true hb; subst this; simp
    | false => rw [hb] at h; have := is_in (m := l) h; simp only [List.map_cons, List.contains_cons, this, Bool.or_true]

/-- The row id is the last element of the row rid: it is frozen. -/
def PushX (k0 : List Nat) (rid id : Nat) (L : List CV) (A : Fr) (m : XM) (F2 : Fr) (m3 : XM) : Prop := match lkX m3 id, lkX m3 rid with
  | none, none => match Nat.beq rid id, k0.contains id, k0.all (fun i => Nat.beq i rid || (lkX m3 i).isSome), m3.all (fun p => inBX ((rid, .box []) :: m3) p.2), F2.all (fun p => inPX ((rid, .box []) :: m3) p.2) with
    | false, false, true, true, true => KeepX.eqF A (some (id, L)) F2 (KeepX.eqM m (some (id, L)) m3 True)
    | _, _, _, _, _ => False
  | _, _ => False
theorem in_dom {m m' : XM} (h : ∀ i, (lkX m i).isSome = (lkX m' i).isSome) : (∀ v, inPX m v = inPX m' v) ∧ ∀ b, inBX m b = inBX m' b := by
  have h1 : ∀ v, in1X m v = in1X m' v := fun v => by cases v <;> simp [in1X, h]
  have h1' : in1X m = in1X m' := funext h1
  have h2 : ∀ v, inAX m v = inAX m' v := fun v => by
    cases v with
    | agg cs => simp only [inAX, h1']
    | _ => simp only [inAX, h1']
  have h2' : inAX m = inAX m' := funext h2
  refine ⟨fun v => ?_, fun b => ?_⟩
  · cases v with
    | tup cs => simp only [inPX, h2']
    | _ => simp only [inPX, h2']
  · cases b with
    | box cs => simp only [inBX, h1']
    | rowP L e => simp only [inBX, h1']
    | _ => rfl
theorem KeepS.push {k0 : List Nat} {A F2 : Fr} {m m3 : XM} {C L : List CV} {n sz : Nat} {e e' : TypeId} (rid id : Nat) (hr : lkX m rid = some (.rowP (C.map .c ++ [.own id n]) e)) (hl : lkX m id = some (.row L sz e')) (hn : L.length = n) (h : PushX k0 rid id L A m F2 m3) :
    KeepS k0 A m F2 ((rid, .row (C ++ [.row L]) 1 e) :: m3) := fun W0 F K hA hK => by
  unfold PushX at h
  split at h
  case h_2 => exact h.elim
  rename_i hn1 hn2
  split at h
  case h_2 => exact h.elim
  rename_i hne hk hk0 hm3 hF2
  obtain ⟨f1, h⟩ := eqF_sp h
  obtain ⟨f2, _⟩ := eqM_sp h
  have eF := keepF_eq hA f1
  have eM := keepL_er f2
  have hz : toFrz (some (id, L)) = some (id, (L.map PV.c).length, L) := by simp [toFrz]
  rw [hz] at eF eM
  have hrid : rid ≠ id := Nat.ne_of_beq_eq_false hne
  have eR : mapL (frB (some (id, (L.map PV.c).length, L))) (keepL (Go.Proofs.YthblflnfhdnpdaaGreatDoor.er m) (rid :: m3.map (·.1))) = Go.Proofs.YthblflnfhdnpdaaGreatDoor.er ((rid, .row (C ++ [.row L]) 1 e) :: m3) := by
    have e1 : lk (Go.Proofs.YthblflnfhdnpdaaGreatDoor.er m) rid = some (.row (C.map .c ++ [.own id n]) 1 e) := by rw [lk_er, hr]; rfl
    simp only [keepL, e1, mapL, List.map_cons] at eM ⊢
    rw [eM]
    simp only [Go.Proofs.YthblflnfhdnpdaaGreatDoor.er, XB.er, frB, List.map_append, List.map_map, List.map_cons, List.map_nil]
    have e2 : frA (some (id, (L.map PV.c).length, L)) (.own id n) = .c (.row L) := by simp [frA, fr1, hn]
    have e3 : (frA (some (id, (L.map PV.c).length, L))) ∘ PV.c = PV.c := rfl
    rw [e2, e3]
  have dom : ∀ i, (lkX ((rid, XB.box []) :: m3) i).isSome = (lkX ((rid, XB.row (C ++ [.row L]) 1 e) :: m3) i).isSome := fun i => by
    simp only [lkX]; split <;> rfl
  obtain ⟨d1, d2⟩ := in_dom dom
  refine KeepG.of (l := [⟨some id, F2.map (·.1), rid :: m3.map (·.1)⟩]) ?_
  show Tr.on k0 _ F (Go.Proofs.YthblflnfhdnpdaaGreatDoor.er m) K
  unfold Tr.on
  simp only []
  refine ⟨hk, ?_, ?_⟩
  · rw [List.contains_cons, not_in hn1]
    simp [Ne.symm hrid]
  · simp only [lk_er, hl, Option.map_some, XB.er]
    refine onv_of (closeAs_map L) ?_
    unfold Tr.go
    rw [eR, eF]
    refine ⟨?_, ?_, ?_, hK⟩
    · rw [List.all_eq_true] at hk0 ⊢
      intro i hi
      have := hk0 i hi
      rw [Bool.or_eq_true] at this
      rw [List.contains_cons]
      rcases this with h | h
      · rw [Nat.eq_of_beq_eq_true h]; simp
      · rw [is_in h, Bool.or_true]
    · refine inMX_sp ?_
      unfold inMX
      rw [List.all_cons]
      rw [Bool.and_eq_true]
      refine ⟨rfl, ?_⟩
      rw [← hm3]
      congr 1
      funext p
      exact (d2 p.2).symm
    · rw [List.all_eq_true] at hF2 ⊢
      intro p hp
      rw [← inPX_sp, ← d1]; exact hF2 p hp

end Go.Proofs.YthblflnfhdnpdaaGreatDoor

/- The abstract logic (parts 31 to 31): closed values, abstract memory, operations and regions, and that they are sound over the model; no condition. -/
import Derived.Test.YtjndfhgdlclooaaGreatDoorKa2
namespace Go.Proofs.YtjndfhgdlclooaaGreatDoor
set_option linter.unusedSimpArgs false
set_option linter.unusedVariables false
open Go Go.RowKit

/- Part 31. -/
section
variable (s : Nat → Nat)
def ren1 : PV → PV
  | .ptr id off => .ptr (s id) off
  | .own id n => .own (s id) n
  | .eo id n i off => .eo (s id) n i off
  | x => x
def renA : PV → PV
  | .agg cs => .agg (cs.map (ren1 s))
  | x => ren1 s x
def renP : PV → PV
  | .tup cs => .tup (cs.map (renA s))
  | x => renA s x
def renB : Blk → Blk
  | .box cs => .box (cs.map (ren1 s))
  | .row L sz e => .row (L.map (renA s)) sz e
def renM : Mem → Mem
  | [] => []
  | (k, b) :: l => (s k, renB s b) :: renM l
def renK (κ : Kap) : Kap := ⟨fun i => κ (s i), κ.S⟩
end

section
variable {s : Nat → Nat} (hs : ∀ i, s (s i) = i)
include hs
omit hs in
theorem map_id' {α : Type} {f : α → α} (h : ∀ a, f (f a) = a) (l : List α) : l.map (f ∘ f) = l := by
  have : f ∘ f = id := by funext a; exact h a
  rw [this, List.map_id]
theorem ren1_ren1 (x : PV) : ren1 s (ren1 s x) = x := by cases x <;> simp [ren1, hs]
theorem renA_renA (x : PV) : renA s (renA s x) = x := by
  have h1 := ren1_ren1 hs
  cases x with
  | agg cs => simp only [renA, List.map_map]; congr 1; exact map_id' h1 cs
  | ptr a b => exact h1 (.ptr a b)
  | own a b => exact h1 (.own a b)
  | eo a b c d => exact h1 (.eo a b c d)
  | _ => rfl
theorem renP_renP (x : PV) : renP s (renP s x) = x := by
  have h1 := renA_renA hs
  cases x with
  | tup cs => simp only [renP, List.map_map]; congr 1; exact map_id' h1 cs
  | ptr a b => exact h1 (.ptr a b)
  | own a b => exact h1 (.own a b)
  | eo a b c d => exact h1 (.eo a b c d)
  | agg cs => exact h1 (.agg cs)
  | _ => rfl
theorem renB_renB (b : Blk) : renB s (renB s b) = b := by
  cases b with
  | box cs => simp only [renB, List.map_map]; congr 1; exact map_id' (ren1_ren1 hs) cs
  | row L sz e => simp only [renB, List.map_map]; congr 1; exact map_id' (renA_renA hs) L
theorem renM_renM : ∀ m : Mem, renM s (renM s m) = m
  | [] => rfl
  | (k, b) :: l => by simp only [renM, hs, renB_renB hs, renM_renM l]
theorem renK_renK (κ : Kap) : renK s (renK s κ) = κ := by cases κ; simp [renK, hs]
theorem lk_ren {m : Mem} {i : Nat} : lk (renM s m) i = (lk m (s i)).map (renB s) := by
  induction m with
  | nil => rfl
  | cons p m ih =>
    obtain ⟨k, b⟩ := p
    simp only [renM, lk_cons]
    by_cases h : i = s k
    · subst h; simp [hs]
    · rw [if_neg h, if_neg (fun e => h (by rw [← e, hs])), ih]
theorem lk_ren' {m : Mem} {i : Nat} : lk (renM s m) (s i) = (lk m i).map (renB s) := by rw [lk_ren hs, hs]
omit hs in
theorem cells_ren {x : PV} : (renA s x).cells = x.cells.map (ren1 s) := by
  cases x with
  | c y => simp only [renA, ren1, PV.cells, List.map_map]; exact List.map_congr_left fun _ _ => rfl
  | _ => rfl
theorem own_ren {κ : Kap} {m : Mem} {b : Nat} : Own (renK s κ) (renM s m) b ↔ Own κ m b := by
  constructor
  · rintro ⟨i, h1, h2⟩
    exact ⟨s i, by rw [lk_ren hs] at h1; simpa using h1, h2⟩
  · rintro ⟨i, h1, h2⟩
    exact ⟨s i, by rw [lk_ren' hs]; simpa using h1, by show κ (s (s i)) = _; rw [hs]; exact h2⟩
theorem live_ren {κ : Kap} {m : Mem} : Live (renK s κ) (renM s m) = Live κ m := by
  funext b
  exact propext (or_congr Iff.rfl (own_ren hs))

variable {κ κ' κ0 : Kap} {m m' m0 : Mem} {w w' w0 W0 : World}
theorem Rep1.ren {x : PV} {v : Value} (h : Rep1 κ m w x v) : Rep1 (renK s κ) (renM s m) w (ren1 s x) v := by
  have hk : ∀ i, (renK s κ) (s i) = κ i := fun i => by show κ (s (s i)) = _; rw [hs]
  cases x with
  | c y =>
    have e : Rep1 (renK s κ) (renM s m) w (.c y) v = Rep1 κ m w (.c y) v := by cases y <;> simp only [Rep1, live_ren hs]
    show Rep1 (renK s κ) (renM s m) w (.c y) v
    rw [e]; exact h
  | nil => exact h
  | np => exact h
  | ptr id off =>
    obtain ⟨b, cs, h1, h2, h3⟩ := h
    exact ⟨b, cs.map (ren1 s), by rw [lk_ren' hs, h1]; rfl, by rw [hk]; exact h2, h3⟩
  | own id n =>
    obtain ⟨h1, h2, L, sz, e, h3, h4, h5⟩ := h
    refine ⟨h1, h2, L.map (renA s), sz, e, by rw [lk_ren' hs, h3]; rfl, by simpa using h4, fun hl => ?_⟩
    have := h5 (by simpa using hl)
    unfold OwnV at this ⊢
    rw [hk]; exact this
  | ep y off =>
    obtain ⟨b, o, vs, h1, h2, h3⟩ := h
    refine ⟨b, o, vs, h1, by rw [live_ren hs]; exact h2, ?_⟩
    rw [live_ren hs]; exact h3
  | eo id n i off =>
    obtain ⟨h1, L, sz, e, h3, h4, h5⟩ := h
    refine ⟨h1, L.map (renA s), sz, e, by rw [lk_ren' hs, h3]; rfl, by simpa using h4, fun hl => ?_⟩
    obtain ⟨b, h6, h7⟩ := h5 (by simpa using hl)
    exact ⟨b, by rw [hk]; exact h6, h7⟩
  | agg cs => exact h.elim
  | tup cs => exact h.elim
theorem all2_ren1 : ∀ {cs : List PV} {vs : List Value}, All2 (Rep1 κ m w) cs vs → All2 (Rep1 (renK s κ) (renM s m) w) (cs.map (ren1 s)) vs
  | [], [], _ => trivial
  | _ :: _, _ :: _, h => ⟨Rep1.ren hs h.1, all2_ren1 h.2⟩
  | [], _ :: _, h => h.elim
  | _ :: _, [], h => h.elim
theorem RepA.ren {x : PV} {v : Value} (h : RepA κ m w x v) : RepA (renK s κ) (renM s m) w (renA s x) v := by
  cases x with
  | agg cs => obtain ⟨vs, h1, h2⟩ := h; exact ⟨vs, h1, all2_ren1 hs h2⟩
  | c y =>
    cases y with
    | agg cs =>
      show RepC w (Live (renK s κ) (renM s m)) (.agg cs) v
      rw [live_ren hs]; exact h
    | sc y => exact Rep1.ren hs (x := .c (.sc y)) h
    | row y => exact Rep1.ren hs (x := .c (.row y)) h
    | tup y => exact (show False from h).elim
  | ptr a b => exact Rep1.ren hs (κ := κ) (m := m) (w := w) (v := v) (x := .ptr a b) h
  | own a b => exact Rep1.ren hs (κ := κ) (m := m) (w := w) (v := v) (x := .own a b) h
  | eo a b c d => exact Rep1.ren hs (κ := κ) (m := m) (w := w) (v := v) (x := .eo a b c d) h
  | ep a b => exact Rep1.ren hs (κ := κ) (m := m) (w := w) (v := v) (x := .ep a b) h
  | nil => exact h
  | np => exact h
  | tup cs => exact Rep1.ren hs (κ := κ) (m := m) (w := w) (v := v) (x := .tup cs) h
theorem all2_renA : ∀ {cs : List PV} {vs : List Value}, All2 (RepA κ m w) cs vs → All2 (RepA (renK s κ) (renM s m) w) (cs.map (renA s)) vs
  | [], [], _ => trivial
  | _ :: _, _ :: _, h => ⟨RepA.ren hs h.1, all2_renA h.2⟩
  | [], _ :: _, h => h.elim
  | _ :: _, [], h => h.elim
theorem Rep.ren {x : PV} {v : Value} (h : Rep κ m w x v) : Rep (renK s κ) (renM s m) w (renP s x) v := by
  cases x with
  | tup cs => obtain ⟨vs, h1, h2⟩ := h; exact ⟨vs, h1, all2_renA hs h2⟩
  | c y =>
    cases y with
    | tup cs =>
      show RepC w (Live (renK s κ) (renM s m)) (.tup cs) v
      rw [live_ren hs]; exact h
    | sc y => exact RepA.ren hs (x := .c (.sc y)) h
    | row y => exact RepA.ren hs (x := .c (.row y)) h
    | agg y => exact RepA.ren hs (x := .c (.agg y)) h
  | ptr a b => exact RepA.ren hs (κ := κ) (m := m) (w := w) (v := v) (x := .ptr a b) h
  | own a b => exact RepA.ren hs (κ := κ) (m := m) (w := w) (v := v) (x := .own a b) h
  | eo a b c d => exact RepA.ren hs (κ := κ) (m := m) (w := w) (v := v) (x := .eo a b c d) h
  | ep a b => exact RepA.ren hs (κ := κ) (m := m) (w := w) (v := v) (x := .ep a b) h
  | agg cs => exact RepA.ren hs (κ := κ) (m := m) (w := w) (v := v) (x := .agg cs) h
  | nil => exact h
  | np => exact h
theorem all2_ren : ∀ {cs : List PV} {vs : List Value}, All2 (Rep κ m w) cs vs → All2 (Rep (renK s κ) (renM s m) w) (cs.map (renP s)) vs
  | [], [], _ => trivial
  | _ :: _, _ :: _, h => ⟨Rep.ren hs h.1, all2_ren h.2⟩
  | [], _ :: _, h => h.elim
  | _ :: _, [], h => h.elim

omit hs in
theorem flat_ren : ∀ {L : List PV}, (L.map (renA s)).flatMap PV.cells = (L.flatMap PV.cells).map (ren1 s)
  | [] => rfl
  | x :: L => by simp only [List.map_cons, List.flatMap_cons, List.map_append, cells_ren, flat_ren (L := L)]
theorem BlkOk.ren {id : Nat} {b : Blk} (h : BlkOk κ m w id b) : BlkOk (renK s κ) (renM s m) w (s id) (renB s b) := by
  have hk : (renK s κ) (s id) = κ id := by show κ (s (s id)) = _; rw [hs]
  cases b with
  | box cs =>
    obtain ⟨b, vs, e, h1, h2, h3⟩ := h
    exact ⟨b, vs, e, by rw [hk]; exact h1, h2, all2_ren1 hs h3⟩
  | row L sz e =>
    obtain ⟨h1, h2, h3⟩ := h
    refine ⟨fun x hx => ?_, h2, ?_⟩
    · obtain ⟨y, hy, rfl⟩ := List.mem_map.1 hx
      rw [cells_ren, List.length_map]; exact h1 y hy
    · rcases h3 with ⟨h4, h5⟩ | ⟨b, vs, rest, h4, h5, h6⟩
      · exact .inl ⟨by rw [hk]; exact h4, h5.imp (fun e => by rw [e]; rfl) fun e => by simpa using e⟩
      · exact .inr ⟨b, vs, rest, by rw [hk]; exact h4, h5, by rw [flat_ren]; exact all2_ren1 hs h6⟩
theorem MemOk.ren (h : MemOk κ m w) : MemOk (renK s κ) (renM s m) w := by
  refine ⟨fun id b hb => ?_, fun i j b hi hj h1 h2 => ?_, h.sb, fun i b hi hb => h.sd (s i) b (by rw [lk_ren hs] at hi; simpa using hi) hb⟩
  · rw [lk_ren hs] at hb
    obtain ⟨c, h1, rfl⟩ := Option.map_eq_some_iff.1 hb
    have := BlkOk.ren hs (h.blk _ _ h1)
    rw [hs] at this; exact this
  · rw [lk_ren hs] at hi hj
    have := h.inj (s i) (s j) b (by simpa using hi) (by simpa using hj) h1 h2
    rw [← hs i, this, hs]
theorem Pres.ren (h : Pres κ m w κ' m' w') : Pres (renK s κ) (renM s m) w (renK s κ') (renM s m') w' := by
  refine ⟨fun id cs hb => ?_, fun id L sz e hr => ?_, fun b o v hl hc => ?_⟩
  · rw [lk_ren hs] at hb
    obtain ⟨c, h1, h2⟩ := Option.map_eq_some_iff.1 hb
    cases c with
    | row => cases h2
    | box cs0 =>
      obtain ⟨⟨cs', h3⟩, h4⟩ := h.box _ _ h1
      exact ⟨⟨cs'.map (ren1 s), by rw [lk_ren hs, h3]; rfl⟩, h4⟩
  · rw [lk_ren hs] at hr
    obtain ⟨c, h1, h2⟩ := Option.map_eq_some_iff.1 hr
    cases c with
    | box => cases h2
    | row L0 sz0 e0 =>
      simp only [renB, Blk.row.injEq] at h2
      obtain ⟨rfl, rfl, rfl⟩ := h2
      obtain ⟨L', h3, h4, h5⟩ := h.row _ _ _ _ h1
      exact ⟨L'.map (renA s), by rw [lk_ren hs, h3]; rfl, by simpa using h4, fun hl => h5 (by simpa using hl)⟩
  · rw [live_ren hs] at hl ⊢
    exact h.cell b o v hl hc
theorem MW.ren (h : MW W0 w0 κ0 m0 κ m w) : MW W0 w0 (renK s κ0) (renM s m0) (renK s κ) (renM s m) w := by
  refine ⟨MemOk.ren hs h.mem, fun b hb => h.low b (by rw [live_ren hs] at hb; exact hb), Pres.ren hs h.pres, ⟨h.ext.os, h.ext.tape, h.ext.output, h.ext.size, fun b hb hl => h.ext.block b hb fun ho => hl ((own_ren hs).2 ho)⟩, fun id b h1 h2 => ?_, h.hS⟩
  rw [lk_ren hs] at h1
  exact (h.new (s id) b (by simpa using h1) h2).imp (own_ren hs).2 fun h => h

/-- A contract under other names. -/
theorem FunC.ren {P : Program} {f : FuncId} {args : List PV} {Φ : PV → Mem → Prop} (h : FunC P W0 f args m Φ) : FunC P W0 f (args.map (renP s)) (renM s m) (fun r m' => Φ (renP s r) (renM s m')) := by
  intro κ w vs hB hm hr
  have hm' := MW.ren hs hm
  rw [renM_renM hs] at hm'
  have hr' := all2_ren hs hr
  rw [renM_renM hs, List.map_map, map_id' (renP_renP hs)] at hr'
  refine (h _ w vs hB hm' hr').mono ?_
  rintro e w' ⟨v, r, m', κ', rfl, h1, h2, h3⟩
  have h2' := MW.ren hs h2
  rw [renK_renK hs] at h2'
  exact ⟨v, renP s r, renM s m', renK s κ', rfl, by show Φ (renP s (renP s r)) (renM s (renM s m')); rw [renP_renP hs, renM_renM hs]; exact h1, h2', Rep.ren hs h3⟩
end

def renXB (s : Nat → Nat) : XB → XB
  | .box cs => .box (cs.map (ren1 s))
  | .row L sz e => .row L sz e
  | .rowP L e => .rowP (L.map (renA s)) e
  | .dead sz e => .dead sz e
def renX (s : Nat → Nat) : XM → XM
  | [] => []
  | (k, b) :: l => (s k, renXB s b) :: renX s l
theorem renX_er {s : Nat → Nat} : ∀ {m : XM}, er (renX s m) = renM s (er m)
  | [] => rfl
  | (k, b) :: l => by
    simp only [renX, er, renM, renX_er (m := l)]
    congr 2
    cases b with
    | box cs => rfl
    | row L sz e => simp only [renXB, XB.er, renB, List.map_map]; congr 1
    | rowP L e => rfl
    | dead sz e =>
      simp only [renXB, XB.er, renB]
      rw [deadL_map]
      cases sz with
      | zero => rfl
      | succ n =>
        show PV.agg ((List.replicate (n + 1) PV.nil).map (ren1 s)) = _
        rw [List.map_replicate]; rfl

/-- Two names change places. -/
def sw (a b i : Nat) : Nat := match Nat.beq i a with
  | true => b
  | false => match Nat.beq i b with
    | true => a
    | false => i
theorem sw_sw (a b i : Nat) : sw a b (sw a b i) = i := by
  have hb : ∀ x y : Nat, Nat.beq x y = decide (x = y) := fun x y => by
    cases h : Nat.beq x y with
    | true => rw [Nat.eq_of_beq_eq_true h]; simp
    | false => have := Nat.ne_of_beq_eq_false h; simp [this]
  unfold sw
  simp only [hb]
  by_cases h1 : i = a
  · subst h1
    simp
    by_cases h2 : b = i
    · simp [h2]
    · simp [h2]
  · by_cases h2 : i = b
    · subst h2; simp [h1]
    · simp [h1, h2]

/-- A contract that tells of something: what is known of it, the result, the memory. -/
def FunW (P : Program) (W0 : World) (f : FuncId) (vs : List PV) (mp : XM) {α : Type} (ok : α → Prop) (R : α → PV) (M : α → XM) : Prop := FunX P W0 f vs mp fun r mx => ∃ a, ok a ∧ r = R a ∧ mx = M a

theorem FunW.swp {P : Program} {W0 : World} {f : FuncId} {vs : List PV} {mp : XM} {α : Type} {ok : α → Prop} {R : α → PV} {M : α → XM} (h : FunW P W0 f vs mp ok R M) (a b : Nat) :
    FunW P W0 f (vs.map (renP (sw a b))) (renX (sw a b) mp) ok (fun x => renP (sw a b) (R x)) (fun x => renX (sw a b) (M x)) := by
  have := FunC.ren (s := sw a b) (sw_sw a b) h
  unfold FunW FunX
  rw [renX_er]
  intro κ w vs hB hm hr
  refine (this κ w vs hB hm hr).mono ?_
  rintro e w' ⟨v, r, m', κ', rfl, ⟨mx, h1, x, h2, h3, rfl⟩, h4, h5⟩
  refine ⟨v, r, m', κ', rfl, ⟨renX (sw a b) (M x), ?_, x, h2, ?_, rfl⟩, h4, h5⟩
  · show m' = er (renX (sw a b) (M x))
    rw [renX_er, ← h1, renM_renM (sw_sw a b)]
  · show r = renP (sw a b) (R x)
    rw [← h3, renP_renP (sw_sw a b)]

def subX (m : XM) : XM → Prop
  | [] => True
  | (id, b) :: l => (lkX m id = some b) ∧ subX m l
theorem subX_sp {m : XM} : ∀ {l : XM}, subX m l → ∀ id b, lk (er l) id = some b → lk (er m) id = some b
  | [], _, id, b, h => by cases h
  | (k, x) :: l, h, id, b, hl => by
    rw [er, lk_cons] at hl
    split at hl
    · rename_i e; subst e; cases hl; rw [lk_er, h.1]; rfl
    · exact subX_sp h.2 id b hl
def inMX (m : XM) : Bool := m.all fun p => inBX m p.2
theorem inMX_sp {m : XM} (h : inMX m = true) : inMem (er m) = true := by
  have key : ∀ l : XM, (∀ p ∈ l, inBX m p.2 = true) → (er l).all (fun p => inB (er m) p.2) = true := by
    intro l
    induction l with
    | nil => intro _; rfl
    | cons p l ih =>
      intro hp
      simp only [er, List.all_cons, Bool.and_eq_true]
      exact ⟨inBX_sp (hp p (by simp)), ih fun q hq => hp q (by simp [hq])⟩
  exact key m (List.all_eq_true.1 h)
def newX (mp m : XM) : XM → Bool
  | [] => true
  | (k, _) :: l => match lkX mp k with
    | some _ => newX mp m l
    | none => match lkX m k with
      | none => newX mp m l
      | some _ => false
theorem newX_sp {mp m : XM} : ∀ {l : XM}, newX mp m l = true → ∀ id, (lkX l id).isSome = true → (lkX mp id).isSome = true ∨ lkX m id = none
  | [], _, id, h => by cases h
  | (k, x) :: l, h, id, hl => by
    rw [lkX] at hl
    rw [newX] at h
    cases hb : Nat.beq id k with
    | true =>
      have e := Nat.eq_of_beq_eq_true hb
      subst e
      cases h1 : lkX mp id with
      | some _ => exact .inl rfl
      | none =>
        rw [h1] at h
        cases h2 : lkX m id with
        | none => exact .inr rfl
        | some _ => rw [h2] at h; cases h
    | false =>
      rw [hb] at hl
      refine newX_sp (l := l) ?_ id hl
      split at h
      · exact h
      · split at h
        · exact h
        · cases h

/-- A call by such a contract. -/
theorem oW {P : Program} {W0 : World} {f : FuncId} {vs vs' : List PV} {m mp : XM} {K : PV → XM → Prop} {α : Type} {ok : α → Prop} {R : α → PV} {M : α → XM} (h : FunW P W0 f vs' mp ok R M) (hv : vs = vs') (hsub : subX m mp) (h1 : inMX mp = true)
    (h2 : vs.all (inPX mp) = true) (h0 : ∃ a, ok a) (k : ∀ a, ok a → newX mp m (M a) = true ∧ K (R a) (mergeX m (M a))) : OpnX P W0 f vs m K := by
  subst hv
  refine ⟨mp, _, subX_sp hsub, inMX_sp h1, ?_, h, ?_, ?_⟩
  · rw [← h2]; congr 1; funext x; exact inPX_sp.symm
  · obtain ⟨a, ha⟩ := h0; exact ⟨_, _, a, ha, rfl, rfl⟩
  · rintro r mx ⟨a, ha, rfl, rfl⟩
    obtain ⟨h3, h4⟩ := k a ha
    exact ⟨newX_sp h3, h4⟩

/-- From the text of a function to such a contract. -/
theorem funW {P : Program} {W0 : World} {f : FuncId} {c : XC} {on : List FuncId} {ars : List AR} {n : Nat} {args : List PV} {m : XM} {α : Type} {ok : α → Prop} {R : α → PV} {M : α → XM} {F : Fr} {k0 : List Nat} (hm : P.follows .mixedOrders = true)
    (hc : compF P on f = some (c.ac, ars, n)) (hn : args.length ≤ n) (hF : argF 0 args = F) (hk : m.map (·.1) = k0)
    (h : (∀ x ∈ args, goodP x) → xwp P W0 k0 c (finX k0 ars fun r mx => ∃ a, ok a ∧ r = R a ∧ mx = M a) (fun _ _ _ => False) (finX k0 ars fun r mx => ∃ a, ok a ∧ r = R a ∧ mx = M a) F m) : FunW P W0 f args m ok R M := funX hm hc hn hF hk h

/-- What a closed contract tells, as such. -/
theorem Fn.funW {P : Program} {W0 : World} {f : FuncId} {args : List CV} {r : CV} (h : Fn P W0 f args (.c r) []) : FunW P W0 f (args.map .c) [] (fun _ : Unit => True) (fun _ => .c r) (fun _ => []) := by
  intro κ w vs hB hm hr
  refine (h κ w vs hB hm hr).mono ?_
  rintro e w' ⟨v, x, m', κ', rfl, ⟨rfl, rfl⟩, h3, h4⟩
  exact ⟨v, _, _, κ', rfl, ⟨[], rfl, (), trivial, rfl, rfl⟩, h3, h4⟩
theorem FunW.imp {P : Program} {W0 : World} {f : FuncId} {vs : List PV} {mp : XM} {α β : Type} {ok : α → Prop} {R : α → PV} {M : α → XM} {ok' : β → Prop} {R' : β → PV} {M' : β → XM} (h : FunW P W0 f vs mp ok R M)
    (g : α → β) (hg : ∀ a, ok a → ok' (g a) ∧ R a = R' (g a) ∧ M a = M' (g a)) : FunW P W0 f vs mp ok' R' M' := by
  intro κ w vs hB hm hr
  refine (h κ w vs hB hm hr).mono ?_
  rintro e w' ⟨v, x, m', κ', rfl, ⟨mx, h1, a, h2, rfl, rfl⟩, h3, h4⟩
  obtain ⟨g1, g2, g3⟩ := hg a h2
  exact ⟨v, _, m', κ', rfl, ⟨M a, h1, g a, g1, g2, g3⟩, h3, h4⟩

end Go.Proofs.YtjndfhgdlclooaaGreatDoor

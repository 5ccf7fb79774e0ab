/- Small rules of a walk; the data of the program, typed; no condition. -/
import Derived.Test.YthblflnfhdnpdaaGreatDoorKa3
namespace Go.Proofs.YthblflnfhdnpdaaGreatDoor
set_option linter.unusedSimpArgs false
set_option linter.unusedVariables false
open Go Go.RowKit

/- Short words for the code's text. -/
abbrev AO.mv (d s : Nat) : AO := ⟨some d, .mv (.t s), none, false, []⟩
abbrev AO.ex (d : Nat) (o : AOp) : AO := ⟨some d, o, none, false, []⟩
abbrev AO.nu (o : AOp) : AO := ⟨none, o, none, false, []⟩
abbrev AO.gt (d : Nat) (o : AOp) (g : Nat) : AO := ⟨some d, o, some (g, true), false, []⟩
abbrev AO.gf (d : Nat) (o : AOp) (g : Nat) : AO := ⟨some d, o, some (g, false), false, []⟩
abbrev AO.exl (d : Nat) (o : AOp) : AO := ⟨some d, o, none, true, []⟩
abbrev AO.nul (o : AOp) : AO := ⟨none, o, none, true, []⟩
abbrev AO.gtl (d : Nat) (o : AOp) (g : Nat) : AO := ⟨some d, o, some (g, true), true, []⟩
abbrev AO.gfl (d : Nat) (o : AOp) (g : Nat) : AO := ⟨some d, o, some (g, false), true, []⟩
abbrev AO.exo (tn : List Nat) (d : Nat) (o : AOp) : AO := ⟨some d, o, none, true, tn⟩
abbrev AO.nuo (tn : List Nat) (o : AOp) : AO := ⟨none, o, none, true, tn⟩
abbrev AO.gto (tn : List Nat) (d : Nat) (o : AOp) (g : Nat) : AO := ⟨some d, o, some (g, true), true, tn⟩
abbrev AO.gfo (tn : List Nat) (d : Nat) (o : AOp) (g : Nat) : AO := ⟨some d, o, some (g, false), true, tn⟩
abbrev AX.i (n : Int) : AX := .k (.c (.sc (.int .i64 n)))
abbrev AX.u (n : Int) : AX := .k (.c (.sc (.int .u8 n)))
abbrev AX.y : AX := .k (.c (.sc (.bool true)))
abbrev AX.n : AX := .k (.c (.sc (.bool false)))
abbrev AX.s (l : Str) : AX := .k (.c (.sc (.string ⟨⟨l⟩⟩)))
abbrev XC.s (a b : XC) : XC := .seq a b
abbrev XC.r (l : List AO) : XC := .reg true l
abbrev XC.d (l : List AO) : XC := .reg false l

/-- A test in words: what it says if it holds, and if not. -/
class BP (b : Bool) (p n : outParam Prop) : Prop where
  t : b = true → p
  f : b = false → n
instance (priority := low) (b : Bool) : BP b (b = true) (b = false) := ⟨id, id⟩
instance (a b : Int) : BP (ltI a b) (a < b) (b ≤ a) := ⟨ltI_t.1, ltI_f.1⟩
instance (a b : Int) : BP (leI a b) (a ≤ b) (b < a) := ⟨leI_t.1, leI_f.1⟩
instance (a b : Int) : BP (eqI a b) (a = b) (a ≠ b) := ⟨eqI_t.1, eqI_f.1⟩
instance (a b : Str) : BP (eqS a b) (a = b) (a ≠ b) := ⟨eqS_t.1, eqS_f.1⟩
instance (a b : Bool) : BP (eqB a b) (a = b) (a ≠ b) := ⟨eqB_t.1, eqB_f.1⟩
instance (p : Prop) [Decidable p] : BP (decide p) p (¬ p) := ⟨of_decide_eq_true, of_decide_eq_false⟩
instance (b : Bool) (p n : Prop) [h : BP b p n] : BP (!b) n p := ⟨fun e => h.f (by simpa using e), fun e => h.t (by simpa using e)⟩
theorem cP {b : Bool} {p n A B : Prop} [h : BP b p n] (h1 : p → A) (h2 : n → B) : cndX b A B := cnd_b (fun e => h1 (h.t e)) fun e => h2 (h.f e)

theorem oB {p A : Prop} (h : p) (k : A) : Ob p A := ⟨h, k⟩
section
variable {α β : Type} {f : α → β} {L : List α}
theorem lM {K : Nat → Prop} (h : K L.length) : LenX (L.map f) K := ⟨_, by simp, h⟩
theorem lmp : (L.map f).length = L.length := List.length_map _
theorem lA {K : Nat → Prop} (h : K L.length) : LenX L K := ⟨_, rfl, h⟩
theorem lE {K : Nat → Prop} {n : Nat} (e : L.length = n) (h : K n) : LenX L K := ⟨_, e, h⟩
theorem aM {k : Int} {j : Nat} {K : β → Prop} (hk : k = (j : Int)) (hj : j < L.length) (h : K (f L[j])) : AtX k (L.map f) K := ⟨j, hk, f L[j], by simp [hj], h⟩
theorem aA {k : Int} {j : Nat} {K : α → Prop} (hk : k = (j : Int)) (hj : j < L.length) (h : K L[j]) : AtX k L K := ⟨j, hk, L[j], by simp [hj], h⟩
theorem aE {k : Int} {j : Nat} {y : α} {K : α → Prop} (hk : k = (j : Int)) (hy : L[j]? = some y) (h : K y) : AtX k L K := ⟨j, hk, y, hy, h⟩
theorem nC {j : Nat} {K : Nat → Prop} (h : K j) : NatX (j : Int) K := ⟨j, rfl, h⟩
theorem nE {k : Int} {j : Nat} {K : Nat → Prop} (e : k = (j : Int)) (h : K j) : NatX k K := ⟨j, e, h⟩
/- pieces of strings and of rows -/
theorem sLo {k : Int} (l : Nat) {K : List α → Prop} (e : k = (l : Int)) (hl : l ≤ L.length) (h : K (L.drop l)) : SubX L (some k) none K :=
  ⟨l, L.length, e, rfl, hl, Nat.le_refl _, by simpa using h⟩
theorem sHi {k : Int} (l : Nat) {K : List α → Prop} (e : k = (l : Int)) (hl : l ≤ L.length) (h : K (L.take l)) : SubX L none (some k) K :=
  ⟨0, l, rfl, e, Nat.zero_le _, hl, by simpa using h⟩
theorem sBo {i k : Int} (l r : Nat) {K : List α → Prop} (e : i = (l : Int)) (e' : k = (r : Int)) (hl : l ≤ r) (hr : r ≤ L.length) (h : K ((L.take r).drop l)) : SubX L (some i) (some k) K :=
  ⟨l, r, e, e', hl, hr, h⟩
theorem sLoM {k : Int} (l : Nat) {K : List β → Prop} (e : k = (l : Int)) (hl : l ≤ L.length) (h : K ((L.drop l).map f)) : SubX (L.map f) (some k) none K :=
  sLo l e (by simpa using hl) (by simpa [List.map_drop] using h)
theorem sHiM {k : Int} (l : Nat) {K : List β → Prop} (e : k = (l : Int)) (hl : l ≤ L.length) (h : K ((L.take l).map f)) : SubX (L.map f) none (some k) K :=
  sHi l e (by simpa using hl) (by simpa [List.map_take] using h)
end
theorem zM {α : Type} {f : α → CV} {L : List α} {sz : Nat} (h : ∀ a, (f a).cells.length = sz) : AllSz sz (L.map f) := fun x hx => by
  obtain ⟨a, _, rfl⟩ := List.mem_map.1 hx; exact h a
theorem zN {sz : Nat} : AllSz sz [] := fun _ h => by cases h
theorem zC {sz : Nat} {x : CV} {L : List CV} (h : x.cells.length = sz) (hl : AllSz sz L) : AllSz sz (x :: L) := fun y hy => by
  rcases List.mem_cons.1 hy with rfl | hy
  · exact h
  · exact hl y hy

theorem oA {p A : Prop} (k : A) (h : p := by first | omega | rfl | exact zM fun _ => rfl | exact lmp | exact zC rfl zN | exact ⟨by omega, by omega⟩ | exact congrArg I (by omega)) : Ob p A := ⟨h, k⟩
theorem lF {α : Type} {x : α} {K : Nat → Prop} (h : K 1) : LenX [x] K := ⟨1, rfl, h⟩
structure Hid (Q : Prop) : Prop where
  out : Q
/-- The straight-line driver: as many steps as it can. -/
theorem dr {P Q : Prop} (q : Q) (h : Hid Q → P := by intro q; (conv => whnf); (repeat ((first | refine oA ?_ | refine lM ?_ | refine lF ?_ | refine lA ?_ | refine aM rfl (by omega) ?_ | refine aA rfl (by omega) ?_ | refine aA (j := 0) rfl (by omega) ?_ | refine nC ?_); conv => whnf)); exact q.out) : P := h ⟨q⟩
theorem dI {P Q : Prop} (h : Q) : P → Q := fun _ => h
theorem dEr {P Q : Prop} (q : Q) (h : Hid Q → P := by intro q; (conv => whnf); (repeat ((first | refine oA ?_ | refine lM ?_ | refine lF ?_ | refine lA ?_ | refine aM rfl (by omega) ?_ | refine aA rfl (by omega) ?_ | refine aA (j := 0) rfl (by omega) ?_ | refine nC ?_ | refine dI ?_); conv => whnf)); exact q.out) : P := h ⟨q⟩
theorem dz {P : Prop} (h : P := by (conv => whnf); (repeat ((first | refine oA ?_ | refine lM ?_ | refine lF ?_ | refine lA ?_ | refine aM rfl (by omega) ?_ | refine aA rfl (by omega) ?_ | refine aA (j := 0) rfl (by omega) ?_ | refine nC ?_ | refine dI ?_); conv => whnf))) : P := h

/-- A call by its contract. -/
theorem c0 {P : Program} {W0 : World} {f : FuncId} {cs : List CV} {r : PV} {own : Bool} {K : PV → XM → Prop} (hf : Fn P W0 f cs r []) (ho : (own || rlP r) = true) (k : K r []) : CallX P W0 f cs own K :=
  ⟨r, [], hf, by cases own with | true => exact .inl rfl | false => exact .inr ⟨ho, rfl⟩, k⟩

/-- A loop, by the state at its head. -/
theorem lp {k0 : List Nat} {body : (Fr → XM → Prop) → Fr → XM → Prop} {F : Fr} {m : XM} {σ : Type} (fr : σ → Fr) (mm : σ → XM) (inv : σ → Prop) (me : σ → Nat) (x0 : σ) (h0 : inv x0) (hk : KeepX k0 none F m (fr x0) (mm x0))
    (hb : ∀ x, inv x → body (fun F' m' => ∃ x', inv x' ∧ me x' < me x ∧ KeepX k0 none F' m' (fr x') (mm x')) (fr x) (mm x)) : LoopX k0 body F m :=
  ⟨σ, fr, mm, inv, me, none, none, _, ⟨x0, h0, hk⟩, fun _ _ _ h => h, hb⟩
theorem lp2 {k0 : List Nat} {body : (Fr → XM → Prop) → Fr → XM → Prop} {F : Fr} {m : XM} {α β : Type} (fr : α → β → Fr) (mm : α → β → XM) (inv : α → β → Prop) (me : α → β → Nat) (a0 : α) (b0 : β) (h0 : inv a0 b0) (hk : KeepX k0 none F m (fr a0 b0) (mm a0 b0))
    (hb : ∀ a b, inv a b → body (fun F' m' => ∃ a' b', inv a' b' ∧ me a' b' < me a b ∧ KeepX k0 none F' m' (fr a' b') (mm a' b')) (fr a b) (mm a b)) : LoopX k0 body F m :=
  ⟨α × β, fun x => fr x.1 x.2, fun x => mm x.1 x.2, fun x => inv x.1 x.2, fun x => me x.1 x.2, none, none, fun x F' m' => ∃ a' b', inv a' b' ∧ me a' b' < me x.1 x.2 ∧ KeepX k0 none F' m' (fr a' b') (mm a' b'),
    ⟨(a0, b0), h0, hk⟩, fun _ _ _ ⟨a, b, h⟩ => ⟨(a, b), h⟩, fun x h => hb x.1 x.2 h⟩
theorem lp3 {k0 : List Nat} {body : (Fr → XM → Prop) → Fr → XM → Prop} {F : Fr} {m : XM} {α β γ : Type} (fr : α → β → γ → Fr) (mm : α → β → γ → XM) (inv : α → β → γ → Prop) (me : α → β → γ → Nat) (a0 : α) (b0 : β) (c0 : γ) (h0 : inv a0 b0 c0) (hk : KeepX k0 none F m (fr a0 b0 c0) (mm a0 b0 c0))
    (hb : ∀ a b c, inv a b c → body (fun F' m' => ∃ a' b' c', inv a' b' c' ∧ me a' b' c' < me a b c ∧ KeepX k0 none F' m' (fr a' b' c') (mm a' b' c')) (fr a b c) (mm a b c)) : LoopX k0 body F m :=
  ⟨α × β × γ, fun x => fr x.1 x.2.1 x.2.2, fun x => mm x.1 x.2.1 x.2.2, fun x => inv x.1 x.2.1 x.2.2, fun x => me x.1 x.2.1 x.2.2, none, none, fun x F' m' => ∃ a' b' c', inv a' b' c' ∧ me a' b' c' < me x.1 x.2.1 x.2.2 ∧ KeepX k0 none F' m' (fr a' b' c') (mm a' b' c'),
    ⟨(a0, b0, c0), h0, hk⟩, fun _ _ _ ⟨a, b, c, h⟩ => ⟨(a, b, c), h⟩, fun x h => hb x.1 x.2.1 x.2.2 h⟩

/- The same, with a row that is frozen at the head (entry). -/
theorem lz {k0 : List Nat} {body : (Fr → XM → Prop) → Fr → XM → Prop} {F : Fr} {m : XM} {σ : Type} (z : Nat) (fr : σ → Fr) (mm : σ → XM) (inv : σ → Prop) (me : σ → Nat) (x0 : σ) (h0 : inv x0) (hk : KeepX k0 (some z) F m (fr x0) (mm x0))
    (hb : ∀ x, inv x → body (fun F' m' => ∃ x', inv x' ∧ me x' < me x ∧ KeepX k0 none F' m' (fr x') (mm x')) (fr x) (mm x)) : LoopX k0 body F m :=
  ⟨σ, fr, mm, inv, me, some z, none, _, ⟨x0, h0, hk⟩, fun _ _ _ h => h, hb⟩
theorem lz2 {k0 : List Nat} {body : (Fr → XM → Prop) → Fr → XM → Prop} {F : Fr} {m : XM} {α β : Type} (z : Nat) (fr : α → β → Fr) (mm : α → β → XM) (inv : α → β → Prop) (me : α → β → Nat) (a0 : α) (b0 : β) (h0 : inv a0 b0) (hk : KeepX k0 (some z) F m (fr a0 b0) (mm a0 b0))
    (hb : ∀ a b, inv a b → body (fun F' m' => ∃ a' b', inv a' b' ∧ me a' b' < me a b ∧ KeepX k0 none F' m' (fr a' b') (mm a' b')) (fr a b) (mm a b)) : LoopX k0 body F m :=
  ⟨α × β, fun x => fr x.1 x.2, fun x => mm x.1 x.2, fun x => inv x.1 x.2, fun x => me x.1 x.2, some z, none, fun x F' m' => ∃ a' b', inv a' b' ∧ me a' b' < me x.1 x.2 ∧ KeepX k0 none F' m' (fr a' b') (mm a' b'),
    ⟨(a0, b0), h0, hk⟩, fun _ _ _ ⟨a, b, h⟩ => ⟨(a, b), h⟩, fun x h => hb x.1 x.2 h⟩

/-- A point between two pieces, by the state there. -/
theorem cutp {k0 : List Nat} {a : (Fr → XM → Prop) → Fr → XM → Prop} {b : Fr → XM → Prop} {F : Fr} {m : XM} {σ : Type} (fr : σ → Fr) (mm : σ → XM) (inv : σ → Prop)
    (ha : a (fun F' m' => ∃ x, inv x ∧ KeepX k0 none F' m' (fr x) (mm x)) F m) (hb : ∀ x, inv x → b (fr x) (mm x)) : CutX k0 a b F m := ⟨σ, fr, mm, inv, none, _, ha, fun _ _ h => h, hb⟩
theorem cutz {k0 : List Nat} {a : (Fr → XM → Prop) → Fr → XM → Prop} {b : Fr → XM → Prop} {F : Fr} {m : XM} {σ : Type} (z : Nat) (fr : σ → Fr) (mm : σ → XM) (inv : σ → Prop)
    (ha : a (fun F' m' => ∃ x, inv x ∧ KeepX k0 (some z) F' m' (fr x) (mm x)) F m) (hb : ∀ x, inv x → b (fr x) (mm x)) : CutX k0 a b F m := ⟨σ, fr, mm, inv, some z, _, ha, fun _ _ h => h, hb⟩

theorem goodRow {α : Type} {f : α → CV} {L : List α} (h : Good (.row (L.map f))) : L.length ≤ 9223372036854775807 := by
  cases h with
  | row h _ => simpa [maxLen] using h
theorem goodRow' {α : Type} {f : α → CV} {L : List α} (h : Good (.row (L.map f))) : ∀ a ∈ L, ∀ y ∈ (f a).cells, Good y := by
  cases h with
  | row _ h => exact fun a ha => h _ (List.mem_map_of_mem ha)
theorem goodAgg {cs : List CV} (h : Good (.agg cs)) : ∀ x ∈ cs, Good x := by
  cases h with
  | agg h => exact h
theorem goodTup {cs : List CV} (h : Good (.tup cs)) : ∀ x ∈ cs, Good x := by
  cases h with
  | tup h => exact h
theorem goodS {s : Str} (h : Good (CS s)) : s.length ≤ 9223372036854775807 := by
  cases h with
  | sc h => simpa [wfv, maxLen, ByteArray.size] using h
theorem goodI {n : Int} (h : Good (CI n)) : -9223372036854775808 ≤ n ∧ n ≤ 9223372036854775807 := by
  cases h with
  | sc h => exact h

structure Ent where
  path : Str
  dir : Bool
  data : Str
deriving DecidableEq

structure Op where
  kind : Int
  path : Str
  dest : Str
  data : Str
deriving DecidableEq

structure Mark where
  path : Str
  kind : Int
  data : Str
deriving DecidableEq

structure Over where
  base : List Ent
  layers : List (List Mark)
  upper : List Mark
deriving DecidableEq

structure Lease where
  who : Int
  path : Str
  num : Int
  til : Int
deriving DecidableEq

structure Hold where
  path : Str
  has : Bool
  ent : Ent
  num : Int
  til : Int
deriving DecidableEq

structure Msg where
  kind : Int
  who : Int
  hold : Hold
deriving DecidableEq

structure Wld where
  over : Over
  clock : Int
  count : Int
  leases : List Lease
  holds : List (List Hold)
  floors : List Int
  net : List Msg
  waits : Bool
  op : Op
deriving DecidableEq

def eEnt (e : Ent) : CV := .agg [CS e.path, CB e.dir, CS e.data]
def eOp (o : Op) : CV := .agg [CI o.kind, CS o.path, CS o.dest, CS o.data]
def eMark (m : Mark) : CV := .agg [CS m.path, CI m.kind, CS m.data]
def eEnts (t : List Ent) : CV := .row (t.map eEnt)
def eMarks (l : List Mark) : CV := .row (l.map eMark)
def eMarkss (l : List (List Mark)) : CV := .row (l.map eMarks)
def eOver (o : Over) : CV := .agg [eEnts o.base, eMarkss o.layers, eMarks o.upper]
def eLease (l : Lease) : CV := .agg [CI l.who, CS l.path, CI l.num, CI l.til]
def eHold (h : Hold) : CV := .agg [CS h.path, CB h.has, CS h.ent.path, CB h.ent.dir, CS h.ent.data, CI h.num, CI h.til]
def eMsg (m : Msg) : CV := .agg [CI m.kind, CI m.who, CS m.hold.path, CB m.hold.has, CS m.hold.ent.path, CB m.hold.ent.dir, CS m.hold.ent.data, CI m.hold.num, CI m.hold.til]
def eLeases (l : List Lease) : CV := .row (l.map eLease)
def eHolds (l : List Hold) : CV := .row (l.map eHold)
def eHoldss (l : List (List Hold)) : CV := .row (l.map eHolds)
def eInts (l : List Int) : CV := .row (l.map CI)
def eMsgs (l : List Msg) : CV := .row (l.map eMsg)
def eStrs (l : List Str) : CV := .row (l.map CS)
def eCode (l : Str) : CV := .row (l.map fun b => CU b.toNat)
def eWld (w : Wld) : CV := .agg [eEnts w.over.base, eMarkss w.over.layers, eMarks w.over.upper, CI w.clock, CI w.count, eLeases w.leases, eHoldss w.holds, eInts w.floors, eMsgs w.net, CB w.waits,
  CI w.op.kind, CS w.op.path, CS w.op.dest, CS w.op.data]

theorem dT {p : Prop} [Decidable p] (h : p) : CB true = CB (decide p) := by rw [decide_eq_true h]
theorem dF {p : Prop} [Decidable p] (h : ¬ p) : CB false = CB (decide p) := by rw [decide_eq_false h]
theorem bT {b : Bool} (h : b = true) : CB true = CB b := by rw [h]
theorem bF {b : Bool} (h : b = false) : CB false = CB b := by rw [h]

theorem bqEnt (a b : Ent) : (eqS a.path b.path && (eqB a.dir b.dir && (eqS a.data b.data && true))) = decide (a = b) := by
  cases a; cases b; rw [Bool.eq_iff_iff]; simp [eqS_d, eqB_d]
theorem bqMark (a b : Mark) : (eqS a.path b.path && (eqI a.kind b.kind && (eqS a.data b.data && true))) = decide (a = b) := by
  cases a; cases b; rw [Bool.eq_iff_iff]; simp [eqS_d, eqI_d]
theorem bqOp (a b : Op) : (eqI a.kind b.kind && (eqS a.path b.path && (eqS a.dest b.dest && (eqS a.data b.data && true)))) = decide (a = b) := by
  cases a; cases b; rw [Bool.eq_iff_iff]; simp [eqS_d, eqI_d]
theorem bqLease (a b : Lease) : (eqI a.who b.who && (eqS a.path b.path && (eqI a.num b.num && (eqI a.til b.til && true)))) = decide (a = b) := by
  cases a; cases b; rw [Bool.eq_iff_iff]; simp [eqS_d, eqI_d]
theorem bqHold (a b : Hold) : (eqS a.path b.path && (eqB a.has b.has && (eqS a.ent.path b.ent.path && (eqB a.ent.dir b.ent.dir && (eqS a.ent.data b.ent.data && (eqI a.num b.num && (eqI a.til b.til && true))))))) = decide (a = b) := by
  obtain ⟨_, _, ⟨_, _, _⟩, _, _⟩ := a; obtain ⟨_, _, ⟨_, _, _⟩, _, _⟩ := b; rw [Bool.eq_iff_iff]; simp [eqS_d, eqI_d, eqB_d, and_assoc]
theorem bqMsg (a b : Msg) : (eqI a.kind b.kind && (eqI a.who b.who && (eqS a.hold.path b.hold.path && (eqB a.hold.has b.hold.has && (eqS a.hold.ent.path b.hold.ent.path && (eqB a.hold.ent.dir b.hold.ent.dir && (eqS a.hold.ent.data b.hold.ent.data && (eqI a.hold.num b.hold.num && (eqI a.hold.til b.hold.til && true))))))))) = decide (a = b) := by
  obtain ⟨_, _, ⟨_, _, ⟨_, _, _⟩, _, _⟩⟩ := a; obtain ⟨_, _, ⟨_, _, ⟨_, _, _⟩, _, _⟩⟩ := b; rw [Bool.eq_iff_iff]; simp [eqS_d, eqI_d, eqB_d, and_assoc]
theorem bqInt (a b : Int) : eqI a b = decide (a = b) := by rw [Bool.eq_iff_iff]; simp [eqI_d]
theorem bqStr (a b : Str) : eqS a b = decide (a = b) := by rw [Bool.eq_iff_iff]; simp [eqS_d]

theorem take_next {α : Type} {a b : List α} {k : Nat} (ha : k < a.length) (hb : k < b.length) (h : a.take k = b.take k) (he : a[k] = b[k]) : a.take (k + 1) = b.take (k + 1) := by
  rw [List.take_succ_eq_append_getElem ha, List.take_succ_eq_append_getElem hb, h, he]
theorem eq_of_takes {α : Type} {a b : List α} (hl : a.length = b.length) (h : a.take a.length = b.take a.length) : a = b := by
  rw [List.take_length, hl, List.take_length] at h; exact h
theorem ne_at {α : Type} {a b : List α} {k : Nat} (ha : k < a.length) (hb : k < b.length) (he : a[k] ≠ b[k]) : a ≠ b := by rintro rfl; exact he rfl
theorem ne_len {α : Type} {a b : List α} (h : a.length ≠ b.length) : a ≠ b := by rintro rfl; exact h rfl

theorem set_rep {α β : Type} {f : α → β} {t : List α} {k : Nat} {z : β} (h : k < t.length) : ((t.take k).map f ++ List.replicate (t.length - k) z).set k (f t[k]) = (t.take (k + 1)).map f ++ List.replicate (t.length - (k + 1)) z := by
  have e : t.length - k = (t.length - (k + 1)) + 1 := by omega
  have e2 : k - ((t.take k).map f).length = 0 := by simp; omega
  rw [e, List.replicate_succ, List.set_append_right _ _ (by simp; omega), List.take_succ_eq_append_getElem h, e2, List.map_append, List.append_assoc]
  rfl
theorem get_rep {α β : Type} {f : α → β} {t : List α} {k : Nat} {z : β} (h : k < t.length) : ((t.take k).map f ++ List.replicate (t.length - k) z)[k]? = some z := by
  rw [List.getElem?_append_right (by simp; omega), List.getElem?_replicate, if_pos (by simp; omega)]
theorem len_rep {α β : Type} {f : α → β} {t : List α} {k : Nat} {z : β} (h : k ≤ t.length) : ((t.take k).map f ++ List.replicate (t.length - k) z).length = t.length := by simp; omega

theorem tmn {α : Type} {f : α → CV} {t : List α} {k n e : Nat} (h : k < t.length) : XB.row ((t.take k).map f ++ [f t[k]]) n e = .row ((t.take (k + 1)).map f) n e := by
  rw [List.take_succ_eq_append_getElem h, List.map_append]; rfl

end Go.Proofs.YthblflnfhdnpdaaGreatDoor

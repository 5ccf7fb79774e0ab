/- slices.SortFunc at rows of entries and of marks: a row of the call's own becomes the ordered one; no condition. -/
import Derived.Test.YthblflnfhdnpdaaGreatDoorSh2
import Derived.Test.YthblflnfhdnpdaaGreatDoorBm1
import Derived.Test.YthblflnfhdnpdaaGreatDoorShelf
import Derived.Test.YthblflnfhdnpdaaGreatDoorQa6
namespace Go.Proofs.YthblflnfhdnpdaaGreatDoor
set_option linter.unusedSimpArgs false
set_option linter.unusedVariables false
open Go Go.RowKit

theorem flatb_get {α : Type} [Inhabited α] {enc : α → List Value} {k : Nat} (hk : ∀ x, (enc x).length = k) : ∀ (l : List α) (t : Nat), t < l.length * k → (l.flatMap enc)[t]! = (enc l[t / k]!)[t % k]!
  | [], t, h => by simp at h
  | a :: r, t, h => by
    have k0 : 0 < k := by rcases Nat.eq_zero_or_pos k with h0 | h0; · subst h0; simp at h
                          · exact h0
    rw [List.flatMap_cons]
    by_cases ht : t < k
    · rw [Nat.div_eq_of_lt ht, Nat.mod_eq_of_lt ht]
      have e : (enc a ++ r.flatMap enc)[t]? = (enc a)[t]? := List.getElem?_append_left (by rw [hk]; exact ht)
      simp only [List.getElem!_eq_getElem?_getD, e]
      simp
    · have h2 : t - k < r.length * k := by rw [List.length_cons, Nat.add_mul, Nat.one_mul] at h; omega
      have ih := flatb_get hk r (t - k) h2
      have e : (enc a ++ r.flatMap enc)[t]? = (r.flatMap enc)[t - k]? := by rw [List.getElem?_append_right (by rw [hk]; omega), hk]
      have e1 : t / k = (t - k) / k + 1 := by
        conv => lhs; rw [show t = t - k + k by omega]
        exact Nat.add_div_right _ k0
      have e2 : t % k = (t - k) % k := by
        conv => lhs; rw [show t = t - k + k by omega]
        exact Nat.add_mod_right _ _
      rw [e1, e2]
      simp only [List.getElem!_eq_getElem?_getD] at ih ⊢
      rw [e, ih]; simp
theorem flatb_len {α : Type} {enc : α → List Value} {k : Nat} (hk : ∀ x, (enc x).length = k) : ∀ (l : List α), (l.flatMap enc).length = l.length * k
  | [] => by simp
  | a :: r => by rw [List.flatMap_cons, List.length_append, flatb_len hk r, hk, List.length_cons, Nat.add_mul]; omega
theorem flatK_list {α : Type} [Inhabited α] {enc : α → List Value} {k : Nat} (hk : ∀ x, (enc x).length = k) (l : List α) : Sort.flatK enc k l.toArray = (l.flatMap enc).toArray := by
  refine Sort.ext_get! (by simp [flatb_len hk]) fun t ht => ?_
  have ht' : t < l.length * k := by simpa using ht
  rw [Sort.get_flatK _ _ _ _ (by simpa using ht')]
  have := flatb_get hk l t ht'
  simp only [List.getElem!_eq_getElem?_getD] at this
  simp [this]

theorem put_heap {w : World} {b : Nat} {F F' rest : List Value} {e : TypeId} {n : Nat} {os : Array Obj} (hb : w.heap[b]? = some (.cells (F ++ rest).toArray e (0, 0))) (hl : F'.length = F.length) :
    (Sort.grow (Sort.putRow id (Sort.ahead w n) b 0 F'.toArray) os).heap[b]? = some (.cells (F' ++ rest).toArray e (0, 0)) := by
  have hlt : b < w.heap.size := (Array.getElem?_eq_some_iff.1 hb).1
  unfold Sort.grow
  simp only
  rw [Array.getElem?_append_left (by simpa using hlt)]
  unfold Sort.putRow Sort.mapBlock
  simp only [Sort.heap_ahead, Array.getElem?_modify, if_true, hb, Option.map_some, Sort.onCells]
  congr 2
  unfold Sort.putCells
  apply Array.ext
  · simp [hl]
  · intro i h1 h2
    simp only [Array.getElem_mapIdx, List.getElem_toArray]
    simp at h1
    by_cases hi : i < F'.length
    · rw [if_pos (by simp; omega), List.getElem_append_left hi]
      simp [hi]
    · rw [if_neg (by simp; omega), List.getElem_append_right (by omega), List.getElem_append_right (by omega)]
      simp only [hl]
theorem put_other {w : World} {b k : Nat} {F' : List Value} {n : Nat} {os : Array Obj} (hk : k < w.heap.size) (hne : b ≠ k) :
    (Sort.grow (Sort.putRow id (Sort.ahead w n) b 0 F'.toArray) os).heap[k]? = w.heap[k]? := by
  unfold Sort.grow
  simp only
  rw [Array.getElem?_append_left (by simpa using hk)]
  unfold Sort.putRow Sort.mapBlock
  simp [Array.getElem?_modify, hne]

section
variable {κ : Kap} {m : Mem} {w : World} {α : Type} {enc : α → List Value} {f : α → CV}
theorem rep1_sc {v u : Value} (h : Rep1 κ m w (.c (.sc v)) u) : u = v ∧ wfv v := by
  have h : RepC w (Live κ m) (.sc v) u := h
  cases h; exact ⟨rfl, by assumption⟩
theorem rep1_scs : ∀ {vs us : List Value}, All2 (Rep1 κ m w) (vs.map fun v => .c (.sc v)) us → us = vs ∧ ∀ v ∈ vs, wfv v
  | [], [], _ => ⟨rfl, by simp⟩
  | v :: vs, u :: us, h => by
    obtain ⟨h1, h2⟩ := rep1_sc h.1
    obtain ⟨h3, h4⟩ := rep1_scs h.2
    exact ⟨by rw [h1, h3], by simpa using ⟨h2, h4⟩⟩
  | [], _ :: _, h => h.elim
  | _ :: _, [], h => h.elim
theorem scs_rep1 : ∀ {vs : List Value}, (∀ v ∈ vs, wfv v) → All2 (Rep1 κ m w) (vs.map fun v => .c (.sc v)) vs
  | [], _ => trivial
  | v :: vs, h => ⟨show RepC w (Live κ m) (.sc v) v from .sc (h v (by simp)), scs_rep1 fun u hu => h u (by simp [hu])⟩
theorem cells_flat (hf : ∀ a, f a = .agg ((enc a).map .sc)) : ∀ (X : List α), ((X.map f).map PV.c).flatMap PV.cells = (X.flatMap enc).map fun v => .c (.sc v)
  | [] => rfl
  | a :: X => by
    rw [List.map_cons, List.map_cons, List.flatMap_cons, List.flatMap_cons, List.map_append, cells_flat hf X, hf]
    simp [PV.cells, CV.cells]
end

theorem sort_fun {α : Type} [Inhabited α] {P : Program} {W0 : World} {F : FuncId} {fv : Value} {T : TypeId} {id k : Nat} {enc : α → List Value} {f : α → CV} {key : α → Str} {lt : α → α → Bool} (hf : ∀ a, f a = .agg ((enc a).map .sc)) (hk : ∀ x, (enc x).length = k) (h0 : 0 < k) (hlt : ∀ a b, lt a b = ltS (key a) (key b))
    (hnone : ∀ p cap w, Calls P F #[.slice p 0 cap, fv] w fun e w' => e = .returned (.tuple #[]) ∧ w' = w)
    (hsome : ∀ b cap (d : Array α) w, Sort.HoldsK enc k w b 0 d → b < w.heap.size → d.size < 4611686018427387904 → Calls P F #[.slice (some ⟨b, 0, none⟩) d.size cap, fv] w fun e w' =>
      e = .returned (.tuple #[]) ∧ ∃ d' n os, Sort.PermIn 0 d.size d d' ∧ Sort.SortedIn lt 0 d.size d' ∧ w' = sortWorldK enc k w b 0 n d' os)
    (X : List α) (hX : X.length ≤ 1000000) :
    FunW P W0 F [.own id X.length, .c (.sc fv)] [(id, .row (X.map f) k T)] (Sorts key X) (fun _ => .c (.tup [])) (fun S => [(id, .row (S.map f) k T)]) := by
  intro κ w vs hB hm hr
  obtain ⟨v1, v2, hvs⟩ : ∃ v1 v2, vs.toList = [v1, v2] := by
    have := All2.length hr
    match h : vs.toList with
    | [a, b] => exact ⟨a, b, rfl⟩
    | [] | [_] | _ :: _ :: _ :: _ => rw [h] at this; simp at this
  rw [hvs] at hr
  obtain ⟨r1, r2, _⟩ := hr
  have e2 : v2 = fv := by
    have r2 : RepC w (Live κ (er [(id, .row (X.map f) k T)])) (.sc fv) v2 := r2
    cases r2; rfl
  subst e2
  obtain ⟨⟨a, cap0, rfl⟩, hnm, L, sz, e, g1, g2, g3⟩ := r1
  have hl : lk (er [(id, XB.row (X.map f) k T)]) id = some (.row ((X.map f).map .c) k T) := by simp [er, lk, XB.er]
  rw [hl] at g1
  cases g1
  have gO := g3 (by simp)
  have hv : vs = #[.slice a X.length cap0, v2] := by rw [← hvs]
  subst hv
  have ret : ∀ {κ' : Kap} {m' : Mem} {w' : World}, Rep κ' m' w' (.c (.tup [])) (.tuple #[]) := fun {κ' m' w'} => show RepC w' _ (.tup []) (.tuple [].toArray) from .tup rfl (by simp)
  by_cases hXn : X = []
  · subst hXn
    refine (hnone a cap0 w).mono ?_
    rintro e w' ⟨rfl, rfl⟩
    exact ⟨_, _, _, κ, rfl, ⟨_, rfl, [], ⟨List.Perm.nil, List.Pairwise.nil⟩, rfl, rfl⟩, hm, ret⟩
  obtain ⟨hsz, _, hblk⟩ := hm.mem.blk id _ hl
  rcases hblk with ⟨_, hL⟩ | ⟨b, us, rest, hkb, hh, hall⟩
  · rcases hL with hL | hL
    · simp at hL; exact absurd hL hXn
    · simp at hL; omega
  unfold OwnV at gO
  rw [hkb] at gO
  obtain ⟨cap, arr, e', hsl, hle, hcap, hb2, hsz2⟩ := gO
  injection hsl with q1 q2 q3
  subst q1 q3
  rw [cells_flat hf] at hall
  obtain ⟨rfl, hwf⟩ := rep1_scs hall
  have hblt : b < w.heap.size := (Array.getElem?_eq_some_iff.1 hh).1
  have hfl := flatb_len hk X
  have hH : Sort.HoldsK enc k w b 0 X.toArray := by
    unfold Sort.HoldsK
    rw [flatK_list hk]
    intro j hj
    have hj' : j < (X.flatMap enc).length := by simpa using hj
    refine ⟨?_, ?_⟩
    · unfold World.cell?
      simp only [hh, Nat.zero_add]
      rw [List.getElem?_toArray, List.getElem?_append_left hj', List.getElem?_eq_getElem hj']
      have : (X.flatMap enc).toArray[j]! = (X.flatMap enc)[j] := by rw [getElem!_pos _ j (by simpa using hj')]; rfl
      exact congrArg some this.symm
    · unfold World.frozen?
      simp only [hh]; simp
  have hs := hsome b cap0 X.toArray w hH hblt (by simp; omega)
  simp only [List.size_toArray] at hs
  refine hs.mono ?_
  rintro e w' ⟨rfl, d', n, os, hp, hsd, rfl⟩
  have hds : d'.size = X.length := by simpa using hp.1
  have hperm : d'.toList.Perm X := by
    have := hp.2.2
    rw [Array.extract_eq_self_of_le (by omega)] at this
    simpa using this
  have hsorts : Sorts key X d'.toList := by
    refine ⟨hperm, ?_⟩
    rw [List.pairwise_iff_getElem]
    intro i j hi hj hij
    rw [← hlt]
    have := hsd i j (Nat.zero_le _) hij (by simpa [hds] using hj)
    simpa [getElem!_pos, show i < d'.size by simpa using hi, show j < d'.size by simpa using hj] using this
  have hwf' : ∀ v ∈ d'.toList.flatMap enc, wfv v := by
    intro v hv
    obtain ⟨x, hx, hv⟩ := List.mem_flatMap.1 hv
    exact hwf v (List.mem_flatMap.2 ⟨x, hperm.mem_iff.1 hx, hv⟩)
  have hW : sortWorldK enc k w b 0 n d' os = Sort.grow (Sort.putRow _root_.id (Sort.ahead w n) b 0 (d'.toList.flatMap enc).toArray) os := by
    unfold sortWorldK Sort.putRowK
    rw [← flatK_list hk d'.toList]
  rw [hW]
  have hl2 : (d'.toList.flatMap enc).length = (X.flatMap enc).length := by rw [flatb_len hk, flatb_len hk]; simp [hds]
  have hheap := put_heap (n := n) (os := os) hh hl2
  have e1 : upd (er [(id, XB.row (X.map f) k T)]) id (.row ((d'.toList.map f).map .c) k T) = er [(id, XB.row (d'.toList.map f) k T)] := by simp [er, XB.er, upd]
  have hturn := hm.turn (κ' := κ) (id := id) (x := .row ((d'.toList.map f).map .c) k T) (y := .row ((X.map f).map .c) k T) (w' := Sort.grow (Sort.putRow _root_.id (Sort.ahead w n) b 0 (d'.toList.flatMap enc).toArray) os)
    hB.size hl rfl rfl rfl (by simp [Sort.grow, Sort.putRow, Sort.mapBlock]) rfl (fun _ _ => rfl) (fun j hj hne => put_other hj (fun e => hne (by rw [hkb, e]))) (.inl rfl) (fun cs h => by cases h)
    (fun L sz e h => by
      cases h
      refine ⟨_, rfl, by simp [hds], fun _ => ⟨rfl, fun b' arr e' hb' ha => ?_⟩⟩
      rw [hkb] at hb'; cases hb'
      rw [hh] at ha; cases ha
      exact ⟨_, hheap, by simp [hl2]⟩)
    (fun _ => by
      refine ⟨fun x hx => ?_, h0, .inr ⟨b, _, rest, hkb, hheap, ?_⟩⟩
      · obtain ⟨y, hy, rfl⟩ := List.mem_map.1 hx
        obtain ⟨z, _, rfl⟩ := List.mem_map.1 hy
        rw [hf]; simp [PV.cells, CV.cells, hk]
      · rw [cells_flat hf]; exact scs_rep1 hwf')
  rw [e1] at hturn
  exact ⟨_, _, _, κ, rfl, ⟨_, rfl, d'.toList, hsorts, rfl, rfl⟩, hturn.1, ret⟩

instance : Inhabited Ent := ⟨⟨[], false, []⟩⟩
instance : Inhabited Mark := ⟨⟨[], 0, []⟩⟩
theorem ltS_not {x y z : Str} (h1 : ltS x y = false) (h2 : ltS y z = false) : ltS x z = false := by
  rcases ltS_f h1 with rfl | h3
  · exact h2
  · rcases ltS_f h2 with rfl | h4
    · exact ltS_asym h3
    · exact ltS_asym (ltS_trans h4 h3)
theorem swoS {α : Type} [Inhabited α] (key : α → Str) : Sort.SWO (ltOf fun x y : α => cmpS (key x) (key y)) := by
  have e : ∀ x y : α, ltOf (fun x y : α => cmpS (key x) (key y)) x y = ltS (key x) (key y) := fun x y => cmpS_lt _ _
  refine ⟨fun x => ?_, fun x y z h1 h2 => ?_, fun x y z h1 h2 => ?_⟩
  · rw [e]; exact ltS_irr _
  · rw [e] at *; exact ltS_trans h1 h2
  · rw [e] at *; exact ltS_not h1 h2
theorem sorts_ex {α : Type} {key : α → Str} {X : List α} : ∃ S, Sorts key X S := by
  refine ⟨X.mergeSort (fun a b => !ltS (key b) (key a)), List.mergeSort_perm _ _, ?_⟩
  have h := List.pairwise_mergeSort (le := fun a b : α => !ltS (key b) (key a)) (fun a b c h1 h2 => by
    simp only [Bool.not_eq_true'] at *; exact ltS_not h2 h1) (fun a b => by
    rcases ltS_tri (key a) (key b) with h | h | h
    · rw [h, ltS_irr]; rfl
    · rw [ltS_asym h]; rfl
    · rw [ltS_asym h]; simp) X
  exact h.imp fun h => by simpa using h


def c_impl_sortEnts : XC := (.r [.mv 2 0, .ex 3 (.opn 232 [(.t 2), (.k (.c (.sc (.func (.func 233) #[] #[]))))])])
theorem c_impl_sortEnts_eq : compF Go.Proofs.Tryz.prog [232] 155 = some (c_impl_sortEnts.ac, [], 4) := by kernel_rfl

theorem f_SortEnt (W0 : World) (id : Nat) (X : List Ent) (hX : X.length ≤ 1000000) : FunW Go.Proofs.Tryz.prog W0 232 [.own id X.length, .c (.sc (.func (.func 233) ⟨[]⟩ ⟨[]⟩))] [(id, .row (X.map eEnt) 3 59)] (Sorts Ent.path X) (fun _ => .c (.tup [])) (fun S => [(id, .row (S.map eEnt) 3 59)]) := by
  have eg : ∀ args w, (callFunc 233 args).run Go.Proofs.Tryz.prog w = .ok (.enter 233 args) w := enters_of Go.Proofs.Tryz.func233 (by kernel_rfl) rfl
  refine sort_fun (enc := vEnt) (lt := ltOf fun x y : Ent => cmpS x.path y.path) (fun _ => rfl) (fun _ => rfl) (by decide) (fun x y => cmpS_lt _ _) (fun p cap w => ?_) (fun b cap d w hH hb hd => ?_) X hX
  · exact AnyF.slices_SortFunc_none { Go.Proofs.Tryz.sortE with } p cap _ w
  · exact AnyQ.slices_SortFunc Go.Proofs.Tryz.sortE 3 Go.Proofs.Tryz.isAgg59 Go.Proofs.Tryz.sizeOf59 vEnt (fun _ => rfl) (fun x v hv => by simp [vEnt] at hv; rcases hv with rfl | rfl | rfl <;> rfl) (fun x y => cmpS x.path y.path) (swoS Ent.path) 233 #[] b 0 cap d w eg (fun _ _ _ _ x y => cls_sortEnts x y _) hH hb hd

theorem f_sortEnts_1 (W0 : World) (X : List Ent) (hX : X.length ≤ 1000000) : FunW Go.Proofs.Tryz.prog W0 155 [.own 1 X.length] [(1, .row (X.map eEnt) 3 59)] (Sorts Ent.path X) (fun _ => .tup []) (fun S => [(1, .row (S.map eEnt) 3 59)]) := by
  refine funW (c := c_impl_sortEnts) mixed c_impl_sortEnts_eq (by simp) rfl rfl fun hg => ?_
  refine dr ?_
  refine oW (f_SortEnt W0 1 X hX) rfl ⟨rfl, trivial⟩ rfl rfl sorts_ex fun S hS => ⟨rfl, ?_⟩
  refine dr ?_
  refine ⟨none, _, _, ?_, S, hS, rfl, rfl⟩
  refine dr ?_
  trivial


def c_impl_sortMarks : XC := (.r [.mv 2 0, .ex 3 (.opn 217 [(.t 2), (.k (.c (.sc (.func (.func 218) #[] #[]))))])])
theorem c_impl_sortMarks_eq : compF Go.Proofs.Tryz.prog [217] 148 = some (c_impl_sortMarks.ac, [], 4) := by kernel_rfl

theorem f_SortMark (W0 : World) (id : Nat) (X : List Mark) (hX : X.length ≤ 1000000) : FunW Go.Proofs.Tryz.prog W0 217 [.own id X.length, .c (.sc (.func (.func 218) ⟨[]⟩ ⟨[]⟩))] [(id, .row (X.map eMark) 3 49)] (Sorts Mark.path X) (fun _ => .c (.tup [])) (fun S => [(id, .row (S.map eMark) 3 49)]) := by
  have eg : ∀ args w, (callFunc 218 args).run Go.Proofs.Tryz.prog w = .ok (.enter 218 args) w := enters_of Go.Proofs.Tryz.func218 (by kernel_rfl) rfl
  refine sort_fun (enc := vMark) (lt := ltOf fun x y : Mark => cmpS x.path y.path) (fun _ => rfl) (fun _ => rfl) (by decide) (fun x y => cmpS_lt _ _) (fun p cap w => ?_) (fun b cap d w hH hb hd => ?_) X hX
  · exact AnyF.slices_SortFunc_none { Go.Proofs.Tryz.sortM with } p cap _ w
  · exact AnyQ.slices_SortFunc Go.Proofs.Tryz.sortM 3 Go.Proofs.Tryz.isAgg49 Go.Proofs.Tryz.sizeOf49 vMark (fun _ => rfl) (fun x v hv => by simp [vMark] at hv; rcases hv with rfl | rfl | rfl <;> rfl) (fun x y => cmpS x.path y.path) (swoS Mark.path) 218 #[] b 0 cap d w eg (fun _ _ _ _ x y => cls_sortMarks x y _) hH hb hd

theorem f_sortMarks_1 (W0 : World) (X : List Mark) (hX : X.length ≤ 1000000) : FunW Go.Proofs.Tryz.prog W0 148 [.own 1 X.length] [(1, .row (X.map eMark) 3 49)] (Sorts Mark.path X) (fun _ => .tup []) (fun S => [(1, .row (S.map eMark) 3 49)]) := by
  refine funW (c := c_impl_sortMarks) mixed c_impl_sortMarks_eq (by simp) rfl rfl fun hg => ?_
  refine dr ?_
  refine oW (f_SortMark W0 1 X hX) rfl ⟨rfl, trivial⟩ rfl rfl sorts_ex fun S hS => ⟨rfl, ?_⟩
  refine dr ?_
  refine ⟨none, _, _, ?_, S, hS, rfl, rfl⟩
  refine dr ?_
  trivial


end Go.Proofs.YthblflnfhdnpdaaGreatDoor

/- strings.Split and strings.Join: the library's contracts in the terms of the walks; no condition but one on a package variable that start-up code lays. -/
import Derived.Test.YthblflnfhdnpdaaGreatDoorPa1
import Derived.Test.YthblflnfhdnpdaaGreatDoorShelf
namespace Go.Proofs.YthblflnfhdnpdaaGreatDoor
set_option linter.unusedSimpArgs false
set_option linter.unusedVariables false
open Go Go.RowKit


theorem ix_app {c : UInt8} : ∀ {a : Str} (b : Str), c ∉ a → Lib.index (a ++ c :: b) [c] = (a.length : Int)
  | [], b, _ => by simp [Lib.index]
  | x :: a, b, h => by
    simp only [List.mem_cons, not_or] at h
    have ih := ix_app (a := a) b h.2
    rw [List.cons_append, Lib.index, ih]
    have e : [c].isPrefixOf (x :: (a ++ c :: b)) = false := by simp [List.isPrefixOf, h.1]
    rw [e]
    simp
theorem splitK_cut {c : UInt8} : ∀ (k : Nat) (s : Str), s.count c = k → Lib.splitK [c] 0 k s = cut c s
  | 0, s, h => by rw [Lib.splitK, cut_none (List.count_eq_zero.1 h)]
  | k + 1, s, h => by
    have hm : c ∈ s := List.count_pos_iff.1 (by omega)
    obtain ⟨a, b, e, ha⟩ := List.eq_append_cons_of_mem hm
    subst e
    have hb : b.count c = k := by
      rw [List.count_append, List.count_eq_zero.2 ha, List.count_cons_self] at h; omega
    rw [Lib.splitK, ix_app b ha, if_neg (by simp), cut_app b ha]
    have e1 : ((a.length : Int).toNat + 0) = a.length := by simp
    have e2 : ((a.length : Int).toNat + [c].length) = a.length + 1 := by simp
    rw [e1, e2, List.take_left, List.drop_append, List.drop_of_length_le (by omega)]
    have e3 : a.length + 1 - a.length = 1 := by omega
    rw [e3]
    simp only [List.drop_succ_cons, List.drop_zero, List.nil_append]
    rw [splitK_cut k b hb]
theorem cut_len (c : UInt8) : ∀ (s : Str), ∀ n ∈ cut c s, n.length ≤ s.length
  | [], n, h => by simp [cut] at h; simp [h]
  | b :: t, n, h => by
    have ih := cut_len c t
    unfold cut at h
    split at h
    · rcases List.mem_cons.1 h with rfl | h
      · simp
      · have := ih n h; simp; omega
    · split at h
      · simp at h; subst h; simp
      · rename_i x r hc
        rw [hc] at ih
        rcases List.mem_cons.1 h with rfl | h
        · have := ih x (by simp); simp; omega
        · have := ih n (by simp [h]); simp; omega

/-- The variable that strings.Split reads is laid. -/
def HM (W0 : World) : Prop := ∃ m, W0.cell? ⟨0, 0, none⟩ = some (.int .i64 m)

theorem f_Split (W0 : World) (hM : HM W0) (s : Str) (hs : s.length ≤ 1000000) : Fn Go.Proofs.Tryz.prog W0 252 [CS s, CS [47]] (.c (eStrs (cut 47 s))) [] := by
  intro κ w vs hB hm hr
  obtain ⟨v1, v2, hvs⟩ : ∃ v1 v2, vs.toList = [v1, v2] := by
    have := All2.length hr
    match h : vs.toList with
    | [a, b] => exact ⟨a, b, rfl⟩
    | [] | [_] | _ :: _ :: _ :: _ => rw [h] at this; simp at this
  rw [hvs] at hr
  obtain ⟨r1, r2, _⟩ := hr
  cases r1 with | sc _ => ?_
  cases r2 with | sc _ => ?_
  have hv : vs = #[.string ⟨⟨s⟩⟩, .string ⟨⟨[47]⟩⟩] := by rw [← hvs]
  subst hv
  obtain ⟨m, hc⟩ := hM
  have hc' : w.cell? ⟨0, 0, none⟩ = some (.int .i64 m) := by
    rw [cell_block (hB.block 0 (cell_lt hc))]; exact hc
  refine (Go.Proofs.Tryz.strings_Split ⟨⟨s⟩⟩ ⟨⟨[47]⟩⟩ m w (by show s.length < _; omega) hc' (by decide)).mono ?_
  rintro e w' ⟨rfl, rfl⟩
  have hcount : Lib.countB ⟨⟨s⟩⟩ ⟨⟨[47]⟩⟩ = s.count 47 := Lib.count_one 47 s
  have hsp : (Lib.splitB ⟨⟨[47]⟩⟩ 0 (Lib.countB ⟨⟨s⟩⟩ ⟨⟨[47]⟩⟩) ⟨⟨s⟩⟩).map (·.data.toList) = cut 47 s := by
    rw [Lib.splitB_data, hcount]; exact splitK_cut _ s rfl
  generalize hL : Lib.splitB ⟨⟨[47]⟩⟩ 0 (Lib.countB ⟨⟨s⟩⟩ ⟨⟨[47]⟩⟩) ⟨⟨s⟩⟩ = L at hsp
  have hlen : L.length = Lib.countB ⟨⟨s⟩⟩ ⟨⟨[47]⟩⟩ + 1 := by rw [← hL]; exact Lib.splitB_all _ (by decide) 0 _ _ rfl
  have hn : L.length = (cut 47 s).length := by rw [← hsp, List.length_map]
  have hle : s.count 47 ≤ s.length := List.count_le_length
  refine ⟨_, _, [], κ, rfl, ⟨rfl, rfl⟩, hm.below (below_alloc w _), ?_⟩
  rw [← hlen, hn]
  have hrow : (eStrs (cut 47 s)) = .row ((cut 47 s).map CS) := rfl
  have hcells : ((cut 47 s).map CS).flatMap CV.cells = (cut 47 s).map CS := by
    generalize cut 47 s = l
    induction l with
    | nil => rfl
    | cons a l ih => rw [List.map_cons, List.flatMap_cons, ih]; rfl
  have key : RepC (w.alloc (.cells (L.map Value.string).toArray 9)) (Live κ []) (.row ((cut 47 s).map CS)) (.slice (some ⟨w.heap.size, 0, none⟩) ((cut 47 s).map CS).length (cut 47 s).length) := by
    refine .row (sz := 1) (vs := L.map Value.string) (by simp; exact cut_ne 47 s) (by omega) (by simp) (by rw [← hn, hlen, hcount]; unfold maxLen; omega) ?_ ?_ ?_ ?_ ?_ ?_
    · intro h
      have := hm.mem.live_lt h
      omega
    · intro x hx
      obtain ⟨a, _, rfl⟩ := List.mem_map.1 hx
      rfl
    · rw [hcells]; simp [hn]
    · intro i x v hx hv
      rw [hcells, ← hsp, List.map_map, List.getElem?_map] at hx
      rw [List.getElem?_map] at hv
      cases hi : L[i]? with
      | none => rw [hi] at hx; cases hx
      | some y =>
        rw [hi] at hx hv
        cases hx; cases hv
        refine .sc ?_
        have hmem : y.data.toList ∈ cut 47 s := by rw [← hsp]; exact List.mem_map_of_mem (List.mem_of_getElem? hi)
        have := cut_len 47 s _ hmem
        show y.size ≤ maxLen
        have e : y.size = y.data.toList.length := by cases y; rfl
        rw [e]; unfold maxLen; omega
    · intro v hv
      obtain ⟨a, _, rfl⟩ := List.mem_map.1 hv
      rfl
    · intro j v hj
      rw [cell_of (heap_push_at w rfl _)]
      simpa using hj
  rw [List.length_map] at key
  exact key


theorem rowS_inv {w : World} {S : Nat → Prop} {l : List Str} {v : Value} (h : RepC w S (eStrs l) v) : (l = [] ∧ ∃ o cap, v = .slice o 0 cap) ∨
    ∃ b off cap, v = .slice (some ⟨b, off, none⟩) l.length cap ∧ l.length ≤ cap ∧ l ≠ [] ∧ ∀ (j : Nat) (x : Str), l[j]? = some x → w.cell? ⟨b, off + j, none⟩ = some (.string ⟨⟨x⟩⟩) := by
  unfold eStrs at h
  generalize hL : l.map CS = L at h
  cases h with
  | nil _ => left; refine ⟨?_, _, _, rfl⟩; simpa using hL
  | @row L b off cap sz vs hne _ hcap _ _ hsz hlen hr _ hc =>
    right
    subst hL
    have hcells : (l.map CS).flatMap CV.cells = l.map CS := by
      generalize l = l
      induction l with
      | nil => rfl
      | cons a l ih => rw [List.map_cons, List.flatMap_cons, ih]; rfl
    refine ⟨b, off, cap, by simp, by simpa using hcap, by simpa using hne, fun j x hx => ?_⟩
    rw [hcells] at hlen hr
    have hx' : (l.map CS)[j]? = some (CS x) := by rw [List.getElem?_map, hx]; rfl
    have hj : j < vs.length := by
      rw [← hlen, List.length_map]
      exact (List.getElem?_eq_some_iff.1 hx).1
    have hv := hr j _ vs[j] hx' (List.getElem?_eq_getElem hj)
    have : vs[j] = .string ⟨⟨x⟩⟩ := by
      generalize vs[j] = v at hv
      cases hv; rfl
    rw [hc j _ (List.getElem?_eq_getElem hj), this]

/-- The names of a path in one text, with strokes between. -/
def joinS (l : List Str) : Str := Lib.join l [47]
theorem joinS_jn : ∀ {l : List Str}, l ≠ [] → jn l = 47 :: joinS l
  | [], h => absurd rfl h
  | x :: r, _ => by
    unfold joinS
    rw [Lib.join_cons]
    have : Lib.joinTail [47] r = jn r := by
      unfold Lib.joinTail jn
      rw [List.flatMap_def]; rfl
    rw [this]; rfl
theorem joinS_len {l : List Str} : (joinS l).length ≤ (jn l).length := by
  cases l with
  | nil => simp [joinS, Lib.join_nil]
  | cons x r => rw [joinS_jn (by simp)]; simp

theorem f_Join (W0 : World) (l : List Str) (hl : (jn l).length ≤ 1000000) : Fn Go.Proofs.Tryz.prog W0 234 [eStrs l, CS [47]] (.c (CS (joinS l))) [] := by
  intro κ w vs hB hm hr
  obtain ⟨v1, v2, hvs⟩ : ∃ v1 v2, vs.toList = [v1, v2] := by
    have := All2.length hr
    match h : vs.toList with
    | [a, b] => exact ⟨a, b, rfl⟩
    | [] | [_] | _ :: _ :: _ :: _ => rw [h] at this; simp at this
  rw [hvs] at hr
  obtain ⟨r1, r2, _⟩ := hr
  cases r2 with | sc _ => ?_
  have hll : l.length ≤ (jn l).length := by
    clear r1 hl hvs
    induction l with
    | nil => simp
    | cons a l ih => simp [jn] at ih ⊢; omega
  have fin : ∀ r : Str, r.length ≤ 1000000 → Rep κ [] w (.c (CS r)) (.string ⟨⟨r⟩⟩) := fun r h => RepC.sc (by show ByteArray.size _ ≤ maxLen; unfold maxLen; show r.length ≤ _; omega)
  rcases rowS_inv r1 with ⟨rfl, o, cap, rfl⟩ | ⟨b, off, cap, rfl, hcap, hne, hcells⟩
  · have hv : vs = #[.slice o 0 cap, .string ⟨⟨[47]⟩⟩] := by rw [← hvs]
    subst hv
    refine (Go.Proofs.Tryz.strings_Join_none o cap ⟨⟨[47]⟩⟩ w).mono ?_
    rintro e w' ⟨rfl, rfl⟩
    exact ⟨_, _, [], κ, rfl, ⟨rfl, rfl⟩, hm, fin [] (by simp)⟩
  · have hv : vs = #[.slice (some ⟨b, off, none⟩) l.length cap, .string ⟨⟨[47]⟩⟩] := by rw [← hvs]
    subst hv
    have hbk : b < w.heap.size := by
      cases l with
      | nil => exact absurd rfl hne
      | cons x r => exact cell_lt (hcells 0 x rfl)
    have hmap : (l.map fun x => (⟨⟨x⟩⟩ : ByteArray)).map (·.data.toList) = l := by rw [List.map_map]; exact List.map_id l
    have hj : (Lib.join ((l.map fun x => (⟨⟨x⟩⟩ : ByteArray)).map (·.data.toList)) (⟨⟨[47]⟩⟩ : ByteArray).data.toList) = joinS l := by rw [hmap]; rfl
    have hjl := joinS_len (l := l)
    have h := Go.Proofs.Tryz.strings_Join b off cap (l.map fun x => ⟨⟨x⟩⟩) ⟨⟨[47]⟩⟩ w (fun j x hx => by
      rw [List.getElem?_map] at hx
      cases hi : l[j]? with
      | none => rw [hi] at hx; cases hx
      | some y => rw [hi] at hx; cases hx; exact hcells j y hi) hbk (by simp; omega) (by simpa using hcap) (by rw [hj]; omega)
    rw [hj, List.length_map] at h
    refine h.mono ?_
    rintro e w' ⟨rfl, hw⟩
    exact ⟨_, _, [], κ, rfl, ⟨rfl, rfl⟩, hm.below hw, RepC.sc (by show ByteArray.size _ ≤ maxLen; unfold maxLen; show (joinS l).length ≤ _; omega)⟩


end Go.Proofs.YthblflnfhdnpdaaGreatDoor

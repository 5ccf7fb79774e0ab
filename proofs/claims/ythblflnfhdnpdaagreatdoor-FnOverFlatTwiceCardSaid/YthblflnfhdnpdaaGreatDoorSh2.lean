/- slices.SortFunc at rows of entries and of marks: the library's contracts in the terms of the walks; no condition. -/
import Derived.Test.YthblflnfhdnpdaaGreatDoorQa2
import Derived.Shelf.SlSortCmp.WholeK
import Derived.Laws.Cover1
import Derived.Test.YthblflnfhdnpdaaGreatDoorProg
namespace Go.Proofs.YthblflnfhdnpdaaGreatDoor
set_option linter.unusedSimpArgs false
set_option linter.unusedVariables false
open Go Go.RowKit


theorem cmpNaN (x : ByteArray) (W : World) : Calls Go.Proofs.Tryz.prog 269 #[.string x] W fun e w' => e = .returned (.bool false) ∧ w' = W := by
  go_enter Go.Proofs.Tryz.func269, Go.Proofs.Tryz.ntmps269
  go_wp2
  go_ret
  exact ⟨rfl, rfl⟩

def cmpS (a b : Str) : Int := if ltS a b = true then -1 else if ltS b a = true then 1 else 0

theorem cmpCompare (x y : Str) (W : World) : Calls Go.Proofs.Tryz.prog 219 #[.string ⟨⟨x⟩⟩, .string ⟨⟨y⟩⟩] W fun e w' => e = .returned (.int .i64 (cmpS x y)) ∧ w' = W := by
  go_enter Go.Proofs.Tryz.func219, Go.Proofs.Tryz.ntmps219
  go_wp2_with (go_at_call 269; refine (cmpNaN _ _).mono ?_; rintro e w' ⟨rfl, rfl⟩)
  · have h : Op.bytesLess x y = true := by assumption
    go_ret
    refine ⟨?_, rfl⟩
    rw [cmpS, ltS_d, if_pos h]; rfl
  · have h : Op.bytesLess x y = false := by assumption
    have h2 : (!x == y) = true := by assumption
    go_ret
    refine ⟨?_, rfl⟩
    have h3 : ltS y x = true := by
      rcases ltS_tri x y with e | e | e
      · subst e; simp at h2
      · rw [ltS_d, h] at e; cases e
      · exact e
    rw [cmpS, ltS_d, if_neg (by simp [h]), if_pos h3]; rfl
  · have h : Op.bytesLess x y = false := by assumption
    have h2 : (!x == y) = false := by assumption
    go_ret
    refine ⟨?_, rfl⟩
    have e : x = y := by simpa using h2
    subst e
    rw [cmpS, ltS_irr]; rfl

theorem cmpS_lt (a b : Str) : decide (cmpS a b < 0) = ltS a b := by
  unfold cmpS
  cases h : ltS a b with
  | true => simp
  | false =>
    cases h2 : ltS b a with
    | true => simp
    | false => simp


def vEnt (x : Ent) : List Value := [.string ⟨⟨x.path⟩⟩, (.bool x.dir), .string ⟨⟨x.data⟩⟩]

theorem cls_sortEnts (x y : Ent) (W : World) : Calls Go.Proofs.Tryz.prog 233 #[.agg #[.string ⟨⟨x.path⟩⟩, (.bool x.dir), .string ⟨⟨x.data⟩⟩], .agg #[.string ⟨⟨y.path⟩⟩, (.bool y.dir), .string ⟨⟨y.data⟩⟩]] W fun e w' => e = .returned (.int .i64 (cmpS x.path y.path)) ∧ ∃ q os', w' = Sort.grow (W.drewN q) os' := by
  have hcon := fun W' => cmpCompare x.path y.path W'
  generalize cmpS x.path y.path = r at hcon ⊢
  go_enter Go.Proofs.Tryz.func233, Go.Proofs.Tryz.ntmps233
  go_wp2_with (go_at_call 219; refine (hcon _).mono ?_; rintro e w' ⟨rfl, rfl⟩)
  go_ret
  exact ⟨rfl, 0, _, by rw [Sort.alloc_eq_grow, Sort.alloc_eq_grow, Sort.grow_grow]; rfl⟩


def vMark (x : Mark) : List Value := [.string ⟨⟨x.path⟩⟩, (.int .i64 x.kind), .string ⟨⟨x.data⟩⟩]

theorem cls_sortMarks (x y : Mark) (W : World) : Calls Go.Proofs.Tryz.prog 218 #[.agg #[.string ⟨⟨x.path⟩⟩, (.int .i64 x.kind), .string ⟨⟨x.data⟩⟩], .agg #[.string ⟨⟨y.path⟩⟩, (.int .i64 y.kind), .string ⟨⟨y.data⟩⟩]] W fun e w' => e = .returned (.int .i64 (cmpS x.path y.path)) ∧ ∃ q os', w' = Sort.grow (W.drewN q) os' := by
  have hcon := fun W' => cmpCompare x.path y.path W'
  generalize cmpS x.path y.path = r at hcon ⊢
  go_enter Go.Proofs.Tryz.func218, Go.Proofs.Tryz.ntmps218
  go_wp2_with (go_at_call 219; refine (hcon _).mono ?_; rintro e w' ⟨rfl, rfl⟩)
  go_ret
  exact ⟨rfl, 0, _, by rw [Sort.alloc_eq_grow, Sort.alloc_eq_grow, Sort.grow_grow]; rfl⟩


end Go.Proofs.YthblflnfhdnpdaaGreatDoor

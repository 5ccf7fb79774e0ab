/- The walks of the laws on trees on layers; no condition but one on a package variable that start-up code lays. -/
import Derived.Test.YthblflnfhdnpdaaGreatDoorIc1
import Derived.Test.YthblflnfhdnpdaaGreatDoorDc1
import Derived.Test.YthblflnfhdnpdaaGreatDoorDm2
import Derived.Test.YthblflnfhdnpdaaGreatDoorLb1
namespace Go.Proofs.YthblflnfhdnpdaaGreatDoor
set_option linter.unusedSimpArgs false
set_option linter.unusedVariables false
open Go Go.RowKit

theorem xiT {a : Int} {A B : Prop} (h : A) : cndX (eqI a a) A B := by rw [eqI_t.2 rfl]; exact h
theorem xiF {a : Int} {A B : Prop} (h : B) : cndX (!eqI a a) A B := by rw [eqI_t.2 rfl]; exact h
theorem xbT {a : Bool} {A B : Prop} (h : A) : cndX (eqB a a) A B := by rw [eqB_t.2 rfl]; exact h
theorem xbF {a : Bool} {A B : Prop} (h : B) : cndX (!eqB a a) A B := by rw [eqB_t.2 rfl]; exact h
theorem xiN {a b : Int} {A B : Prop} (k : B) (h : a ≠ b := by decide) : cndX (eqI a b) A B := by rw [eqI_f.2 h]; exact k
theorem xiM {a b : Int} {A B : Prop} (k : A) (h : a ≠ b := by decide) : cndX (!eqI a b) A B := by rw [eqI_f.2 h]; exact k
theorem xbN {a b : Bool} {A B : Prop} (k : B) (h : a ≠ b := by decide) : cndX (eqB a b) A B := by rw [eqB_f.2 h]; exact k
theorem xbM {a b : Bool} {A B : Prop} (k : A) (h : a ≠ b := by decide) : cndX (!eqB a b) A B := by rw [eqB_f.2 h]; exact k
theorem xeT {p d : Str} {b : Bool} {A B : Prop} (h : A) : cndX (eqS p p && (eqB b b && (eqS d d && true))) A B := by rw [eqS_t.2 rfl, eqB_t.2 rfl, eqS_t.2 rfl]; exact h
theorem xeF {p d : Str} {b : Bool} {A B : Prop} (h : B) : cndX (!(eqS p p && (eqB b b && (eqS d d && true)))) A B := by rw [eqS_t.2 rfl, eqB_t.2 rfl, eqS_t.2 rfl]; exact h
theorem xcT {a : Int} : CB (eqI a a) = CB true := congrArg CB (eqI_t.2 rfl)
theorem xcB {a : Bool} : CB (eqB a a) = CB true := congrArg CB (eqB_t.2 rfl)

theorem f_OSt (W0 : World) (a b : Over) (h : a = b) : Fn Go.Proofs.Tryz.prog W0 16 [eOver a, eOver b] (.c (CB true)) [] := by
  have := f_impl_OverSame W0 a b
  rwa [decide_eq_true h] at this
theorem f_ESt (W0 : World) (a b : List Ent) (h : a = b) : Fn Go.Proofs.Tryz.prog W0 23 [eEnts a, eEnts b] (.c (CB true)) [] := by
  have := f_impl_EntsSame W0 a b
  rwa [decide_eq_true h] at this
theorem f_MSt (W0 : World) (a b : List Mark) (h : a = b) : Fn Go.Proofs.Tryz.prog W0 28 [eMarks a, eMarks b] (.c (CB true)) [] := by
  have := f_impl_MarksSame W0 a b
  rwa [decide_eq_true h] at this


theorem dT1 {p : Prop} [Decidable p] (h : p) : CB (decide p) = CB true := (dT h).symm
theorem oDo_no {o : Over} (h : oOk o = false) (op : Op) : oDo o op = (noO, 1) := by rw [oDo, if_neg (by simp [h])]
theorem noE4 : (none : Option (List Ent)) = if false = true then (none : Option (List Ent)) else none := rfl

theorem eOGet_q (x : Option (Ent × Int)) : eOGet x = .tup [eEnt (x.getD (noE, 0)).1, CI (x.getD (noE, 0)).2, CB x.isSome] := by cases x <;> rfl
theorem oGet_no {o : Over} (h : oOk o = false) (p : Str) : oGet o p = none := by rw [oGet, if_neg (by simp [h])]
theorem find_self {x : List Ent} (h : TG x) {e : Ent} (he : e ∈ x) : find x e.path = some e := (fnd_iff h.srt).1 he
theorem OG.eget {o : Over} {t x : List Ent} (g : OG o t x) {e : Ent} (he : e ∈ x) : oGet o e.path = some (e, (topN (allL o) e.path (allL o).length : Int)) := by
  have hx := TG.of g.gx
  rw [g.get, get_find (hx.path he), find_self hx he]; rfl
theorem allL_len {o : Over} : (allL o).length = o.layers.length + 1 := by simp [allL]

end Go.Proofs.YthblflnfhdnpdaaGreatDoor

/- What is done to a tree: the plain functions; no condition, no program. -/
import Derived.Test.YthblflnfhdnpdaaGreatDoorQa6
namespace Go.Proofs.YthblflnfhdnpdaaGreatDoor
set_option linter.unusedSimpArgs false
set_option linter.unusedVariables false
open Go Go.RowKit

def opOkB (op : Op) : Bool := (decide (1 ≤ op.kind) && decide (op.kind ≤ 5)) && (pOk op.path && (if op.kind = 5 then pOk op.dest && op.data == [] else op.dest == [] && (dataOk op.data && (op.kind == 2 || op.data == []))))
def kids (t : List Ent) (p : Str) : List Str := (t.filter fun e => pUp e.path == p).map fun e => pName e.path
def upC (t : List Ent) (p : Str) : Int := match get t (pUp p) with
  | none => 2
  | some e => if e.dir = true then 0 else 3
def newC (t : List Ent) (p : Str) : Int := if upC t p ≠ 0 then upC t p else if (get t p).isSome = true then 4 else if 16 ≤ t.length then 8 else 0
def putC (t : List Ent) (p : Str) : Int := if newC t p = 4 then (if ((get t p).getD noE).dir = true then 5 else 0) else newC t p
def offC (t : List Ent) (op : Op) : Int := match get t op.path with
  | none => 2
  | some e => if op.kind = 3 ∧ e.dir = true then 5 else if op.kind = 4 ∧ e.dir = false then 3 else if 0 < (kids t op.path).length then 6 else 0
def movC (t : List Ent) (op : Op) : Int := if (get t op.path).isSome = false then 2 else if upC t op.dest ≠ 0 then upC t op.dest else if (get t op.dest).isSome = true then 4 else if und op.dest op.path = true then 7 else
  if t.all (fun e => (pMove e.path op.path op.dest).isSome) = true then 0 else 8
def codeT (t : List Ent) (op : Op) : Int := if op.kind = 1 then newC t op.path else if op.kind = 2 then putC t op.path else if op.kind = 5 then movC t op else offC t op
def offT (t : List Ent) (p : Str) : List Ent := t.filter fun e => e.path != p
def movE (f to : Str) (e : Ent) : Ent := { e with path := (pMove e.path f to).getD [] }
def movT (t : List Ent) (f to : Str) : List Ent := t.foldl (fun out e => put out (movE f to e)) []
def doT (t : List Ent) (op : Op) : List Ent := if op.kind = 1 then put t ⟨op.path, true, []⟩ else if op.kind = 2 then put t ⟨op.path, false, op.data⟩ else if op.kind = 5 then movT t op.path op.dest else offT t op.path
def treeDo (t : List Ent) (op : Op) : List Ent × Int := if tOk t = true then (if opOkB op = true then (if codeT t op = 0 then (doT t op, 0) else (t, codeT t op)) else (t, 1)) else ([], 1)
def eTD (x : List Ent × Int) : CV := .tup [eEnts x.1, CI x.2]

theorem eOpt_eq (o : Option Str) : eOpt o = .tup [CS (o.getD []), CB o.isSome] := by cases o <;> rfl
theorem movT_len {f to : Str} : ∀ {t out : List Ent}, (t.foldl (fun out e => put out (movE f to e)) out).length ≤ out.length + t.length
  | [], out => by simp
  | e :: t, out => by
    have h := movT_len (f := f) (to := to) (t := t) (out := put out (movE f to e))
    have h2 : (put out (movE f to e)).length ≤ out.length + 1 := putG_len
    simp only [List.foldl_cons, List.length_cons]
    omega
theorem doT_len {t : List Ent} {op : Op} : (doT t op).length ≤ t.length + 1 := by
  unfold doT
  split
  · exact putG_len
  · split
    · exact putG_len
    · split
      · have := movT_len (f := op.path) (to := op.dest) (t := t) (out := [])
        unfold movT; simp at this; omega
      · have := List.length_filter_le (fun e : Ent => e.path != op.path) t
        unfold offT; omega
theorem treeDo_len {t : List Ent} {op : Op} : (treeDo t op).1.length ≤ 17 := by
  unfold treeDo
  split
  · rename_i h
    have := (tOk_at h).1
    have h2 := doT_len (t := t) (op := op)
    split
    · split <;> (simp only; omega)
    · simp only; omega
  · simp

end Go.Proofs.YthblflnfhdnpdaaGreatDoor

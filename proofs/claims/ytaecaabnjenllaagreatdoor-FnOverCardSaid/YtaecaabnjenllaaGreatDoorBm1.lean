/- Contracts: sizes, copies and equality of the data; no condition. -/
import Derived.Test.YtaecaabnjenllaaGreatDoorAm1
import Derived.Test.YtaecaabnjenllaaGreatDoorProg
namespace Go.Proofs.YtaecaabnjenllaaGreatDoor
set_option linter.unusedSimpArgs false
set_option linter.unusedVariables false
open Go Go.RowKit

theorem mixed : Go.Proofs.Tryz.prog.follows .mixedOrders = true := by kernel_rfl

/-- The room that is left. -/
def szL {α : Type} (f : α → Int → Int) : List α → Int → Int
  | [], l => l
  | a :: t, l => if f a l < 0 then -1 else szL f t (f a l)
def szR {α : Type} (f : α → Int → Int) (t : List α) (l : Int) : Int := if l - t.length < 0 then -1 else szL f t (l - t.length)
def szStr (s : Str) (l : Int) : Int := if l - s.length < 0 then -1 else l - s.length
def szEnt (e : Ent) (l : Int) : Int := if l - e.path.length < 0 then -1 else szStr e.data (l - e.path.length)
def szMark (e : Mark) (l : Int) : Int := if l - e.path.length < 0 then -1 else szStr e.data (l - e.path.length)

theorem szStr_le {s : Str} {l : Int} (h : -1 ≤ l) : -1 ≤ szStr s l ∧ szStr s l ≤ l := by unfold szStr; split <;> omega
theorem szEnt_le {e : Ent} {l : Int} (h : -1 ≤ l) : -1 ≤ szEnt e l ∧ szEnt e l ≤ l := by
  unfold szEnt; split
  · omega
  · have := @szStr_le e.data (l - e.path.length) (by omega); omega
theorem szMark_le {e : Mark} {l : Int} (h : -1 ≤ l) : -1 ≤ szMark e l ∧ szMark e l ≤ l := by
  unfold szMark; split
  · omega
  · have := @szStr_le e.data (l - e.path.length) (by omega); omega
theorem szL_le {α : Type} {f : α → Int → Int} (hf : ∀ a l, -1 ≤ l → -1 ≤ f a l ∧ f a l ≤ l) : ∀ {t : List α} {l : Int}, -1 ≤ l → -1 ≤ szL f t l ∧ szL f t l ≤ l
  | [], l, h => ⟨h, Int.le_refl _⟩
  | a :: t, l, h => by
    unfold szL
    have := hf a l h
    split
    · omega
    · have := szL_le hf (t := t) (l := f a l) (by omega); omega
theorem szR_le {α : Type} {f : α → Int → Int} (hf : ∀ a l, -1 ≤ l → -1 ≤ f a l ∧ f a l ≤ l) {t : List α} {l : Int} (h : -1 ≤ l) : -1 ≤ szR f t l ∧ szR f t l ≤ l := by
  unfold szR
  split
  · omega
  · have := szL_le hf (t := t) (l := l - t.length) (by omega); omega
theorem szL_at {α : Type} {f : α → Int → Int} {t : List α} {k : Nat} (h : k < t.length) {l : Int} : szL f (t.drop k) l = if f t[k] l < 0 then -1 else szL f (t.drop (k + 1)) (f t[k] l) := by
  rw [List.drop_eq_getElem_cons h]; rfl


def szOver (o : Over) (l : Int) : Int := if szR szEnt o.base l < 0 then -1 else if szR (szR szMark) o.layers (szR szEnt o.base l) < 0 then -1 else
  if szR szMark o.upper (szR (szR szMark) o.layers (szR szEnt o.base l)) < 0 then -1 else szR szMark o.upper (szR (szR szMark) o.layers (szR szEnt o.base l))


end Go.Proofs.YtaecaabnjenllaaGreatDoor

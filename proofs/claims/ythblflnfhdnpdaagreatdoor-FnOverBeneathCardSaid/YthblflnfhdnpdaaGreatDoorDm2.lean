/- The rows that list package-level variables: a world that lays them; no condition. -/
import Derived.Test.YthblflnfhdnpdaaGreatDoorDm1
import Derived.Test.YthblflnfhdnpdaaGreatDoorCards
import Derived.Test.YthblflnfhdnpdaaGreatDoorTie
import Derived.Deep.DeepHandedRow
import Derived.Lib.LaidTab
import Derived.Sort.Row
namespace Go.Proofs.YthblflnfhdnpdaaGreatDoor
set_option linter.unusedSimpArgs false
set_option linter.unusedVariables false
open Go Go.RowKit Go.WideShapes Go.ChangeShapes Go.ChangeAt

def rangeCells : List Value := [128, 191, 160, 191, 128, 159, 144, 191, 128, 143, 0, 0, 0, 0, 0, 0, 0, 0, 0, 0, 0, 0, 0, 0, 0, 0, 0, 0, 0, 0, 0, 0].map fun n : Nat => Value.int .u8 (n : Int)
def firstCells : List Value := Go.Pinned.utf8FirstZ.map fun n : Nat => Value.int .u8 (n : Int)
/-- The settled world, the two tables of unicode/utf8 (blocks 1 and 2) holding what the library's text lays. -/
def laidW (P : Program) (os : Os) : World := Sort.mapBlock (Sort.mapBlock (World.holding P os ⟨#[], #[], []⟩) 2 fun _ => rangeCells.toArray) 1 fun _ => firstCells.toArray

end Go.Proofs.YthblflnfhdnpdaaGreatDoor

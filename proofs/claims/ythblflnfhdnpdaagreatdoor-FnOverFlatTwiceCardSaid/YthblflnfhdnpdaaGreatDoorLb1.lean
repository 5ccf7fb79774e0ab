/- The walks of the laws over OverOk and OverGet; no condition but one on a package variable that start-up code lays. -/
import Derived.Test.YthblflnfhdnpdaaGreatDoorIb5
import Derived.Test.YthblflnfhdnpdaaGreatDoorPb6
namespace Go.Proofs.YthblflnfhdnpdaaGreatDoor
set_option linter.unusedSimpArgs false
set_option linter.unusedVariables false
open Go Go.RowKit

theorem hM_of {W : World} (h : W.ShapedOpen Go.Proofs.Tryz.prog) : HM W :=
  Go.Proofs.cell_of_shapedOpen_int (zero := #[.int .i64 0]) (t := 3) h (of_decide_eq_true (by kernel_rfl)) (by kernel_rfl) rfl (by kernel_rfl) (by kernel_rfl) Go.Proofs.Tryz.underlying3


end Go.Proofs.YthblflnfhdnpdaaGreatDoor

/-
  DERIVED. GIVEN WITH THE SEED: THE CARDS: each row of YthblflnfhdnpdaaGreatDoorRows.lean that lists a variable, with what it lists TIED to the program's text (the seventh form; the later family's looks); each row that meets fmt, with fmt's text TOLD by the authors' own Lean function (tested against real Go, not proved from fmt's source: count such statements apart). THE CARD IS WHAT COUNTS. Prove the row's statement (the work); the ties are given (YthblflnfhdnpdaaGreatDoorTie.lean); close each card by the builder's one call (the guide's Derived/Test/ToyasCard.lean, 'card_holds'). Laid BY PROGRAM, IN A SANDBOX (cutbox-door.mjs). By AI agents, Wed Nov 11 2026. No macro, syntax, notation, axiom, sorry.
-/
import Derived.Test.YthblflnfhdnpdaaGreatDoorRows
import GoSem.ClaimSeven
namespace Go.Proofs.YthblflnfhdnpdaaGreatDoor
namespace Rows

/-- THE TIED CARD OF 'laws.FnOverFlatTwice'. -/
def fnOverFlatTwiceCard : Claim7 := { stood := { row := fnOverFlatTwiceRow, standIns := [], harness := (true, "4e5e6569231ffc5550e652de6bc7091991c88b3f053fa21fe5dce35da01aac49"), looks := false }, kinds := [], alts := [], laidByText := true, laidKinds := [.data, .pinned], laidTests := true, laidLooks := .later }
def FnOverFlatTwiceCardSaid : Prop := Claim7.holds Tryz.pinned (.plain (OpenSpec.ofChange fnOverFlatTwiceSpec)) fnOverFlatTwiceCard

/-- THE TIED CARD OF 'laws.FnOverBeneath'. -/
def fnOverBeneathCard : Claim7 := { stood := { row := fnOverBeneathRow, standIns := [], harness := (true, "4e5e6569231ffc5550e652de6bc7091991c88b3f053fa21fe5dce35da01aac49"), looks := false }, kinds := [], alts := [], laidByText := true, laidKinds := [.data, .pinned], laidTests := true, laidLooks := .later }
def FnOverBeneathCardSaid : Prop := Claim7.holds Tryz.pinned (.plain (OpenSpec.ofChange fnOverBeneathSpec)) fnOverBeneathCard

/-- THE TIED CARD OF 'laws.FnOverSink'. -/
def fnOverSinkCard : Claim7 := { stood := { row := fnOverSinkRow, standIns := [], harness := (true, "4e5e6569231ffc5550e652de6bc7091991c88b3f053fa21fe5dce35da01aac49"), looks := false }, kinds := [], alts := [], laidByText := true, laidKinds := [.data, .pinned], laidTests := true, laidLooks := .later }
def FnOverSinkCardSaid : Prop := Claim7.holds Tryz.pinned (.plain (OpenSpec.ofChange fnOverSinkSpec)) fnOverSinkCard

/-- THE TIED CARD OF 'laws.FnOverBent'. -/
def fnOverBentCard : Claim7 := { stood := { row := fnOverBentRow, standIns := [], harness := (true, "4e5e6569231ffc5550e652de6bc7091991c88b3f053fa21fe5dce35da01aac49"), looks := false }, kinds := [], alts := [], laidByText := true, laidKinds := [.data, .pinned], laidTests := true, laidLooks := .later }
def FnOverBentCardSaid : Prop := Claim7.holds Tryz.pinned (.plain (OpenSpec.ofChange fnOverBentSpec)) fnOverBentCard

/-- THE TIED CARD OF 'laws.FnWorldNew'. -/
def fnWorldNewCard : Claim7 := { stood := { row := fnWorldNewRow, standIns := [], harness := (true, "4e5e6569231ffc5550e652de6bc7091991c88b3f053fa21fe5dce35da01aac49"), looks := false }, kinds := [], alts := [], laidByText := true, laidKinds := [.data, .pinned], laidTests := true, laidLooks := .later }
def FnWorldNewCardSaid : Prop := Claim7.holds Tryz.pinned (.plain (OpenSpec.ofChange fnWorldNewSpec)) fnWorldNewCard

/-- THE TIED CARD OF 'laws.FnWorldSo'. -/
def fnWorldSoCard : Claim7 := { stood := { row := fnWorldSoRow, standIns := [], harness := (true, "4e5e6569231ffc5550e652de6bc7091991c88b3f053fa21fe5dce35da01aac49"), looks := false }, kinds := [], alts := [], laidByText := true, laidKinds := [.data, .pinned], laidTests := true, laidLooks := .later }
def FnWorldSoCardSaid : Prop := Claim7.holds Tryz.pinned (.plain (OpenSpec.ofChange fnWorldSoSpec)) fnWorldSoCard

/-- THE TIED CARD OF 'laws.FnWorldBent'. -/
def fnWorldBentCard : Claim7 := { stood := { row := fnWorldBentRow, standIns := [], harness := (true, "4e5e6569231ffc5550e652de6bc7091991c88b3f053fa21fe5dce35da01aac49"), looks := false }, kinds := [], alts := [], laidByText := true, laidKinds := [.data, .pinned], laidTests := true, laidLooks := .later }
def FnWorldBentCardSaid : Prop := Claim7.holds Tryz.pinned (.plain (OpenSpec.ofChange fnWorldBentSpec)) fnWorldBentCard

/-- THE TIED CARD OF 'laws.FnWorldPlay'. -/
def fnWorldPlayCard : Claim7 := { stood := { row := fnWorldPlayRow, standIns := [], harness := (true, "4e5e6569231ffc5550e652de6bc7091991c88b3f053fa21fe5dce35da01aac49"), looks := false }, kinds := [], alts := [], laidByText := true, laidKinds := [.data, .pinned], laidTests := true, laidLooks := .later }
def FnWorldPlayCardSaid : Prop := Claim7.holds Tryz.pinned (.plain (OpenSpec.ofChange fnWorldPlaySpec)) fnWorldPlayCard

/-- THE TIED CARD OF 'laws.FnExactWorldOk'. -/
def fnExactWorldOkCard : Claim7 := { stood := { row := fnExactWorldOkRow, standIns := [], harness := (true, "4e5e6569231ffc5550e652de6bc7091991c88b3f053fa21fe5dce35da01aac49"), looks := false }, kinds := [], alts := [], laidByText := true, laidKinds := [.data, .pinned], laidTests := true, laidLooks := .later }
def FnExactWorldOkCardSaid : Prop := Claim7.holds Tryz.pinned (.plain (OpenSpec.ofChange fnExactWorldOkSpec)) fnExactWorldOkCard

/-- THE TIED CARD OF 'laws.FnExactWorldRead'. -/
def fnExactWorldReadCard : Claim7 := { stood := { row := fnExactWorldReadRow, standIns := [], harness := (true, "4e5e6569231ffc5550e652de6bc7091991c88b3f053fa21fe5dce35da01aac49"), looks := false }, kinds := [], alts := [], laidByText := true, laidKinds := [.data, .pinned], laidTests := true, laidLooks := .later }
def FnExactWorldReadCardSaid : Prop := Claim7.holds Tryz.pinned (.plain (OpenSpec.ofChange fnExactWorldReadSpec)) fnExactWorldReadCard

/-- THE SECOND FORM's CARD OF 'laws.FnOverFlatTwice'. -/
def fnOverFlatTwiceUptoCard : Claim7 := { stood := { row := fnOverFlatTwiceUptoRow, standIns := [], harness := (true, "4e5e6569231ffc5550e652de6bc7091991c88b3f053fa21fe5dce35da01aac49"), looks := false }, kinds := [], alts := [], laidByText := true, laidKinds := [.data, .pinned], laidTests := true, laidLooks := .later }
def FnOverFlatTwiceUptoCardSaid : Prop := Claim7.holds Tryz.pinned (.plain (OpenSpec.upto fnOverFlatTwiceSpec)) fnOverFlatTwiceUptoCard

/-- THE SECOND FORM's CARD OF 'laws.FnOverBeneath'. -/
def fnOverBeneathUptoCard : Claim7 := { stood := { row := fnOverBeneathUptoRow, standIns := [], harness := (true, "4e5e6569231ffc5550e652de6bc7091991c88b3f053fa21fe5dce35da01aac49"), looks := false }, kinds := [], alts := [], laidByText := true, laidKinds := [.data, .pinned], laidTests := true, laidLooks := .later }
def FnOverBeneathUptoCardSaid : Prop := Claim7.holds Tryz.pinned (.plain (OpenSpec.upto fnOverBeneathSpec)) fnOverBeneathUptoCard

/-- THE SECOND FORM's CARD OF 'laws.FnOverSink'. -/
def fnOverSinkUptoCard : Claim7 := { stood := { row := fnOverSinkUptoRow, standIns := [], harness := (true, "4e5e6569231ffc5550e652de6bc7091991c88b3f053fa21fe5dce35da01aac49"), looks := false }, kinds := [], alts := [], laidByText := true, laidKinds := [.data, .pinned], laidTests := true, laidLooks := .later }
def FnOverSinkUptoCardSaid : Prop := Claim7.holds Tryz.pinned (.plain (OpenSpec.upto fnOverSinkSpec)) fnOverSinkUptoCard

/-- THE SECOND FORM's CARD OF 'laws.FnOverBent'. -/
def fnOverBentUptoCard : Claim7 := { stood := { row := fnOverBentUptoRow, standIns := [], harness := (true, "4e5e6569231ffc5550e652de6bc7091991c88b3f053fa21fe5dce35da01aac49"), looks := false }, kinds := [], alts := [], laidByText := true, laidKinds := [.data, .pinned], laidTests := true, laidLooks := .later }
def FnOverBentUptoCardSaid : Prop := Claim7.holds Tryz.pinned (.plain (OpenSpec.upto fnOverBentSpec)) fnOverBentUptoCard

/-- THE SECOND FORM's CARD OF 'laws.FnWorldNew'. -/
def fnWorldNewUptoCard : Claim7 := { stood := { row := fnWorldNewUptoRow, standIns := [], harness := (true, "4e5e6569231ffc5550e652de6bc7091991c88b3f053fa21fe5dce35da01aac49"), looks := false }, kinds := [], alts := [], laidByText := true, laidKinds := [.data, .pinned], laidTests := true, laidLooks := .later }
def FnWorldNewUptoCardSaid : Prop := Claim7.holds Tryz.pinned (.plain (OpenSpec.upto fnWorldNewSpec)) fnWorldNewUptoCard

/-- THE SECOND FORM's CARD OF 'laws.FnWorldSo'. -/
def fnWorldSoUptoCard : Claim7 := { stood := { row := fnWorldSoUptoRow, standIns := [], harness := (true, "4e5e6569231ffc5550e652de6bc7091991c88b3f053fa21fe5dce35da01aac49"), looks := false }, kinds := [], alts := [], laidByText := true, laidKinds := [.data, .pinned], laidTests := true, laidLooks := .later }
def FnWorldSoUptoCardSaid : Prop := Claim7.holds Tryz.pinned (.plain (OpenSpec.upto fnWorldSoSpec)) fnWorldSoUptoCard

/-- THE SECOND FORM's CARD OF 'laws.FnWorldBent'. -/
def fnWorldBentUptoCard : Claim7 := { stood := { row := fnWorldBentUptoRow, standIns := [], harness := (true, "4e5e6569231ffc5550e652de6bc7091991c88b3f053fa21fe5dce35da01aac49"), looks := false }, kinds := [], alts := [], laidByText := true, laidKinds := [.data, .pinned], laidTests := true, laidLooks := .later }
def FnWorldBentUptoCardSaid : Prop := Claim7.holds Tryz.pinned (.plain (OpenSpec.upto fnWorldBentSpec)) fnWorldBentUptoCard

/-- THE SECOND FORM's CARD OF 'laws.FnWorldPlay'. -/
def fnWorldPlayUptoCard : Claim7 := { stood := { row := fnWorldPlayUptoRow, standIns := [], harness := (true, "4e5e6569231ffc5550e652de6bc7091991c88b3f053fa21fe5dce35da01aac49"), looks := false }, kinds := [], alts := [], laidByText := true, laidKinds := [.data, .pinned], laidTests := true, laidLooks := .later }
def FnWorldPlayUptoCardSaid : Prop := Claim7.holds Tryz.pinned (.plain (OpenSpec.upto fnWorldPlaySpec)) fnWorldPlayUptoCard

/-- THE SECOND FORM's CARD OF 'laws.FnExactWorldOk'. -/
def fnExactWorldOkUptoCard : Claim7 := { stood := { row := fnExactWorldOkUptoRow, standIns := [], harness := (true, "4e5e6569231ffc5550e652de6bc7091991c88b3f053fa21fe5dce35da01aac49"), looks := false }, kinds := [], alts := [], laidByText := true, laidKinds := [.data, .pinned], laidTests := true, laidLooks := .later }
def FnExactWorldOkUptoCardSaid : Prop := Claim7.holds Tryz.pinned (.plain (OpenSpec.upto fnExactWorldOkSpec)) fnExactWorldOkUptoCard

/-- THE SECOND FORM's CARD OF 'laws.FnExactWorldRead'. -/
def fnExactWorldReadUptoCard : Claim7 := { stood := { row := fnExactWorldReadUptoRow, standIns := [], harness := (true, "4e5e6569231ffc5550e652de6bc7091991c88b3f053fa21fe5dce35da01aac49"), looks := false }, kinds := [], alts := [], laidByText := true, laidKinds := [.data, .pinned], laidTests := true, laidLooks := .later }
def FnExactWorldReadUptoCardSaid : Prop := Claim7.holds Tryz.pinned (.plain (OpenSpec.upto fnExactWorldReadSpec)) fnExactWorldReadUptoCard
end Rows
end Go.Proofs.YthblflnfhdnpdaaGreatDoor

/-
  DERIVED. GIVEN WITH THE SEED: THE CARDS: each row of YtaecaabnjenllaaGreatDoorRows.lean that lists a variable, with what it lists TIED to the program's text (the seventh form; the later family's looks); each row that meets fmt, with fmt's text TOLD by the authors' own Lean function (tested against real Go, not proved from fmt's source: count such statements apart). THE CARD IS WHAT COUNTS. Prove the row's statement (the work); the ties are given (YtaecaabnjenllaaGreatDoorTie.lean); close each card by the builder's one call (the guide's Derived/Test/ToyasCard.lean, 'card_holds'). Laid BY PROGRAM, IN A SANDBOX (cutbox-door.mjs). By AI agents, Wed Nov 11 2026. No macro, syntax, notation, axiom, sorry.
-/
import Derived.Test.YtaecaabnjenllaaGreatDoorRows
import GoSem.ClaimSeven
namespace Go.Proofs.YtaecaabnjenllaaGreatDoor
namespace Rows

/-- THE TIED CARD OF 'laws.FnOverUpper'. -/
def fnOverUpperCard : Claim7 := { stood := { row := fnOverUpperRow, standIns := [], harness := (true, "9052bf70df040ebd52c14ab7f6f32c62beb76e7b612c87bf2ba10de47257a90f"), looks := false }, kinds := [], alts := [], laidByText := true, laidKinds := [.data, .pinned], laidTests := true, laidLooks := .later }
def FnOverUpperCardSaid : Prop := Claim7.holds Tryz.pinned (.plain (OpenSpec.ofChange fnOverUpperSpec)) fnOverUpperCard

/-- THE TIED CARD OF 'laws.FnOverLow'. -/
def fnOverLowCard : Claim7 := { stood := { row := fnOverLowRow, standIns := [], harness := (true, "9052bf70df040ebd52c14ab7f6f32c62beb76e7b612c87bf2ba10de47257a90f"), looks := false }, kinds := [], alts := [], laidByText := true, laidKinds := [.data, .pinned], laidTests := true, laidLooks := .later }
def FnOverLowCardSaid : Prop := Claim7.holds Tryz.pinned (.plain (OpenSpec.ofChange fnOverLowSpec)) fnOverLowCard

/-- THE TIED CARD OF 'laws.FnOverDrop'. -/
def fnOverDropCard : Claim7 := { stood := { row := fnOverDropRow, standIns := [], harness := (true, "9052bf70df040ebd52c14ab7f6f32c62beb76e7b612c87bf2ba10de47257a90f"), looks := false }, kinds := [], alts := [], laidByText := true, laidKinds := [.data, .pinned], laidTests := true, laidLooks := .later }
def FnOverDropCardSaid : Prop := Claim7.holds Tryz.pinned (.plain (OpenSpec.ofChange fnOverDropSpec)) fnOverDropCard

/-- THE TIED CARD OF 'laws.FnOverEach'. -/
def fnOverEachCard : Claim7 := { stood := { row := fnOverEachRow, standIns := [], harness := (true, "9052bf70df040ebd52c14ab7f6f32c62beb76e7b612c87bf2ba10de47257a90f"), looks := false }, kinds := [], alts := [], laidByText := true, laidKinds := [.data, .pinned], laidTests := true, laidLooks := .later }
def FnOverEachCardSaid : Prop := Claim7.holds Tryz.pinned (.plain (OpenSpec.ofChange fnOverEachSpec)) fnOverEachCard

/-- THE TIED CARD OF 'laws.FnOverGet'. -/
def fnOverGetCard : Claim7 := { stood := { row := fnOverGetRow, standIns := [], harness := (true, "9052bf70df040ebd52c14ab7f6f32c62beb76e7b612c87bf2ba10de47257a90f"), looks := false }, kinds := [], alts := [], laidByText := true, laidKinds := [.data, .pinned], laidTests := true, laidLooks := .later }
def FnOverGetCardSaid : Prop := Claim7.holds Tryz.pinned (.plain (OpenSpec.ofChange fnOverGetSpec)) fnOverGetCard

/-- THE TIED CARD OF 'laws.FnOverFlat'. -/
def fnOverFlatCard : Claim7 := { stood := { row := fnOverFlatRow, standIns := [], harness := (true, "9052bf70df040ebd52c14ab7f6f32c62beb76e7b612c87bf2ba10de47257a90f"), looks := false }, kinds := [], alts := [], laidByText := true, laidKinds := [.data, .pinned], laidTests := true, laidLooks := .later }
def FnOverFlatCardSaid : Prop := Claim7.holds Tryz.pinned (.plain (OpenSpec.ofChange fnOverFlatSpec)) fnOverFlatCard

/-- THE TIED CARD OF 'laws.FnOver'. -/
def fnOverCard : Claim7 := { stood := { row := fnOverRow, standIns := [], harness := (true, "9052bf70df040ebd52c14ab7f6f32c62beb76e7b612c87bf2ba10de47257a90f"), looks := false }, kinds := [], alts := [], laidByText := true, laidKinds := [.data, .pinned], laidTests := true, laidLooks := .later }
def FnOverCardSaid : Prop := Claim7.holds Tryz.pinned (.plain (OpenSpec.ofChange fnOverSpec)) fnOverCard

/-- THE TIED CARD OF 'laws.FnOverBack'. -/
def fnOverBackCard : Claim7 := { stood := { row := fnOverBackRow, standIns := [], harness := (true, "9052bf70df040ebd52c14ab7f6f32c62beb76e7b612c87bf2ba10de47257a90f"), looks := false }, kinds := [], alts := [], laidByText := true, laidKinds := [.data, .pinned], laidTests := true, laidLooks := .later }
def FnOverBackCardSaid : Prop := Claim7.holds Tryz.pinned (.plain (OpenSpec.ofChange fnOverBackSpec)) fnOverBackCard

/-- THE TIED CARD OF 'laws.FnOverPush'. -/
def fnOverPushCard : Claim7 := { stood := { row := fnOverPushRow, standIns := [], harness := (true, "9052bf70df040ebd52c14ab7f6f32c62beb76e7b612c87bf2ba10de47257a90f"), looks := false }, kinds := [], alts := [], laidByText := true, laidKinds := [.data, .pinned], laidTests := true, laidLooks := .later }
def FnOverPushCardSaid : Prop := Claim7.holds Tryz.pinned (.plain (OpenSpec.ofChange fnOverPushSpec)) fnOverPushCard

/-- THE SECOND FORM's CARD OF 'laws.FnOverUpper'. -/
def fnOverUpperUptoCard : Claim7 := { stood := { row := fnOverUpperUptoRow, standIns := [], harness := (true, "9052bf70df040ebd52c14ab7f6f32c62beb76e7b612c87bf2ba10de47257a90f"), looks := false }, kinds := [], alts := [], laidByText := true, laidKinds := [.data, .pinned], laidTests := true, laidLooks := .later }
def FnOverUpperUptoCardSaid : Prop := Claim7.holds Tryz.pinned (.plain (OpenSpec.upto fnOverUpperSpec)) fnOverUpperUptoCard

/-- THE SECOND FORM's CARD OF 'laws.FnOverLow'. -/
def fnOverLowUptoCard : Claim7 := { stood := { row := fnOverLowUptoRow, standIns := [], harness := (true, "9052bf70df040ebd52c14ab7f6f32c62beb76e7b612c87bf2ba10de47257a90f"), looks := false }, kinds := [], alts := [], laidByText := true, laidKinds := [.data, .pinned], laidTests := true, laidLooks := .later }
def FnOverLowUptoCardSaid : Prop := Claim7.holds Tryz.pinned (.plain (OpenSpec.upto fnOverLowSpec)) fnOverLowUptoCard

/-- THE SECOND FORM's CARD OF 'laws.FnOverDrop'. -/
def fnOverDropUptoCard : Claim7 := { stood := { row := fnOverDropUptoRow, standIns := [], harness := (true, "9052bf70df040ebd52c14ab7f6f32c62beb76e7b612c87bf2ba10de47257a90f"), looks := false }, kinds := [], alts := [], laidByText := true, laidKinds := [.data, .pinned], laidTests := true, laidLooks := .later }
def FnOverDropUptoCardSaid : Prop := Claim7.holds Tryz.pinned (.plain (OpenSpec.upto fnOverDropSpec)) fnOverDropUptoCard

/-- THE SECOND FORM's CARD OF 'laws.FnOverEach'. -/
def fnOverEachUptoCard : Claim7 := { stood := { row := fnOverEachUptoRow, standIns := [], harness := (true, "9052bf70df040ebd52c14ab7f6f32c62beb76e7b612c87bf2ba10de47257a90f"), looks := false }, kinds := [], alts := [], laidByText := true, laidKinds := [.data, .pinned], laidTests := true, laidLooks := .later }
def FnOverEachUptoCardSaid : Prop := Claim7.holds Tryz.pinned (.plain (OpenSpec.upto fnOverEachSpec)) fnOverEachUptoCard

/-- THE SECOND FORM's CARD OF 'laws.FnOverGet'. -/
def fnOverGetUptoCard : Claim7 := { stood := { row := fnOverGetUptoRow, standIns := [], harness := (true, "9052bf70df040ebd52c14ab7f6f32c62beb76e7b612c87bf2ba10de47257a90f"), looks := false }, kinds := [], alts := [], laidByText := true, laidKinds := [.data, .pinned], laidTests := true, laidLooks := .later }
def FnOverGetUptoCardSaid : Prop := Claim7.holds Tryz.pinned (.plain (OpenSpec.upto fnOverGetSpec)) fnOverGetUptoCard

/-- THE SECOND FORM's CARD OF 'laws.FnOverFlat'. -/
def fnOverFlatUptoCard : Claim7 := { stood := { row := fnOverFlatUptoRow, standIns := [], harness := (true, "9052bf70df040ebd52c14ab7f6f32c62beb76e7b612c87bf2ba10de47257a90f"), looks := false }, kinds := [], alts := [], laidByText := true, laidKinds := [.data, .pinned], laidTests := true, laidLooks := .later }
def FnOverFlatUptoCardSaid : Prop := Claim7.holds Tryz.pinned (.plain (OpenSpec.upto fnOverFlatSpec)) fnOverFlatUptoCard

/-- THE SECOND FORM's CARD OF 'laws.FnOver'. -/
def fnOverUptoCard : Claim7 := { stood := { row := fnOverUptoRow, standIns := [], harness := (true, "9052bf70df040ebd52c14ab7f6f32c62beb76e7b612c87bf2ba10de47257a90f"), looks := false }, kinds := [], alts := [], laidByText := true, laidKinds := [.data, .pinned], laidTests := true, laidLooks := .later }
def FnOverUptoCardSaid : Prop := Claim7.holds Tryz.pinned (.plain (OpenSpec.upto fnOverSpec)) fnOverUptoCard

/-- THE SECOND FORM's CARD OF 'laws.FnOverBack'. -/
def fnOverBackUptoCard : Claim7 := { stood := { row := fnOverBackUptoRow, standIns := [], harness := (true, "9052bf70df040ebd52c14ab7f6f32c62beb76e7b612c87bf2ba10de47257a90f"), looks := false }, kinds := [], alts := [], laidByText := true, laidKinds := [.data, .pinned], laidTests := true, laidLooks := .later }
def FnOverBackUptoCardSaid : Prop := Claim7.holds Tryz.pinned (.plain (OpenSpec.upto fnOverBackSpec)) fnOverBackUptoCard

/-- THE SECOND FORM's CARD OF 'laws.FnOverPush'. -/
def fnOverPushUptoCard : Claim7 := { stood := { row := fnOverPushUptoRow, standIns := [], harness := (true, "9052bf70df040ebd52c14ab7f6f32c62beb76e7b612c87bf2ba10de47257a90f"), looks := false }, kinds := [], alts := [], laidByText := true, laidKinds := [.data, .pinned], laidTests := true, laidLooks := .later }
def FnOverPushUptoCardSaid : Prop := Claim7.holds Tryz.pinned (.plain (OpenSpec.upto fnOverPushSpec)) fnOverPushUptoCard
end Rows
end Go.Proofs.YtaecaabnjenllaaGreatDoor

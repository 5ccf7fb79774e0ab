/-
  DERIVED. GIVEN WITH THE SEED: THE CARDS: each row of YteheahbjaddooaaGreatDoorRows.lean that lists a variable, with what it lists TIED to the program's text (the seventh form; the later family's looks); each row that meets fmt, with fmt's text TOLD by the authors' own Lean function (tested against real Go, not proved from fmt's source: count such statements apart). THE CARD IS WHAT COUNTS. Prove the row's statement (the work); the ties are given (YteheahbjaddooaaGreatDoorTie.lean); close each card by the builder's one call (the guide's Derived/Test/ToyasCard.lean, 'card_holds'). Laid BY PROGRAM, IN A SANDBOX (cutbox-door.mjs). By AI agents, Wed Nov 11 2026. No macro, syntax, notation, axiom, sorry.
-/
import Derived.Test.YteheahbjaddooaaGreatDoorRows
import GoSem.ClaimSeven
namespace Go.Proofs.YteheahbjaddooaaGreatDoor
namespace Rows

/-- THE TIED CARD OF 'laws.FnWorldSo'. -/
def fnWorldSoCard : Claim7 := { stood := { row := fnWorldSoRow, standIns := [], harness := (true, "916506cfdf285489176c1a7e23a5ee16485b398beecad80c991dd46b2bbfc4a1"), looks := false }, kinds := [], alts := [], laidByText := true, laidKinds := [.data, .pinned], laidTests := true, laidLooks := .later }
def FnWorldSoCardSaid : Prop := Claim7.holds Tryz.pinned (.plain (OpenSpec.ofChange fnWorldSoSpec)) fnWorldSoCard

/-- THE TIED CARD OF 'laws.FnWorldBent'. -/
def fnWorldBentCard : Claim7 := { stood := { row := fnWorldBentRow, standIns := [], harness := (true, "916506cfdf285489176c1a7e23a5ee16485b398beecad80c991dd46b2bbfc4a1"), looks := false }, kinds := [], alts := [], laidByText := true, laidKinds := [.data, .pinned], laidTests := true, laidLooks := .later }
def FnWorldBentCardSaid : Prop := Claim7.holds Tryz.pinned (.plain (OpenSpec.ofChange fnWorldBentSpec)) fnWorldBentCard

/-- THE TIED CARD OF 'laws.FnWorldPlay'. -/
def fnWorldPlayCard : Claim7 := { stood := { row := fnWorldPlayRow, standIns := [], harness := (true, "916506cfdf285489176c1a7e23a5ee16485b398beecad80c991dd46b2bbfc4a1"), looks := false }, kinds := [], alts := [], laidByText := true, laidKinds := [.data, .pinned], laidTests := true, laidLooks := .later }
def FnWorldPlayCardSaid : Prop := Claim7.holds Tryz.pinned (.plain (OpenSpec.ofChange fnWorldPlaySpec)) fnWorldPlayCard

/-- THE TIED CARD OF 'laws.FnWorldEnd'. -/
def fnWorldEndCard : Claim7 := { stood := { row := fnWorldEndRow, standIns := [], harness := (true, "916506cfdf285489176c1a7e23a5ee16485b398beecad80c991dd46b2bbfc4a1"), looks := false }, kinds := [], alts := [], laidByText := true, laidKinds := [.data, .pinned], laidTests := true, laidLooks := .later }
def FnWorldEndCardSaid : Prop := Claim7.holds Tryz.pinned (.plain (OpenSpec.ofChange fnWorldEndSpec)) fnWorldEndCard

/-- THE TIED CARD OF 'laws.FnWorldOk'. -/
def fnWorldOkCard : Claim7 := { stood := { row := fnWorldOkRow, standIns := [], harness := (true, "916506cfdf285489176c1a7e23a5ee16485b398beecad80c991dd46b2bbfc4a1"), looks := false }, kinds := [], alts := [], laidByText := true, laidKinds := [.data, .pinned], laidTests := true, laidLooks := .later }
def FnWorldOkCardSaid : Prop := Claim7.holds Tryz.pinned (.plain (OpenSpec.ofChange fnWorldOkSpec)) fnWorldOkCard

/-- THE TIED CARD OF 'laws.FnWorldNet'. -/
def fnWorldNetCard : Claim7 := { stood := { row := fnWorldNetRow, standIns := [], harness := (true, "916506cfdf285489176c1a7e23a5ee16485b398beecad80c991dd46b2bbfc4a1"), looks := false }, kinds := [], alts := [], laidByText := true, laidKinds := [.data, .pinned], laidTests := true, laidLooks := .later }
def FnWorldNetCardSaid : Prop := Claim7.holds Tryz.pinned (.plain (OpenSpec.ofChange fnWorldNetSpec)) fnWorldNetCard

/-- THE TIED CARD OF 'laws.FnWorldGrows'. -/
def fnWorldGrowsCard : Claim7 := { stood := { row := fnWorldGrowsRow, standIns := [], harness := (true, "916506cfdf285489176c1a7e23a5ee16485b398beecad80c991dd46b2bbfc4a1"), looks := false }, kinds := [], alts := [], laidByText := true, laidKinds := [.data, .pinned], laidTests := true, laidLooks := .later }
def FnWorldGrowsCardSaid : Prop := Claim7.holds Tryz.pinned (.plain (OpenSpec.ofChange fnWorldGrowsSpec)) fnWorldGrowsCard

/-- THE TIED CARD OF 'laws.FnWorldView'. -/
def fnWorldViewCard : Claim7 := { stood := { row := fnWorldViewRow, standIns := [], harness := (true, "916506cfdf285489176c1a7e23a5ee16485b398beecad80c991dd46b2bbfc4a1"), looks := false }, kinds := [], alts := [], laidByText := true, laidKinds := [.data, .pinned], laidTests := true, laidLooks := .later }
def FnWorldViewCardSaid : Prop := Claim7.holds Tryz.pinned (.plain (OpenSpec.ofChange fnWorldViewSpec)) fnWorldViewCard

/-- THE SECOND FORM's CARD OF 'laws.FnWorldSo'. -/
def fnWorldSoUptoCard : Claim7 := { stood := { row := fnWorldSoUptoRow, standIns := [], harness := (true, "916506cfdf285489176c1a7e23a5ee16485b398beecad80c991dd46b2bbfc4a1"), looks := false }, kinds := [], alts := [], laidByText := true, laidKinds := [.data, .pinned], laidTests := true, laidLooks := .later }
def FnWorldSoUptoCardSaid : Prop := Claim7.holds Tryz.pinned (.plain (OpenSpec.upto fnWorldSoSpec)) fnWorldSoUptoCard

/-- THE SECOND FORM's CARD OF 'laws.FnWorldBent'. -/
def fnWorldBentUptoCard : Claim7 := { stood := { row := fnWorldBentUptoRow, standIns := [], harness := (true, "916506cfdf285489176c1a7e23a5ee16485b398beecad80c991dd46b2bbfc4a1"), looks := false }, kinds := [], alts := [], laidByText := true, laidKinds := [.data, .pinned], laidTests := true, laidLooks := .later }
def FnWorldBentUptoCardSaid : Prop := Claim7.holds Tryz.pinned (.plain (OpenSpec.upto fnWorldBentSpec)) fnWorldBentUptoCard

/-- THE SECOND FORM's CARD OF 'laws.FnWorldPlay'. -/
def fnWorldPlayUptoCard : Claim7 := { stood := { row := fnWorldPlayUptoRow, standIns := [], harness := (true, "916506cfdf285489176c1a7e23a5ee16485b398beecad80c991dd46b2bbfc4a1"), looks := false }, kinds := [], alts := [], laidByText := true, laidKinds := [.data, .pinned], laidTests := true, laidLooks := .later }
def FnWorldPlayUptoCardSaid : Prop := Claim7.holds Tryz.pinned (.plain (OpenSpec.upto fnWorldPlaySpec)) fnWorldPlayUptoCard

/-- THE SECOND FORM's CARD OF 'laws.FnWorldEnd'. -/
def fnWorldEndUptoCard : Claim7 := { stood := { row := fnWorldEndUptoRow, standIns := [], harness := (true, "916506cfdf285489176c1a7e23a5ee16485b398beecad80c991dd46b2bbfc4a1"), looks := false }, kinds := [], alts := [], laidByText := true, laidKinds := [.data, .pinned], laidTests := true, laidLooks := .later }
def FnWorldEndUptoCardSaid : Prop := Claim7.holds Tryz.pinned (.plain (OpenSpec.upto fnWorldEndSpec)) fnWorldEndUptoCard

/-- THE SECOND FORM's CARD OF 'laws.FnWorldOk'. -/
def fnWorldOkUptoCard : Claim7 := { stood := { row := fnWorldOkUptoRow, standIns := [], harness := (true, "916506cfdf285489176c1a7e23a5ee16485b398beecad80c991dd46b2bbfc4a1"), looks := false }, kinds := [], alts := [], laidByText := true, laidKinds := [.data, .pinned], laidTests := true, laidLooks := .later }
def FnWorldOkUptoCardSaid : Prop := Claim7.holds Tryz.pinned (.plain (OpenSpec.upto fnWorldOkSpec)) fnWorldOkUptoCard

/-- THE SECOND FORM's CARD OF 'laws.FnWorldNet'. -/
def fnWorldNetUptoCard : Claim7 := { stood := { row := fnWorldNetUptoRow, standIns := [], harness := (true, "916506cfdf285489176c1a7e23a5ee16485b398beecad80c991dd46b2bbfc4a1"), looks := false }, kinds := [], alts := [], laidByText := true, laidKinds := [.data, .pinned], laidTests := true, laidLooks := .later }
def FnWorldNetUptoCardSaid : Prop := Claim7.holds Tryz.pinned (.plain (OpenSpec.upto fnWorldNetSpec)) fnWorldNetUptoCard

/-- THE SECOND FORM's CARD OF 'laws.FnWorldGrows'. -/
def fnWorldGrowsUptoCard : Claim7 := { stood := { row := fnWorldGrowsUptoRow, standIns := [], harness := (true, "916506cfdf285489176c1a7e23a5ee16485b398beecad80c991dd46b2bbfc4a1"), looks := false }, kinds := [], alts := [], laidByText := true, laidKinds := [.data, .pinned], laidTests := true, laidLooks := .later }
def FnWorldGrowsUptoCardSaid : Prop := Claim7.holds Tryz.pinned (.plain (OpenSpec.upto fnWorldGrowsSpec)) fnWorldGrowsUptoCard

/-- THE SECOND FORM's CARD OF 'laws.FnWorldView'. -/
def fnWorldViewUptoCard : Claim7 := { stood := { row := fnWorldViewUptoRow, standIns := [], harness := (true, "916506cfdf285489176c1a7e23a5ee16485b398beecad80c991dd46b2bbfc4a1"), looks := false }, kinds := [], alts := [], laidByText := true, laidKinds := [.data, .pinned], laidTests := true, laidLooks := .later }
def FnWorldViewUptoCardSaid : Prop := Claim7.holds Tryz.pinned (.plain (OpenSpec.upto fnWorldViewSpec)) fnWorldViewUptoCard
end Rows
end Go.Proofs.YteheahbjaddooaaGreatDoor

/-
  DERIVED. GIVEN WITH THE SEED: THE CARDS: each row of YtopfccpgdldcdaaGreatDoorRows.lean that lists a variable, with what it lists TIED to the program's text (the seventh form; the later family's looks); each row that meets fmt, with fmt's text TOLD by the authors' own Lean function (tested against real Go, not proved from fmt's source: count such statements apart). THE CARD IS WHAT COUNTS. Prove the row's statement (the work); the ties are given (YtopfccpgdldcdaaGreatDoorTie.lean); close each card by the builder's one call (the guide's Derived/Test/ToyasCard.lean, 'card_holds'). Laid BY PROGRAM, IN A SANDBOX (cutbox-door.mjs). By AI agents, Wed Nov 11 2026. No macro, syntax, notation, axiom, sorry.
-/
import Derived.Test.YtopfccpgdldcdaaGreatDoorRows
import GoSem.ClaimSeven
namespace Go.Proofs.YtopfccpgdldcdaaGreatDoor
namespace Rows

/-- THE TIED CARD OF 'laws.FnWorldOthers'. -/
def fnWorldOthersCard : Claim7 := { stood := { row := fnWorldOthersRow, standIns := [], harness := (true, "c2b9a7ce8799add63fcd49bf394f774013b6e975a9ebf382eb430b4855348bd2"), looks := false }, kinds := [], alts := [], laidByText := true, laidKinds := [.data, .pinned], laidTests := true, laidLooks := .later }
def FnWorldOthersCardSaid : Prop := Claim7.holds Tryz.pinned (.plain (OpenSpec.ofChange fnWorldOthersSpec)) fnWorldOthersCard

/-- THE TIED CARD OF 'laws.FnWorldBars'. -/
def fnWorldBarsCard : Claim7 := { stood := { row := fnWorldBarsRow, standIns := [], harness := (true, "c2b9a7ce8799add63fcd49bf394f774013b6e975a9ebf382eb430b4855348bd2"), looks := false }, kinds := [], alts := [], laidByText := true, laidKinds := [.data, .pinned], laidTests := true, laidLooks := .later }
def FnWorldBarsCardSaid : Prop := Claim7.holds Tryz.pinned (.plain (OpenSpec.ofChange fnWorldBarsSpec)) fnWorldBarsCard

/-- THE TIED CARD OF 'laws.FnWorldGrant'. -/
def fnWorldGrantCard : Claim7 := { stood := { row := fnWorldGrantRow, standIns := [], harness := (true, "c2b9a7ce8799add63fcd49bf394f774013b6e975a9ebf382eb430b4855348bd2"), looks := false }, kinds := [], alts := [], laidByText := true, laidKinds := [.data, .pinned], laidTests := true, laidLooks := .later }
def FnWorldGrantCardSaid : Prop := Claim7.holds Tryz.pinned (.plain (OpenSpec.ofChange fnWorldGrantSpec)) fnWorldGrantCard

/-- THE TIED CARD OF 'laws.FnWorldLate'. -/
def fnWorldLateCard : Claim7 := { stood := { row := fnWorldLateRow, standIns := [], harness := (true, "c2b9a7ce8799add63fcd49bf394f774013b6e975a9ebf382eb430b4855348bd2"), looks := false }, kinds := [], alts := [], laidByText := true, laidKinds := [.data, .pinned], laidTests := true, laidLooks := .later }
def FnWorldLateCardSaid : Prop := Claim7.holds Tryz.pinned (.plain (OpenSpec.ofChange fnWorldLateSpec)) fnWorldLateCard

/-- THE TIED CARD OF 'laws.FnWorldLost'. -/
def fnWorldLostCard : Claim7 := { stood := { row := fnWorldLostRow, standIns := [], harness := (true, "c2b9a7ce8799add63fcd49bf394f774013b6e975a9ebf382eb430b4855348bd2"), looks := false }, kinds := [], alts := [], laidByText := true, laidKinds := [.data, .pinned], laidTests := true, laidLooks := .later }
def FnWorldLostCardSaid : Prop := Claim7.holds Tryz.pinned (.plain (OpenSpec.ofChange fnWorldLostSpec)) fnWorldLostCard

/-- THE TIED CARD OF 'laws.FnWorldBusy'. -/
def fnWorldBusyCard : Claim7 := { stood := { row := fnWorldBusyRow, standIns := [], harness := (true, "c2b9a7ce8799add63fcd49bf394f774013b6e975a9ebf382eb430b4855348bd2"), looks := false }, kinds := [], alts := [], laidByText := true, laidKinds := [.data, .pinned], laidTests := true, laidLooks := .later }
def FnWorldBusyCardSaid : Prop := Claim7.holds Tryz.pinned (.plain (OpenSpec.ofChange fnWorldBusySpec)) fnWorldBusyCard

/-- THE TIED CARD OF 'laws.FnWorldWait'. -/
def fnWorldWaitCard : Claim7 := { stood := { row := fnWorldWaitRow, standIns := [], harness := (true, "c2b9a7ce8799add63fcd49bf394f774013b6e975a9ebf382eb430b4855348bd2"), looks := false }, kinds := [], alts := [], laidByText := true, laidKinds := [.data, .pinned], laidTests := true, laidLooks := .later }
def FnWorldWaitCardSaid : Prop := Claim7.holds Tryz.pinned (.plain (OpenSpec.ofChange fnWorldWaitSpec)) fnWorldWaitCard

/-- THE TIED CARD OF 'laws.FnWorldEnds'. -/
def fnWorldEndsCard : Claim7 := { stood := { row := fnWorldEndsRow, standIns := [], harness := (true, "c2b9a7ce8799add63fcd49bf394f774013b6e975a9ebf382eb430b4855348bd2"), looks := false }, kinds := [], alts := [], laidByText := true, laidKinds := [.data, .pinned], laidTests := true, laidLooks := .later }
def FnWorldEndsCardSaid : Prop := Claim7.holds Tryz.pinned (.plain (OpenSpec.ofChange fnWorldEndsSpec)) fnWorldEndsCard

/-- THE TIED CARD OF 'laws.FnWorldTwice'. -/
def fnWorldTwiceCard : Claim7 := { stood := { row := fnWorldTwiceRow, standIns := [], harness := (true, "c2b9a7ce8799add63fcd49bf394f774013b6e975a9ebf382eb430b4855348bd2"), looks := false }, kinds := [], alts := [], laidByText := true, laidKinds := [.data, .pinned], laidTests := true, laidLooks := .later }
def FnWorldTwiceCardSaid : Prop := Claim7.holds Tryz.pinned (.plain (OpenSpec.ofChange fnWorldTwiceSpec)) fnWorldTwiceCard

/-- THE SECOND FORM's CARD OF 'laws.FnWorldOthers'. -/
def fnWorldOthersUptoCard : Claim7 := { stood := { row := fnWorldOthersUptoRow, standIns := [], harness := (true, "c2b9a7ce8799add63fcd49bf394f774013b6e975a9ebf382eb430b4855348bd2"), looks := false }, kinds := [], alts := [], laidByText := true, laidKinds := [.data, .pinned], laidTests := true, laidLooks := .later }
def FnWorldOthersUptoCardSaid : Prop := Claim7.holds Tryz.pinned (.plain (OpenSpec.upto fnWorldOthersSpec)) fnWorldOthersUptoCard

/-- THE SECOND FORM's CARD OF 'laws.FnWorldBars'. -/
def fnWorldBarsUptoCard : Claim7 := { stood := { row := fnWorldBarsUptoRow, standIns := [], harness := (true, "c2b9a7ce8799add63fcd49bf394f774013b6e975a9ebf382eb430b4855348bd2"), looks := false }, kinds := [], alts := [], laidByText := true, laidKinds := [.data, .pinned], laidTests := true, laidLooks := .later }
def FnWorldBarsUptoCardSaid : Prop := Claim7.holds Tryz.pinned (.plain (OpenSpec.upto fnWorldBarsSpec)) fnWorldBarsUptoCard

/-- THE SECOND FORM's CARD OF 'laws.FnWorldGrant'. -/
def fnWorldGrantUptoCard : Claim7 := { stood := { row := fnWorldGrantUptoRow, standIns := [], harness := (true, "c2b9a7ce8799add63fcd49bf394f774013b6e975a9ebf382eb430b4855348bd2"), looks := false }, kinds := [], alts := [], laidByText := true, laidKinds := [.data, .pinned], laidTests := true, laidLooks := .later }
def FnWorldGrantUptoCardSaid : Prop := Claim7.holds Tryz.pinned (.plain (OpenSpec.upto fnWorldGrantSpec)) fnWorldGrantUptoCard

/-- THE SECOND FORM's CARD OF 'laws.FnWorldLate'. -/
def fnWorldLateUptoCard : Claim7 := { stood := { row := fnWorldLateUptoRow, standIns := [], harness := (true, "c2b9a7ce8799add63fcd49bf394f774013b6e975a9ebf382eb430b4855348bd2"), looks := false }, kinds := [], alts := [], laidByText := true, laidKinds := [.data, .pinned], laidTests := true, laidLooks := .later }
def FnWorldLateUptoCardSaid : Prop := Claim7.holds Tryz.pinned (.plain (OpenSpec.upto fnWorldLateSpec)) fnWorldLateUptoCard

/-- THE SECOND FORM's CARD OF 'laws.FnWorldLost'. -/
def fnWorldLostUptoCard : Claim7 := { stood := { row := fnWorldLostUptoRow, standIns := [], harness := (true, "c2b9a7ce8799add63fcd49bf394f774013b6e975a9ebf382eb430b4855348bd2"), looks := false }, kinds := [], alts := [], laidByText := true, laidKinds := [.data, .pinned], laidTests := true, laidLooks := .later }
def FnWorldLostUptoCardSaid : Prop := Claim7.holds Tryz.pinned (.plain (OpenSpec.upto fnWorldLostSpec)) fnWorldLostUptoCard

/-- THE SECOND FORM's CARD OF 'laws.FnWorldBusy'. -/
def fnWorldBusyUptoCard : Claim7 := { stood := { row := fnWorldBusyUptoRow, standIns := [], harness := (true, "c2b9a7ce8799add63fcd49bf394f774013b6e975a9ebf382eb430b4855348bd2"), looks := false }, kinds := [], alts := [], laidByText := true, laidKinds := [.data, .pinned], laidTests := true, laidLooks := .later }
def FnWorldBusyUptoCardSaid : Prop := Claim7.holds Tryz.pinned (.plain (OpenSpec.upto fnWorldBusySpec)) fnWorldBusyUptoCard

/-- THE SECOND FORM's CARD OF 'laws.FnWorldWait'. -/
def fnWorldWaitUptoCard : Claim7 := { stood := { row := fnWorldWaitUptoRow, standIns := [], harness := (true, "c2b9a7ce8799add63fcd49bf394f774013b6e975a9ebf382eb430b4855348bd2"), looks := false }, kinds := [], alts := [], laidByText := true, laidKinds := [.data, .pinned], laidTests := true, laidLooks := .later }
def FnWorldWaitUptoCardSaid : Prop := Claim7.holds Tryz.pinned (.plain (OpenSpec.upto fnWorldWaitSpec)) fnWorldWaitUptoCard

/-- THE SECOND FORM's CARD OF 'laws.FnWorldEnds'. -/
def fnWorldEndsUptoCard : Claim7 := { stood := { row := fnWorldEndsUptoRow, standIns := [], harness := (true, "c2b9a7ce8799add63fcd49bf394f774013b6e975a9ebf382eb430b4855348bd2"), looks := false }, kinds := [], alts := [], laidByText := true, laidKinds := [.data, .pinned], laidTests := true, laidLooks := .later }
def FnWorldEndsUptoCardSaid : Prop := Claim7.holds Tryz.pinned (.plain (OpenSpec.upto fnWorldEndsSpec)) fnWorldEndsUptoCard

/-- THE SECOND FORM's CARD OF 'laws.FnWorldTwice'. -/
def fnWorldTwiceUptoCard : Claim7 := { stood := { row := fnWorldTwiceUptoRow, standIns := [], harness := (true, "c2b9a7ce8799add63fcd49bf394f774013b6e975a9ebf382eb430b4855348bd2"), looks := false }, kinds := [], alts := [], laidByText := true, laidKinds := [.data, .pinned], laidTests := true, laidLooks := .later }
def FnWorldTwiceUptoCardSaid : Prop := Claim7.holds Tryz.pinned (.plain (OpenSpec.upto fnWorldTwiceSpec)) fnWorldTwiceUptoCard
end Rows
end Go.Proofs.YtopfccpgdldcdaaGreatDoor

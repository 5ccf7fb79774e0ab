/-
  DERIVED. GIVEN WITH THE SEED: THE CARDS: each row of YtjndfhgdlclooaaGreatDoorRows.lean that lists a variable, with what it lists TIED to the program's text (the seventh form; the later family's looks); each row that meets fmt, with fmt's text TOLD by the authors' own Lean function (tested against real Go, not proved from fmt's source: count such statements apart). THE CARD IS WHAT COUNTS. Prove the row's statement (the work); the ties are given (YtjndfhgdlclooaaGreatDoorTie.lean); close each card by the builder's one call (the guide's Derived/Test/ToyasCard.lean, 'card_holds'). Laid BY PROGRAM, IN A SANDBOX (cutbox-door.mjs). By AI agents, Wed Nov 11 2026. No macro, syntax, notation, axiom, sorry.
-/
import Derived.Test.YtjndfhgdlclooaaGreatDoorRows
import GoSem.ClaimSeven
namespace Go.Proofs.YtjndfhgdlclooaaGreatDoor
namespace Rows

/-- THE TIED CARD OF 'laws.FnLayerBack'. -/
def fnLayerBackCard : Claim7 := { stood := { row := fnLayerBackRow, standIns := [], harness := (true, "46e96007cc51e053d6b0da06f4c32431ecfb580c7e5f99ea8ce254003d9f26e4"), looks := false }, kinds := [], alts := [], laidByText := true, laidKinds := [.data, .pinned], laidTests := true, laidLooks := .later }
def FnLayerBackCardSaid : Prop := Claim7.holds Tryz.pinned (.plain (OpenSpec.ofChange fnLayerBackSpec)) fnLayerBackCard

/-- THE TIED CARD OF 'laws.FnLayerSteps'. -/
def fnLayerStepsCard : Claim7 := { stood := { row := fnLayerStepsRow, standIns := [], harness := (true, "46e96007cc51e053d6b0da06f4c32431ecfb580c7e5f99ea8ce254003d9f26e4"), looks := false }, kinds := [], alts := [], laidByText := true, laidKinds := [.data, .pinned], laidTests := true, laidLooks := .later }
def FnLayerStepsCardSaid : Prop := Claim7.holds Tryz.pinned (.plain (OpenSpec.ofChange fnLayerStepsSpec)) fnLayerStepsCard

/-- THE TIED CARD OF 'laws.FnExactOverOk'. -/
def fnExactOverOkCard : Claim7 := { stood := { row := fnExactOverOkRow, standIns := [], harness := (true, "46e96007cc51e053d6b0da06f4c32431ecfb580c7e5f99ea8ce254003d9f26e4"), looks := false }, kinds := [], alts := [], laidByText := true, laidKinds := [.data, .pinned], laidTests := true, laidLooks := .later }
def FnExactOverOkCardSaid : Prop := Claim7.holds Tryz.pinned (.plain (OpenSpec.ofChange fnExactOverOkSpec)) fnExactOverOkCard

/-- THE TIED CARD OF 'laws.FnLayerThree'. -/
def fnLayerThreeCard : Claim7 := { stood := { row := fnLayerThreeRow, standIns := [], harness := (true, "46e96007cc51e053d6b0da06f4c32431ecfb580c7e5f99ea8ce254003d9f26e4"), looks := false }, kinds := [], alts := [], laidByText := true, laidKinds := [.data, .pinned], laidTests := true, laidLooks := .later }
def FnLayerThreeCardSaid : Prop := Claim7.holds Tryz.pinned (.plain (OpenSpec.ofChange fnLayerThreeSpec)) fnLayerThreeCard

/-- THE TIED CARD OF 'laws.FnLayerTop'. -/
def fnLayerTopCard : Claim7 := { stood := { row := fnLayerTopRow, standIns := [], harness := (true, "46e96007cc51e053d6b0da06f4c32431ecfb580c7e5f99ea8ce254003d9f26e4"), looks := false }, kinds := [], alts := [], laidByText := true, laidKinds := [.data, .pinned], laidTests := true, laidLooks := .later }
def FnLayerTopCardSaid : Prop := Claim7.holds Tryz.pinned (.plain (OpenSpec.ofChange fnLayerTopSpec)) fnLayerTopCard

/-- THE TIED CARD OF 'laws.FnLayerJoin'. -/
def fnLayerJoinCard : Claim7 := { stood := { row := fnLayerJoinRow, standIns := [], harness := (true, "46e96007cc51e053d6b0da06f4c32431ecfb580c7e5f99ea8ce254003d9f26e4"), looks := false }, kinds := [], alts := [], laidByText := true, laidKinds := [.data, .pinned], laidTests := true, laidLooks := .later }
def FnLayerJoinCardSaid : Prop := Claim7.holds Tryz.pinned (.plain (OpenSpec.ofChange fnLayerJoinSpec)) fnLayerJoinCard

/-- THE TIED CARD OF 'laws.FnExactOverGet'. -/
def fnExactOverGetCard : Claim7 := { stood := { row := fnExactOverGetRow, standIns := [], harness := (true, "46e96007cc51e053d6b0da06f4c32431ecfb580c7e5f99ea8ce254003d9f26e4"), looks := false }, kinds := [], alts := [], laidByText := true, laidKinds := [.data, .pinned], laidTests := true, laidLooks := .later }
def FnExactOverGetCardSaid : Prop := Claim7.holds Tryz.pinned (.plain (OpenSpec.ofChange fnExactOverGetSpec)) fnExactOverGetCard

/-- THE TIED CARD OF 'laws.FnExactOverLower'. -/
def fnExactOverLowerCard : Claim7 := { stood := { row := fnExactOverLowerRow, standIns := [], harness := (true, "46e96007cc51e053d6b0da06f4c32431ecfb580c7e5f99ea8ce254003d9f26e4"), looks := false }, kinds := [], alts := [], laidByText := true, laidKinds := [.data, .pinned], laidTests := true, laidLooks := .later }
def FnExactOverLowerCardSaid : Prop := Claim7.holds Tryz.pinned (.plain (OpenSpec.ofChange fnExactOverLowerSpec)) fnExactOverLowerCard

/-- THE TIED CARD OF 'laws.FnExactOverView'. -/
def fnExactOverViewCard : Claim7 := { stood := { row := fnExactOverViewRow, standIns := [], harness := (true, "46e96007cc51e053d6b0da06f4c32431ecfb580c7e5f99ea8ce254003d9f26e4"), looks := false }, kinds := [], alts := [], laidByText := true, laidKinds := [.data, .pinned], laidTests := true, laidLooks := .later }
def FnExactOverViewCardSaid : Prop := Claim7.holds Tryz.pinned (.plain (OpenSpec.ofChange fnExactOverViewSpec)) fnExactOverViewCard

/-- THE SECOND FORM's CARD OF 'laws.FnLayerBack'. -/
def fnLayerBackUptoCard : Claim7 := { stood := { row := fnLayerBackUptoRow, standIns := [], harness := (true, "46e96007cc51e053d6b0da06f4c32431ecfb580c7e5f99ea8ce254003d9f26e4"), looks := false }, kinds := [], alts := [], laidByText := true, laidKinds := [.data, .pinned], laidTests := true, laidLooks := .later }
def FnLayerBackUptoCardSaid : Prop := Claim7.holds Tryz.pinned (.plain (OpenSpec.upto fnLayerBackSpec)) fnLayerBackUptoCard

/-- THE SECOND FORM's CARD OF 'laws.FnLayerSteps'. -/
def fnLayerStepsUptoCard : Claim7 := { stood := { row := fnLayerStepsUptoRow, standIns := [], harness := (true, "46e96007cc51e053d6b0da06f4c32431ecfb580c7e5f99ea8ce254003d9f26e4"), looks := false }, kinds := [], alts := [], laidByText := true, laidKinds := [.data, .pinned], laidTests := true, laidLooks := .later }
def FnLayerStepsUptoCardSaid : Prop := Claim7.holds Tryz.pinned (.plain (OpenSpec.upto fnLayerStepsSpec)) fnLayerStepsUptoCard

/-- THE SECOND FORM's CARD OF 'laws.FnExactOverOk'. -/
def fnExactOverOkUptoCard : Claim7 := { stood := { row := fnExactOverOkUptoRow, standIns := [], harness := (true, "46e96007cc51e053d6b0da06f4c32431ecfb580c7e5f99ea8ce254003d9f26e4"), looks := false }, kinds := [], alts := [], laidByText := true, laidKinds := [.data, .pinned], laidTests := true, laidLooks := .later }
def FnExactOverOkUptoCardSaid : Prop := Claim7.holds Tryz.pinned (.plain (OpenSpec.upto fnExactOverOkSpec)) fnExactOverOkUptoCard

/-- THE SECOND FORM's CARD OF 'laws.FnLayerThree'. -/
def fnLayerThreeUptoCard : Claim7 := { stood := { row := fnLayerThreeUptoRow, standIns := [], harness := (true, "46e96007cc51e053d6b0da06f4c32431ecfb580c7e5f99ea8ce254003d9f26e4"), looks := false }, kinds := [], alts := [], laidByText := true, laidKinds := [.data, .pinned], laidTests := true, laidLooks := .later }
def FnLayerThreeUptoCardSaid : Prop := Claim7.holds Tryz.pinned (.plain (OpenSpec.upto fnLayerThreeSpec)) fnLayerThreeUptoCard

/-- THE SECOND FORM's CARD OF 'laws.FnLayerTop'. -/
def fnLayerTopUptoCard : Claim7 := { stood := { row := fnLayerTopUptoRow, standIns := [], harness := (true, "46e96007cc51e053d6b0da06f4c32431ecfb580c7e5f99ea8ce254003d9f26e4"), looks := false }, kinds := [], alts := [], laidByText := true, laidKinds := [.data, .pinned], laidTests := true, laidLooks := .later }
def FnLayerTopUptoCardSaid : Prop := Claim7.holds Tryz.pinned (.plain (OpenSpec.upto fnLayerTopSpec)) fnLayerTopUptoCard

/-- THE SECOND FORM's CARD OF 'laws.FnLayerJoin'. -/
def fnLayerJoinUptoCard : Claim7 := { stood := { row := fnLayerJoinUptoRow, standIns := [], harness := (true, "46e96007cc51e053d6b0da06f4c32431ecfb580c7e5f99ea8ce254003d9f26e4"), looks := false }, kinds := [], alts := [], laidByText := true, laidKinds := [.data, .pinned], laidTests := true, laidLooks := .later }
def FnLayerJoinUptoCardSaid : Prop := Claim7.holds Tryz.pinned (.plain (OpenSpec.upto fnLayerJoinSpec)) fnLayerJoinUptoCard

/-- THE SECOND FORM's CARD OF 'laws.FnExactOverGet'. -/
def fnExactOverGetUptoCard : Claim7 := { stood := { row := fnExactOverGetUptoRow, standIns := [], harness := (true, "46e96007cc51e053d6b0da06f4c32431ecfb580c7e5f99ea8ce254003d9f26e4"), looks := false }, kinds := [], alts := [], laidByText := true, laidKinds := [.data, .pinned], laidTests := true, laidLooks := .later }
def FnExactOverGetUptoCardSaid : Prop := Claim7.holds Tryz.pinned (.plain (OpenSpec.upto fnExactOverGetSpec)) fnExactOverGetUptoCard

/-- THE SECOND FORM's CARD OF 'laws.FnExactOverLower'. -/
def fnExactOverLowerUptoCard : Claim7 := { stood := { row := fnExactOverLowerUptoRow, standIns := [], harness := (true, "46e96007cc51e053d6b0da06f4c32431ecfb580c7e5f99ea8ce254003d9f26e4"), looks := false }, kinds := [], alts := [], laidByText := true, laidKinds := [.data, .pinned], laidTests := true, laidLooks := .later }
def FnExactOverLowerUptoCardSaid : Prop := Claim7.holds Tryz.pinned (.plain (OpenSpec.upto fnExactOverLowerSpec)) fnExactOverLowerUptoCard

/-- THE SECOND FORM's CARD OF 'laws.FnExactOverView'. -/
def fnExactOverViewUptoCard : Claim7 := { stood := { row := fnExactOverViewUptoRow, standIns := [], harness := (true, "46e96007cc51e053d6b0da06f4c32431ecfb580c7e5f99ea8ce254003d9f26e4"), looks := false }, kinds := [], alts := [], laidByText := true, laidKinds := [.data, .pinned], laidTests := true, laidLooks := .later }
def FnExactOverViewUptoCardSaid : Prop := Claim7.holds Tryz.pinned (.plain (OpenSpec.upto fnExactOverViewSpec)) fnExactOverViewUptoCard
end Rows
end Go.Proofs.YtjndfhgdlclooaaGreatDoor

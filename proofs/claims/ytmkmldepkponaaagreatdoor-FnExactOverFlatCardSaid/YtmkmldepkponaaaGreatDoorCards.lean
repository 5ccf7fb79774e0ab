/-
  DERIVED. GIVEN WITH THE SEED: THE CARDS: each row of YtmkmldepkponaaaGreatDoorRows.lean that lists a variable, with what it lists TIED to the program's text (the seventh form; the later family's looks); each row that meets fmt, with fmt's text TOLD by the authors' own Lean function (tested against real Go, not proved from fmt's source: count such statements apart). THE CARD IS WHAT COUNTS. Prove the row's statement (the work); the ties are given (YtmkmldepkponaaaGreatDoorTie.lean); close each card by the builder's one call (the guide's Derived/Test/ToyasCard.lean, 'card_holds'). Laid BY PROGRAM, IN A SANDBOX (cutbox-door.mjs). By AI agents, Wed Nov 11 2026. No macro, syntax, notation, axiom, sorry.
-/
import Derived.Test.YtmkmldepkponaaaGreatDoorRows
import GoSem.ClaimSeven
namespace Go.Proofs.YtmkmldepkponaaaGreatDoor
namespace Rows

/-- THE TIED CARD OF 'laws.FnOverBent'. -/
def fnOverBentCard : Claim7 := { stood := { row := fnOverBentRow, standIns := [], harness := (true, "e0d3aad70b7f3426d64b3e63a65876f66f325fb35ffdf7049344473221eb6431"), looks := false }, kinds := [], alts := [], laidByText := true, laidKinds := [.data, .pinned], laidTests := true, laidLooks := .later }
def FnOverBentCardSaid : Prop := Claim7.holds Tryz.pinned (.plain (OpenSpec.ofChange fnOverBentSpec)) fnOverBentCard

/-- THE TIED CARD OF 'laws.FnExactOverLower'. -/
def fnExactOverLowerCard : Claim7 := { stood := { row := fnExactOverLowerRow, standIns := [], harness := (true, "e0d3aad70b7f3426d64b3e63a65876f66f325fb35ffdf7049344473221eb6431"), looks := false }, kinds := [], alts := [], laidByText := true, laidKinds := [.data, .pinned], laidTests := true, laidLooks := .later }
def FnExactOverLowerCardSaid : Prop := Claim7.holds Tryz.pinned (.plain (OpenSpec.ofChange fnExactOverLowerSpec)) fnExactOverLowerCard

/-- THE TIED CARD OF 'laws.FnExactOverView'. -/
def fnExactOverViewCard : Claim7 := { stood := { row := fnExactOverViewRow, standIns := [], harness := (true, "e0d3aad70b7f3426d64b3e63a65876f66f325fb35ffdf7049344473221eb6431"), looks := false }, kinds := [], alts := [], laidByText := true, laidKinds := [.data, .pinned], laidTests := true, laidLooks := .later }
def FnExactOverViewCardSaid : Prop := Claim7.holds Tryz.pinned (.plain (OpenSpec.ofChange fnExactOverViewSpec)) fnExactOverViewCard

/-- THE TIED CARD OF 'laws.FnExactOverSink'. -/
def fnExactOverSinkCard : Claim7 := { stood := { row := fnExactOverSinkRow, standIns := [], harness := (true, "e0d3aad70b7f3426d64b3e63a65876f66f325fb35ffdf7049344473221eb6431"), looks := false }, kinds := [], alts := [], laidByText := true, laidKinds := [.data, .pinned], laidTests := true, laidLooks := .later }
def FnExactOverSinkCardSaid : Prop := Claim7.holds Tryz.pinned (.plain (OpenSpec.ofChange fnExactOverSinkSpec)) fnExactOverSinkCard

/-- THE TIED CARD OF 'laws.FnExactOverDrop'. -/
def fnExactOverDropCard : Claim7 := { stood := { row := fnExactOverDropRow, standIns := [], harness := (true, "e0d3aad70b7f3426d64b3e63a65876f66f325fb35ffdf7049344473221eb6431"), looks := false }, kinds := [], alts := [], laidByText := true, laidKinds := [.data, .pinned], laidTests := true, laidLooks := .later }
def FnExactOverDropCardSaid : Prop := Claim7.holds Tryz.pinned (.plain (OpenSpec.ofChange fnExactOverDropSpec)) fnExactOverDropCard

/-- THE TIED CARD OF 'laws.FnExactOverPush'. -/
def fnExactOverPushCard : Claim7 := { stood := { row := fnExactOverPushRow, standIns := [], harness := (true, "e0d3aad70b7f3426d64b3e63a65876f66f325fb35ffdf7049344473221eb6431"), looks := false }, kinds := [], alts := [], laidByText := true, laidKinds := [.data, .pinned], laidTests := true, laidLooks := .later }
def FnExactOverPushCardSaid : Prop := Claim7.holds Tryz.pinned (.plain (OpenSpec.ofChange fnExactOverPushSpec)) fnExactOverPushCard

/-- THE TIED CARD OF 'laws.FnExactOverFlat'. -/
def fnExactOverFlatCard : Claim7 := { stood := { row := fnExactOverFlatRow, standIns := [], harness := (true, "e0d3aad70b7f3426d64b3e63a65876f66f325fb35ffdf7049344473221eb6431"), looks := false }, kinds := [], alts := [], laidByText := true, laidKinds := [.data, .pinned], laidTests := true, laidLooks := .later }
def FnExactOverFlatCardSaid : Prop := Claim7.holds Tryz.pinned (.plain (OpenSpec.ofChange fnExactOverFlatSpec)) fnExactOverFlatCard

/-- THE TIED CARD OF 'laws.FnExactOverDo'. -/
def fnExactOverDoCard : Claim7 := { stood := { row := fnExactOverDoRow, standIns := [], harness := (true, "e0d3aad70b7f3426d64b3e63a65876f66f325fb35ffdf7049344473221eb6431"), looks := false }, kinds := [], alts := [], laidByText := true, laidKinds := [.data, .pinned], laidTests := true, laidLooks := .later }
def FnExactOverDoCardSaid : Prop := Claim7.holds Tryz.pinned (.plain (OpenSpec.ofChange fnExactOverDoSpec)) fnExactOverDoCard

/-- THE SECOND FORM's CARD OF 'laws.FnOverBent'. -/
def fnOverBentUptoCard : Claim7 := { stood := { row := fnOverBentUptoRow, standIns := [], harness := (true, "e0d3aad70b7f3426d64b3e63a65876f66f325fb35ffdf7049344473221eb6431"), looks := false }, kinds := [], alts := [], laidByText := true, laidKinds := [.data, .pinned], laidTests := true, laidLooks := .later }
def FnOverBentUptoCardSaid : Prop := Claim7.holds Tryz.pinned (.plain (OpenSpec.upto fnOverBentSpec)) fnOverBentUptoCard

/-- THE SECOND FORM's CARD OF 'laws.FnExactOverLower'. -/
def fnExactOverLowerUptoCard : Claim7 := { stood := { row := fnExactOverLowerUptoRow, standIns := [], harness := (true, "e0d3aad70b7f3426d64b3e63a65876f66f325fb35ffdf7049344473221eb6431"), looks := false }, kinds := [], alts := [], laidByText := true, laidKinds := [.data, .pinned], laidTests := true, laidLooks := .later }
def FnExactOverLowerUptoCardSaid : Prop := Claim7.holds Tryz.pinned (.plain (OpenSpec.upto fnExactOverLowerSpec)) fnExactOverLowerUptoCard

/-- THE SECOND FORM's CARD OF 'laws.FnExactOverView'. -/
def fnExactOverViewUptoCard : Claim7 := { stood := { row := fnExactOverViewUptoRow, standIns := [], harness := (true, "e0d3aad70b7f3426d64b3e63a65876f66f325fb35ffdf7049344473221eb6431"), looks := false }, kinds := [], alts := [], laidByText := true, laidKinds := [.data, .pinned], laidTests := true, laidLooks := .later }
def FnExactOverViewUptoCardSaid : Prop := Claim7.holds Tryz.pinned (.plain (OpenSpec.upto fnExactOverViewSpec)) fnExactOverViewUptoCard

/-- THE SECOND FORM's CARD OF 'laws.FnExactOverSink'. -/
def fnExactOverSinkUptoCard : Claim7 := { stood := { row := fnExactOverSinkUptoRow, standIns := [], harness := (true, "e0d3aad70b7f3426d64b3e63a65876f66f325fb35ffdf7049344473221eb6431"), looks := false }, kinds := [], alts := [], laidByText := true, laidKinds := [.data, .pinned], laidTests := true, laidLooks := .later }
def FnExactOverSinkUptoCardSaid : Prop := Claim7.holds Tryz.pinned (.plain (OpenSpec.upto fnExactOverSinkSpec)) fnExactOverSinkUptoCard

/-- THE SECOND FORM's CARD OF 'laws.FnExactOverDrop'. -/
def fnExactOverDropUptoCard : Claim7 := { stood := { row := fnExactOverDropUptoRow, standIns := [], harness := (true, "e0d3aad70b7f3426d64b3e63a65876f66f325fb35ffdf7049344473221eb6431"), looks := false }, kinds := [], alts := [], laidByText := true, laidKinds := [.data, .pinned], laidTests := true, laidLooks := .later }
def FnExactOverDropUptoCardSaid : Prop := Claim7.holds Tryz.pinned (.plain (OpenSpec.upto fnExactOverDropSpec)) fnExactOverDropUptoCard

/-- THE SECOND FORM's CARD OF 'laws.FnExactOverPush'. -/
def fnExactOverPushUptoCard : Claim7 := { stood := { row := fnExactOverPushUptoRow, standIns := [], harness := (true, "e0d3aad70b7f3426d64b3e63a65876f66f325fb35ffdf7049344473221eb6431"), looks := false }, kinds := [], alts := [], laidByText := true, laidKinds := [.data, .pinned], laidTests := true, laidLooks := .later }
def FnExactOverPushUptoCardSaid : Prop := Claim7.holds Tryz.pinned (.plain (OpenSpec.upto fnExactOverPushSpec)) fnExactOverPushUptoCard

/-- THE SECOND FORM's CARD OF 'laws.FnExactOverFlat'. -/
def fnExactOverFlatUptoCard : Claim7 := { stood := { row := fnExactOverFlatUptoRow, standIns := [], harness := (true, "e0d3aad70b7f3426d64b3e63a65876f66f325fb35ffdf7049344473221eb6431"), looks := false }, kinds := [], alts := [], laidByText := true, laidKinds := [.data, .pinned], laidTests := true, laidLooks := .later }
def FnExactOverFlatUptoCardSaid : Prop := Claim7.holds Tryz.pinned (.plain (OpenSpec.upto fnExactOverFlatSpec)) fnExactOverFlatUptoCard

/-- THE SECOND FORM's CARD OF 'laws.FnExactOverDo'. -/
def fnExactOverDoUptoCard : Claim7 := { stood := { row := fnExactOverDoUptoRow, standIns := [], harness := (true, "e0d3aad70b7f3426d64b3e63a65876f66f325fb35ffdf7049344473221eb6431"), looks := false }, kinds := [], alts := [], laidByText := true, laidKinds := [.data, .pinned], laidTests := true, laidLooks := .later }
def FnExactOverDoUptoCardSaid : Prop := Claim7.holds Tryz.pinned (.plain (OpenSpec.upto fnExactOverDoSpec)) fnExactOverDoUptoCard
end Rows
end Go.Proofs.YtmkmldepkponaaaGreatDoor

/-
  NARROWER THAN 'FOR EVERY INPUT', by the rows' own cells (each row's printed sentence says how): FnLayerBack: laid · FnLayerSteps: laid · FnExactOverOk: laid · FnLayerThree: laid · FnLayerTop: laid · FnLayerJoin: laid · FnExactOverGet: laid · FnExactOverLower: laid · FnExactOverView: laid.
  DERIVED. THE GIVEN ROWS OF THIS SEAT. 9 by the template 'for every input the law returns true; each argument reads behind the call as it read before'; 0 by the template 'total and deterministic' (their statements: YtjndfhgdlclooaaGreatDoorTotals.lean).
  GIVEN WITH THE SEED: the statements are not yours to turn. If you find one false, say at which input.
  Laid BY PROGRAM, IN A SANDBOX (cutbox-rows.mjs): the forced cells as the released guide's own fill.sh prints them over the translation bbf5d9b09ec81b6d… (all of the seat's roots in one cut). By AI agents, Wed Nov 11 2026. No macro, syntax, notation, axiom, sorry.
-/
import Derived.Test.YtjndfhgdlclooaaGreatDoorChecked
import GoSem.PinnedTables
import GoSem.Claim
import GoSem.ClaimJoined
import GoSem.ClaimMapViews
import Derived.JoinedTies
import Derived.KernelRfl
namespace Go.Proofs.YtjndfhgdlclooaaGreatDoor
/- THE CELL 'sum', in the pinned program and in every row, IS THE sha256 OF THE DUMP (.gsa) THAT YtjndfhgdlclooaaGreatDoorProg.lean LOADS. Nothing in Lean hashes anything: it is a label: what it is worth is what the hold of that sum in a sandbox is worth. -/
noncomputable def Tryz.pinned : Pinned := { name := "ytjndfhgdlclooaagreatdoor", sum := "bbf5d9b09ec81b6d0b960f229c1d1efd44b25bd9ba9759c1824faa2e1703a647", checked := Tryz.checked }
namespace Rows
def none {H : Type} : Left H := { results := [], args := [] }

/- WHAT THE LISTED PACKAGE-LEVEL VARIABLES READ AS WHEN THE CALL BEGINS. Each datum BY PROGRAM (the guide's laid-datum.mjs) off the statement by which the dump's own 'gosem.cut.vars' lays the variable. In a bare row this is a premise. The card (YtjndfhgdlclooaaGreatDoorCards.lean) ties it to the program's text. -/
def laid_unicode_utf8_acceptRanges {H : Type} : DataW H := .agg [.agg [.lit (.int .u8 128), .lit (.int .u8 191)], .agg [.lit (.int .u8 160), .lit (.int .u8 191)], .agg [.lit (.int .u8 128), .lit (.int .u8 159)], .agg [.lit (.int .u8 144), .lit (.int .u8 191)], .agg [.lit (.int .u8 128), .lit (.int .u8 143)], .agg [.lit (.int .u8 0), .lit (.int .u8 0)], .agg [.lit (.int .u8 0), .lit (.int .u8 0)], .agg [.lit (.int .u8 0), .lit (.int .u8 0)], .agg [.lit (.int .u8 0), .lit (.int .u8 0)], .agg [.lit (.int .u8 0), .lit (.int .u8 0)], .agg [.lit (.int .u8 0), .lit (.int .u8 0)], .agg [.lit (.int .u8 0), .lit (.int .u8 0)], .agg [.lit (.int .u8 0), .lit (.int .u8 0)], .agg [.lit (.int .u8 0), .lit (.int .u8 0)], .agg [.lit (.int .u8 0), .lit (.int .u8 0)], .agg [.lit (.int .u8 0), .lit (.int .u8 0)]]
/-- One of Go's own tables, pinned by name: the form's constant. -/
def laid_unicode_utf8_first : DataW Unit := Go.Pinned.utf8First

/-- 'laws.FnLayerBack': WHATEVER THE INPUT: true; the input reads as it did. -/
def fnLayerBackSpec : ChangeSpec := { name := "fnLayerBack", fn := fun _ => fun
  | [d] => { results := [.lit (.bool true)], args := [d] }
  | _ => none }
def fnLayerBackRow : OpenClaim := { program := "ytjndfhgdlclooaagreatdoor", sum := "bbf5d9b09ec81b6d0b960f229c1d1efd44b25bd9ba9759c1824faa2e1703a647", func := "loop.example/pargeting/laws.FnLayerBack", spec := "fnLayerBack", inPlace := ["internal/bytealg.CountString", "internal/bytealg.IndexByteString", "internal/bytealg.IndexString", "internal/abi.NoEscape", "internal/bytealg.MakeNoZero"], unfollowed := true, recurses := true, named := ["unicode/utf8.first", "unicode/utf8.acceptRanges", "internal/bytealg.MaxLen"], apart := false, laid := [("unicode/utf8.acceptRanges", laid_unicode_utf8_acceptRanges), ("unicode/utf8.first", laid_unicode_utf8_first)] }
def FnLayerBackSaid : Prop := fnLayerBackRow.holds Tryz.pinned (OpenSpec.ofChange fnLayerBackSpec)

/-- ITS FALSE NEIGHBOUR: 'it returns false'. Refute it at one input. -/
def fnLayerBackWrong : ChangeSpec := { name := "fnLayerBack", fn := fun _ => fun
  | [d] => { results := [.lit (.bool false)], args := [d] }
  | _ => none }
def FnLayerBackWrongFalsely : Prop := fnLayerBackRow.holds Tryz.pinned (OpenSpec.ofChange fnLayerBackWrong)

/-- 'laws.FnLayerSteps': WHATEVER THE INPUT: true; the input reads as it did. -/
def fnLayerStepsSpec : ChangeSpec := { name := "fnLayerSteps", fn := fun _ => fun
  | [d1, d2] => { results := [.lit (.bool true)], args := [d1, d2] }
  | _ => none }
def fnLayerStepsRow : OpenClaim := { program := "ytjndfhgdlclooaagreatdoor", sum := "bbf5d9b09ec81b6d0b960f229c1d1efd44b25bd9ba9759c1824faa2e1703a647", func := "loop.example/pargeting/laws.FnLayerSteps", spec := "fnLayerSteps", inPlace := ["internal/bytealg.CountString", "internal/bytealg.IndexByteString", "internal/bytealg.IndexString", "internal/abi.NoEscape", "internal/bytealg.MakeNoZero"], unfollowed := true, recurses := true, named := ["unicode/utf8.first", "unicode/utf8.acceptRanges", "internal/bytealg.MaxLen"], apart := false, laid := [("unicode/utf8.acceptRanges", laid_unicode_utf8_acceptRanges), ("unicode/utf8.first", laid_unicode_utf8_first)] }
def FnLayerStepsSaid : Prop := fnLayerStepsRow.holds Tryz.pinned (OpenSpec.ofChange fnLayerStepsSpec)

/-- ITS FALSE NEIGHBOUR: 'it returns false'. Refute it at one input. -/
def fnLayerStepsWrong : ChangeSpec := { name := "fnLayerSteps", fn := fun _ => fun
  | [d1, d2] => { results := [.lit (.bool false)], args := [d1, d2] }
  | _ => none }
def FnLayerStepsWrongFalsely : Prop := fnLayerStepsRow.holds Tryz.pinned (OpenSpec.ofChange fnLayerStepsWrong)

/-- 'laws.FnExactOverOk': WHATEVER THE INPUT: true; the input reads as it did. -/
def fnExactOverOkSpec : ChangeSpec := { name := "fnExactOverOk", fn := fun _ => fun
  | [d] => { results := [.lit (.bool true)], args := [d] }
  | _ => none }
def fnExactOverOkRow : OpenClaim := { program := "ytjndfhgdlclooaagreatdoor", sum := "bbf5d9b09ec81b6d0b960f229c1d1efd44b25bd9ba9759c1824faa2e1703a647", func := "loop.example/pargeting/laws.FnExactOverOk", spec := "fnExactOverOk", inPlace := ["internal/bytealg.CountString", "internal/bytealg.IndexByteString", "internal/bytealg.IndexString", "internal/abi.NoEscape", "internal/bytealg.MakeNoZero"], unfollowed := true, recurses := true, named := ["unicode/utf8.first", "unicode/utf8.acceptRanges", "internal/bytealg.MaxLen"], apart := false, laid := [("unicode/utf8.acceptRanges", laid_unicode_utf8_acceptRanges), ("unicode/utf8.first", laid_unicode_utf8_first)] }
def FnExactOverOkSaid : Prop := fnExactOverOkRow.holds Tryz.pinned (OpenSpec.ofChange fnExactOverOkSpec)

/-- ITS FALSE NEIGHBOUR: 'it returns false'. Refute it at one input. -/
def fnExactOverOkWrong : ChangeSpec := { name := "fnExactOverOk", fn := fun _ => fun
  | [d] => { results := [.lit (.bool false)], args := [d] }
  | _ => none }
def FnExactOverOkWrongFalsely : Prop := fnExactOverOkRow.holds Tryz.pinned (OpenSpec.ofChange fnExactOverOkWrong)

/-- 'laws.FnLayerThree': WHATEVER THE INPUT: true; the input reads as it did. -/
def fnLayerThreeSpec : ChangeSpec := { name := "fnLayerThree", fn := fun _ => fun
  | [d1, d2] => { results := [.lit (.bool true)], args := [d1, d2] }
  | _ => none }
def fnLayerThreeRow : OpenClaim := { program := "ytjndfhgdlclooaagreatdoor", sum := "bbf5d9b09ec81b6d0b960f229c1d1efd44b25bd9ba9759c1824faa2e1703a647", func := "loop.example/pargeting/laws.FnLayerThree", spec := "fnLayerThree", inPlace := ["internal/bytealg.CountString", "internal/bytealg.IndexByteString", "internal/bytealg.IndexString", "internal/abi.NoEscape", "internal/bytealg.MakeNoZero"], unfollowed := true, recurses := true, named := ["unicode/utf8.first", "unicode/utf8.acceptRanges", "internal/bytealg.MaxLen"], apart := false, laid := [("unicode/utf8.acceptRanges", laid_unicode_utf8_acceptRanges), ("unicode/utf8.first", laid_unicode_utf8_first)] }
def FnLayerThreeSaid : Prop := fnLayerThreeRow.holds Tryz.pinned (OpenSpec.ofChange fnLayerThreeSpec)

/-- ITS FALSE NEIGHBOUR: 'it returns false'. Refute it at one input. -/
def fnLayerThreeWrong : ChangeSpec := { name := "fnLayerThree", fn := fun _ => fun
  | [d1, d2] => { results := [.lit (.bool false)], args := [d1, d2] }
  | _ => none }
def FnLayerThreeWrongFalsely : Prop := fnLayerThreeRow.holds Tryz.pinned (OpenSpec.ofChange fnLayerThreeWrong)

/-- 'laws.FnLayerTop': WHATEVER THE INPUT: true; the input reads as it did. -/
def fnLayerTopSpec : ChangeSpec := { name := "fnLayerTop", fn := fun _ => fun
  | [d1, d2] => { results := [.lit (.bool true)], args := [d1, d2] }
  | _ => none }
def fnLayerTopRow : OpenClaim := { program := "ytjndfhgdlclooaagreatdoor", sum := "bbf5d9b09ec81b6d0b960f229c1d1efd44b25bd9ba9759c1824faa2e1703a647", func := "loop.example/pargeting/laws.FnLayerTop", spec := "fnLayerTop", inPlace := ["internal/bytealg.CountString", "internal/bytealg.IndexByteString", "internal/bytealg.IndexString", "internal/abi.NoEscape", "internal/bytealg.MakeNoZero"], unfollowed := true, recurses := true, named := ["unicode/utf8.first", "unicode/utf8.acceptRanges", "internal/bytealg.MaxLen"], apart := false, laid := [("unicode/utf8.acceptRanges", laid_unicode_utf8_acceptRanges), ("unicode/utf8.first", laid_unicode_utf8_first)] }
def FnLayerTopSaid : Prop := fnLayerTopRow.holds Tryz.pinned (OpenSpec.ofChange fnLayerTopSpec)

/-- ITS FALSE NEIGHBOUR: 'it returns false'. Refute it at one input. -/
def fnLayerTopWrong : ChangeSpec := { name := "fnLayerTop", fn := fun _ => fun
  | [d1, d2] => { results := [.lit (.bool false)], args := [d1, d2] }
  | _ => none }
def FnLayerTopWrongFalsely : Prop := fnLayerTopRow.holds Tryz.pinned (OpenSpec.ofChange fnLayerTopWrong)

/-- 'laws.FnLayerJoin': WHATEVER THE INPUT: true; the input reads as it did. -/
def fnLayerJoinSpec : ChangeSpec := { name := "fnLayerJoin", fn := fun _ => fun
  | [d1, d2] => { results := [.lit (.bool true)], args := [d1, d2] }
  | _ => none }
def fnLayerJoinRow : OpenClaim := { program := "ytjndfhgdlclooaagreatdoor", sum := "bbf5d9b09ec81b6d0b960f229c1d1efd44b25bd9ba9759c1824faa2e1703a647", func := "loop.example/pargeting/laws.FnLayerJoin", spec := "fnLayerJoin", inPlace := ["internal/bytealg.CountString", "internal/bytealg.IndexByteString", "internal/bytealg.IndexString", "internal/abi.NoEscape", "internal/bytealg.MakeNoZero"], unfollowed := true, recurses := true, named := ["unicode/utf8.first", "unicode/utf8.acceptRanges", "internal/bytealg.MaxLen"], apart := false, laid := [("unicode/utf8.acceptRanges", laid_unicode_utf8_acceptRanges), ("unicode/utf8.first", laid_unicode_utf8_first)] }
def FnLayerJoinSaid : Prop := fnLayerJoinRow.holds Tryz.pinned (OpenSpec.ofChange fnLayerJoinSpec)

/-- ITS FALSE NEIGHBOUR: 'it returns false'. Refute it at one input. -/
def fnLayerJoinWrong : ChangeSpec := { name := "fnLayerJoin", fn := fun _ => fun
  | [d1, d2] => { results := [.lit (.bool false)], args := [d1, d2] }
  | _ => none }
def FnLayerJoinWrongFalsely : Prop := fnLayerJoinRow.holds Tryz.pinned (OpenSpec.ofChange fnLayerJoinWrong)

/-- 'laws.FnExactOverGet': WHATEVER THE INPUT: true; the input reads as it did. -/
def fnExactOverGetSpec : ChangeSpec := { name := "fnExactOverGet", fn := fun _ => fun
  | [d1, d2] => { results := [.lit (.bool true)], args := [d1, d2] }
  | _ => none }
def fnExactOverGetRow : OpenClaim := { program := "ytjndfhgdlclooaagreatdoor", sum := "bbf5d9b09ec81b6d0b960f229c1d1efd44b25bd9ba9759c1824faa2e1703a647", func := "loop.example/pargeting/laws.FnExactOverGet", spec := "fnExactOverGet", inPlace := ["internal/bytealg.CountString", "internal/bytealg.IndexByteString", "internal/bytealg.IndexString", "internal/abi.NoEscape", "internal/bytealg.MakeNoZero"], unfollowed := true, recurses := true, named := ["unicode/utf8.first", "unicode/utf8.acceptRanges", "internal/bytealg.MaxLen"], apart := false, laid := [("unicode/utf8.acceptRanges", laid_unicode_utf8_acceptRanges), ("unicode/utf8.first", laid_unicode_utf8_first)] }
def FnExactOverGetSaid : Prop := fnExactOverGetRow.holds Tryz.pinned (OpenSpec.ofChange fnExactOverGetSpec)

/-- ITS FALSE NEIGHBOUR: 'it returns false'. Refute it at one input. -/
def fnExactOverGetWrong : ChangeSpec := { name := "fnExactOverGet", fn := fun _ => fun
  | [d1, d2] => { results := [.lit (.bool false)], args := [d1, d2] }
  | _ => none }
def FnExactOverGetWrongFalsely : Prop := fnExactOverGetRow.holds Tryz.pinned (OpenSpec.ofChange fnExactOverGetWrong)

/-- 'laws.FnExactOverLower': WHATEVER THE INPUT: true; the input reads as it did. -/
def fnExactOverLowerSpec : ChangeSpec := { name := "fnExactOverLower", fn := fun _ => fun
  | [d] => { results := [.lit (.bool true)], args := [d] }
  | _ => none }
def fnExactOverLowerRow : OpenClaim := { program := "ytjndfhgdlclooaagreatdoor", sum := "bbf5d9b09ec81b6d0b960f229c1d1efd44b25bd9ba9759c1824faa2e1703a647", func := "loop.example/pargeting/laws.FnExactOverLower", spec := "fnExactOverLower", inPlace := ["internal/bytealg.CountString", "internal/bytealg.IndexByteString", "internal/bytealg.IndexString", "internal/abi.NoEscape", "internal/bytealg.MakeNoZero"], unfollowed := true, recurses := true, named := ["unicode/utf8.first", "unicode/utf8.acceptRanges", "internal/bytealg.MaxLen"], apart := false, laid := [("unicode/utf8.acceptRanges", laid_unicode_utf8_acceptRanges), ("unicode/utf8.first", laid_unicode_utf8_first)] }
def FnExactOverLowerSaid : Prop := fnExactOverLowerRow.holds Tryz.pinned (OpenSpec.ofChange fnExactOverLowerSpec)

/-- ITS FALSE NEIGHBOUR: 'it returns false'. Refute it at one input. -/
def fnExactOverLowerWrong : ChangeSpec := { name := "fnExactOverLower", fn := fun _ => fun
  | [d] => { results := [.lit (.bool false)], args := [d] }
  | _ => none }
def FnExactOverLowerWrongFalsely : Prop := fnExactOverLowerRow.holds Tryz.pinned (OpenSpec.ofChange fnExactOverLowerWrong)

/-- 'laws.FnExactOverView': WHATEVER THE INPUT: true; the input reads as it did. -/
def fnExactOverViewSpec : ChangeSpec := { name := "fnExactOverView", fn := fun _ => fun
  | [d] => { results := [.lit (.bool true)], args := [d] }
  | _ => none }
def fnExactOverViewRow : OpenClaim := { program := "ytjndfhgdlclooaagreatdoor", sum := "bbf5d9b09ec81b6d0b960f229c1d1efd44b25bd9ba9759c1824faa2e1703a647", func := "loop.example/pargeting/laws.FnExactOverView", spec := "fnExactOverView", inPlace := ["internal/bytealg.CountString", "internal/bytealg.IndexByteString", "internal/bytealg.IndexString", "internal/abi.NoEscape", "internal/bytealg.MakeNoZero"], unfollowed := true, recurses := true, named := ["unicode/utf8.first", "unicode/utf8.acceptRanges", "internal/bytealg.MaxLen"], apart := false, laid := [("unicode/utf8.acceptRanges", laid_unicode_utf8_acceptRanges), ("unicode/utf8.first", laid_unicode_utf8_first)] }
def FnExactOverViewSaid : Prop := fnExactOverViewRow.holds Tryz.pinned (OpenSpec.ofChange fnExactOverViewSpec)

/-- ITS FALSE NEIGHBOUR: 'it returns false'. Refute it at one input. -/
def fnExactOverViewWrong : ChangeSpec := { name := "fnExactOverView", fn := fun _ => fun
  | [d] => { results := [.lit (.bool false)], args := [d] }
  | _ => none }
def FnExactOverViewWrongFalsely : Prop := fnExactOverViewRow.holds Tryz.pinned (OpenSpec.ofChange fnExactOverViewWrong)

/- THE SECOND FORM. 'bulk': how many values and letters a reading holds, each counted each time it is reached (what is shared counts as often as it is met; a slice's spare places count too). A statement '..UptoSaid' is the law's where the arguments, and the package variables that the reading takes, are together of bulk at most 1048576: NARROWER than '..Said'. Prove '..Said' where nothing that the law and all that it calls make is longer than what came in: it says more and counts as full. Else prove '..UptoSaid'. A law counts once. -/
mutual
def uptoBulk {H : Type} : DataW H → Nat
  | .lit (.string bytes) => bytes.length + 1
  | .lit _ => 1
  | .nil => 1
  | .ptr d => uptoBulk d + 1
  | .slice elems spare => uptoBulkAll elems + uptoBulkAll spare + 1
  | .agg parts => uptoBulkAll parts + 1
  | .iface _ d => uptoBulk d + 1
  | .map entries => uptoBulkEntries entries + 1
  | .held _ => 1
def uptoBulkAll {H : Type} : List (DataW H) → Nat
  | [] => 0
  | d :: r => uptoBulk d + uptoBulkAll r
def uptoBulkEntries {H : Type} : List (Lit × DataW H) → Nat
  | [] => 0
  | x :: r => uptoBulkEntry x + uptoBulkEntries r
def uptoBulkEntry {H : Type} : Lit × DataW H → Nat
  | (.string bytes, d) => bytes.length + uptoBulk d + 1
  | (_, d) => uptoBulk d + 1
 end
def uptoSmall : (H : Type) → List (DataW H) → Bool := fun _ ds => decide (uptoBulkAll ds ≤ 1048576)
def OpenSpec.upto (s : _root_.Go.ChangeSpec) : _root_.Go.OpenSpec := { _root_.Go.OpenSpec.ofChange s with cond := some uptoSmall }

/-- 'laws.FnLayerBack', WHERE WHAT IT READS IS OF BULK AT MOST 1048576: true; the input reads as it did. -/
def fnLayerBackUptoRow : OpenClaim := { program := "ytjndfhgdlclooaagreatdoor", sum := "bbf5d9b09ec81b6d0b960f229c1d1efd44b25bd9ba9759c1824faa2e1703a647", func := "loop.example/pargeting/laws.FnLayerBack", spec := "fnLayerBack", inPlace := ["internal/bytealg.CountString", "internal/bytealg.IndexByteString", "internal/bytealg.IndexString", "internal/abi.NoEscape", "internal/bytealg.MakeNoZero"], unfollowed := true, recurses := true, named := ["unicode/utf8.first", "unicode/utf8.acceptRanges", "internal/bytealg.MaxLen"], apart := false, laid := [("unicode/utf8.acceptRanges", laid_unicode_utf8_acceptRanges), ("unicode/utf8.first", laid_unicode_utf8_first)], narrowed := true }
def FnLayerBackUptoSaid : Prop := fnLayerBackUptoRow.holds Tryz.pinned (OpenSpec.upto fnLayerBackSpec)

/-- 'laws.FnLayerSteps', WHERE WHAT IT READS IS OF BULK AT MOST 1048576: true; the input reads as it did. -/
def fnLayerStepsUptoRow : OpenClaim := { program := "ytjndfhgdlclooaagreatdoor", sum := "bbf5d9b09ec81b6d0b960f229c1d1efd44b25bd9ba9759c1824faa2e1703a647", func := "loop.example/pargeting/laws.FnLayerSteps", spec := "fnLayerSteps", inPlace := ["internal/bytealg.CountString", "internal/bytealg.IndexByteString", "internal/bytealg.IndexString", "internal/abi.NoEscape", "internal/bytealg.MakeNoZero"], unfollowed := true, recurses := true, named := ["unicode/utf8.first", "unicode/utf8.acceptRanges", "internal/bytealg.MaxLen"], apart := false, laid := [("unicode/utf8.acceptRanges", laid_unicode_utf8_acceptRanges), ("unicode/utf8.first", laid_unicode_utf8_first)], narrowed := true }
def FnLayerStepsUptoSaid : Prop := fnLayerStepsUptoRow.holds Tryz.pinned (OpenSpec.upto fnLayerStepsSpec)

/-- 'laws.FnExactOverOk', WHERE WHAT IT READS IS OF BULK AT MOST 1048576: true; the input reads as it did. -/
def fnExactOverOkUptoRow : OpenClaim := { program := "ytjndfhgdlclooaagreatdoor", sum := "bbf5d9b09ec81b6d0b960f229c1d1efd44b25bd9ba9759c1824faa2e1703a647", func := "loop.example/pargeting/laws.FnExactOverOk", spec := "fnExactOverOk", inPlace := ["internal/bytealg.CountString", "internal/bytealg.IndexByteString", "internal/bytealg.IndexString", "internal/abi.NoEscape", "internal/bytealg.MakeNoZero"], unfollowed := true, recurses := true, named := ["unicode/utf8.first", "unicode/utf8.acceptRanges", "internal/bytealg.MaxLen"], apart := false, laid := [("unicode/utf8.acceptRanges", laid_unicode_utf8_acceptRanges), ("unicode/utf8.first", laid_unicode_utf8_first)], narrowed := true }
def FnExactOverOkUptoSaid : Prop := fnExactOverOkUptoRow.holds Tryz.pinned (OpenSpec.upto fnExactOverOkSpec)

/-- 'laws.FnLayerThree', WHERE WHAT IT READS IS OF BULK AT MOST 1048576: true; the input reads as it did. -/
def fnLayerThreeUptoRow : OpenClaim := { program := "ytjndfhgdlclooaagreatdoor", sum := "bbf5d9b09ec81b6d0b960f229c1d1efd44b25bd9ba9759c1824faa2e1703a647", func := "loop.example/pargeting/laws.FnLayerThree", spec := "fnLayerThree", inPlace := ["internal/bytealg.CountString", "internal/bytealg.IndexByteString", "internal/bytealg.IndexString", "internal/abi.NoEscape", "internal/bytealg.MakeNoZero"], unfollowed := true, recurses := true, named := ["unicode/utf8.first", "unicode/utf8.acceptRanges", "internal/bytealg.MaxLen"], apart := false, laid := [("unicode/utf8.acceptRanges", laid_unicode_utf8_acceptRanges), ("unicode/utf8.first", laid_unicode_utf8_first)], narrowed := true }
def FnLayerThreeUptoSaid : Prop := fnLayerThreeUptoRow.holds Tryz.pinned (OpenSpec.upto fnLayerThreeSpec)

/-- 'laws.FnLayerTop', WHERE WHAT IT READS IS OF BULK AT MOST 1048576: true; the input reads as it did. -/
def fnLayerTopUptoRow : OpenClaim := { program := "ytjndfhgdlclooaagreatdoor", sum := "bbf5d9b09ec81b6d0b960f229c1d1efd44b25bd9ba9759c1824faa2e1703a647", func := "loop.example/pargeting/laws.FnLayerTop", spec := "fnLayerTop", inPlace := ["internal/bytealg.CountString", "internal/bytealg.IndexByteString", "internal/bytealg.IndexString", "internal/abi.NoEscape", "internal/bytealg.MakeNoZero"], unfollowed := true, recurses := true, named := ["unicode/utf8.first", "unicode/utf8.acceptRanges", "internal/bytealg.MaxLen"], apart := false, laid := [("unicode/utf8.acceptRanges", laid_unicode_utf8_acceptRanges), ("unicode/utf8.first", laid_unicode_utf8_first)], narrowed := true }
def FnLayerTopUptoSaid : Prop := fnLayerTopUptoRow.holds Tryz.pinned (OpenSpec.upto fnLayerTopSpec)

/-- 'laws.FnLayerJoin', WHERE WHAT IT READS IS OF BULK AT MOST 1048576: true; the input reads as it did. -/
def fnLayerJoinUptoRow : OpenClaim := { program := "ytjndfhgdlclooaagreatdoor", sum := "bbf5d9b09ec81b6d0b960f229c1d1efd44b25bd9ba9759c1824faa2e1703a647", func := "loop.example/pargeting/laws.FnLayerJoin", spec := "fnLayerJoin", inPlace := ["internal/bytealg.CountString", "internal/bytealg.IndexByteString", "internal/bytealg.IndexString", "internal/abi.NoEscape", "internal/bytealg.MakeNoZero"], unfollowed := true, recurses := true, named := ["unicode/utf8.first", "unicode/utf8.acceptRanges", "internal/bytealg.MaxLen"], apart := false, laid := [("unicode/utf8.acceptRanges", laid_unicode_utf8_acceptRanges), ("unicode/utf8.first", laid_unicode_utf8_first)], narrowed := true }
def FnLayerJoinUptoSaid : Prop := fnLayerJoinUptoRow.holds Tryz.pinned (OpenSpec.upto fnLayerJoinSpec)

/-- 'laws.FnExactOverGet', WHERE WHAT IT READS IS OF BULK AT MOST 1048576: true; the input reads as it did. -/
def fnExactOverGetUptoRow : OpenClaim := { program := "ytjndfhgdlclooaagreatdoor", sum := "bbf5d9b09ec81b6d0b960f229c1d1efd44b25bd9ba9759c1824faa2e1703a647", func := "loop.example/pargeting/laws.FnExactOverGet", spec := "fnExactOverGet", inPlace := ["internal/bytealg.CountString", "internal/bytealg.IndexByteString", "internal/bytealg.IndexString", "internal/abi.NoEscape", "internal/bytealg.MakeNoZero"], unfollowed := true, recurses := true, named := ["unicode/utf8.first", "unicode/utf8.acceptRanges", "internal/bytealg.MaxLen"], apart := false, laid := [("unicode/utf8.acceptRanges", laid_unicode_utf8_acceptRanges), ("unicode/utf8.first", laid_unicode_utf8_first)], narrowed := true }
def FnExactOverGetUptoSaid : Prop := fnExactOverGetUptoRow.holds Tryz.pinned (OpenSpec.upto fnExactOverGetSpec)

/-- 'laws.FnExactOverLower', WHERE WHAT IT READS IS OF BULK AT MOST 1048576: true; the input reads as it did. -/
def fnExactOverLowerUptoRow : OpenClaim := { program := "ytjndfhgdlclooaagreatdoor", sum := "bbf5d9b09ec81b6d0b960f229c1d1efd44b25bd9ba9759c1824faa2e1703a647", func := "loop.example/pargeting/laws.FnExactOverLower", spec := "fnExactOverLower", inPlace := ["internal/bytealg.CountString", "internal/bytealg.IndexByteString", "internal/bytealg.IndexString", "internal/abi.NoEscape", "internal/bytealg.MakeNoZero"], unfollowed := true, recurses := true, named := ["unicode/utf8.first", "unicode/utf8.acceptRanges", "internal/bytealg.MaxLen"], apart := false, laid := [("unicode/utf8.acceptRanges", laid_unicode_utf8_acceptRanges), ("unicode/utf8.first", laid_unicode_utf8_first)], narrowed := true }
def FnExactOverLowerUptoSaid : Prop := fnExactOverLowerUptoRow.holds Tryz.pinned (OpenSpec.upto fnExactOverLowerSpec)

/-- 'laws.FnExactOverView', WHERE WHAT IT READS IS OF BULK AT MOST 1048576: true; the input reads as it did. -/
def fnExactOverViewUptoRow : OpenClaim := { program := "ytjndfhgdlclooaagreatdoor", sum := "bbf5d9b09ec81b6d0b960f229c1d1efd44b25bd9ba9759c1824faa2e1703a647", func := "loop.example/pargeting/laws.FnExactOverView", spec := "fnExactOverView", inPlace := ["internal/bytealg.CountString", "internal/bytealg.IndexByteString", "internal/bytealg.IndexString", "internal/abi.NoEscape", "internal/bytealg.MakeNoZero"], unfollowed := true, recurses := true, named := ["unicode/utf8.first", "unicode/utf8.acceptRanges", "internal/bytealg.MaxLen"], apart := false, laid := [("unicode/utf8.acceptRanges", laid_unicode_utf8_acceptRanges), ("unicode/utf8.first", laid_unicode_utf8_first)], narrowed := true }
def FnExactOverViewUptoSaid : Prop := fnExactOverViewUptoRow.holds Tryz.pinned (OpenSpec.upto fnExactOverViewSpec)

end Rows
end Go.Proofs.YtjndfhgdlclooaaGreatDoor

/-
  NARROWER THAN 'FOR EVERY INPUT', by the rows' own cells (each row's printed sentence says how): FnOverBent: laid · FnExactOverLower: laid · FnExactOverView: laid · FnExactOverSink: laid · FnExactOverDrop: laid · FnExactOverPush: laid · FnExactOverFlat: laid · FnExactOverDo: laid.
  DERIVED. THE GIVEN ROWS OF THIS SEAT. 8 by the template 'for every input the law returns true; each argument reads behind the call as it read before'; 0 by the template 'total and deterministic' (their statements: YtmkmldepkponaaaGreatDoorTotals.lean).
  GIVEN WITH THE SEED: the statements are not yours to turn. If you find one false, say at which input.
  Laid BY PROGRAM, IN A SANDBOX (cutbox-rows.mjs): the forced cells as the released guide's own fill.sh prints them over the translation 0a1183bead404e11… (all of the seat's roots in one cut). By AI agents, Wed Nov 11 2026. No macro, syntax, notation, axiom, sorry.
-/
import Derived.Test.YtmkmldepkponaaaGreatDoorChecked
import GoSem.PinnedTables
import GoSem.Claim
import GoSem.ClaimJoined
import GoSem.ClaimMapViews
import Derived.JoinedTies
import Derived.KernelRfl
namespace Go.Proofs.YtmkmldepkponaaaGreatDoor
/- THE CELL 'sum', in the pinned program and in every row, IS THE sha256 OF THE DUMP (.gsa) THAT YtmkmldepkponaaaGreatDoorProg.lean LOADS. Nothing in Lean hashes anything: it is a label: what it is worth is what the hold of that sum in a sandbox is worth. -/
noncomputable def Tryz.pinned : Pinned := { name := "ytmkmldepkponaaagreatdoor", sum := "0a1183bead404e111525921764915dc2b248251c827eba171eb71e5242d5b100", checked := Tryz.checked }
namespace Rows
def none {H : Type} : Left H := { results := [], args := [] }

/- WHAT THE LISTED PACKAGE-LEVEL VARIABLES READ AS WHEN THE CALL BEGINS. Each datum BY PROGRAM (the guide's laid-datum.mjs) off the statement by which the dump's own 'gosem.cut.vars' lays the variable. In a bare row this is a premise. The card (YtmkmldepkponaaaGreatDoorCards.lean) ties it to the program's text. -/
def laid_unicode_utf8_acceptRanges {H : Type} : DataW H := .agg [.agg [.lit (.int .u8 128), .lit (.int .u8 191)], .agg [.lit (.int .u8 160), .lit (.int .u8 191)], .agg [.lit (.int .u8 128), .lit (.int .u8 159)], .agg [.lit (.int .u8 144), .lit (.int .u8 191)], .agg [.lit (.int .u8 128), .lit (.int .u8 143)], .agg [.lit (.int .u8 0), .lit (.int .u8 0)], .agg [.lit (.int .u8 0), .lit (.int .u8 0)], .agg [.lit (.int .u8 0), .lit (.int .u8 0)], .agg [.lit (.int .u8 0), .lit (.int .u8 0)], .agg [.lit (.int .u8 0), .lit (.int .u8 0)], .agg [.lit (.int .u8 0), .lit (.int .u8 0)], .agg [.lit (.int .u8 0), .lit (.int .u8 0)], .agg [.lit (.int .u8 0), .lit (.int .u8 0)], .agg [.lit (.int .u8 0), .lit (.int .u8 0)], .agg [.lit (.int .u8 0), .lit (.int .u8 0)], .agg [.lit (.int .u8 0), .lit (.int .u8 0)]]
/-- One of Go's own tables, pinned by name: the form's constant. -/
def laid_unicode_utf8_first : DataW Unit := Go.Pinned.utf8First

/-- 'laws.FnOverBent': WHATEVER THE INPUT: true; the input reads as it did. -/
def fnOverBentSpec : ChangeSpec := { name := "fnOverBent", fn := fun _ => fun
  | [d] => { results := [.lit (.bool true)], args := [d] }
  | _ => none }
def fnOverBentRow : OpenClaim := { program := "ytmkmldepkponaaagreatdoor", sum := "0a1183bead404e111525921764915dc2b248251c827eba171eb71e5242d5b100", func := "loop.example/pargeting/laws.FnOverBent", spec := "fnOverBent", inPlace := ["internal/bytealg.CountString", "internal/bytealg.IndexByteString", "internal/bytealg.IndexString", "internal/abi.NoEscape", "internal/bytealg.MakeNoZero"], unfollowed := true, recurses := true, named := ["unicode/utf8.first", "unicode/utf8.acceptRanges", "internal/bytealg.MaxLen"], apart := false, laid := [("unicode/utf8.acceptRanges", laid_unicode_utf8_acceptRanges), ("unicode/utf8.first", laid_unicode_utf8_first)] }
def FnOverBentSaid : Prop := fnOverBentRow.holds Tryz.pinned (OpenSpec.ofChange fnOverBentSpec)

/-- ITS FALSE NEIGHBOUR: 'it returns false'. Refute it at one input. -/
def fnOverBentWrong : ChangeSpec := { name := "fnOverBent", fn := fun _ => fun
  | [d] => { results := [.lit (.bool false)], args := [d] }
  | _ => none }
def FnOverBentWrongFalsely : Prop := fnOverBentRow.holds Tryz.pinned (OpenSpec.ofChange fnOverBentWrong)

/-- 'laws.FnExactOverLower': WHATEVER THE INPUT: true; the input reads as it did. -/
def fnExactOverLowerSpec : ChangeSpec := { name := "fnExactOverLower", fn := fun _ => fun
  | [d] => { results := [.lit (.bool true)], args := [d] }
  | _ => none }
def fnExactOverLowerRow : OpenClaim := { program := "ytmkmldepkponaaagreatdoor", sum := "0a1183bead404e111525921764915dc2b248251c827eba171eb71e5242d5b100", func := "loop.example/pargeting/laws.FnExactOverLower", spec := "fnExactOverLower", inPlace := ["internal/bytealg.CountString", "internal/bytealg.IndexByteString", "internal/bytealg.IndexString", "internal/abi.NoEscape", "internal/bytealg.MakeNoZero"], unfollowed := true, recurses := true, named := ["unicode/utf8.first", "unicode/utf8.acceptRanges", "internal/bytealg.MaxLen"], apart := false, laid := [("unicode/utf8.acceptRanges", laid_unicode_utf8_acceptRanges), ("unicode/utf8.first", laid_unicode_utf8_first)] }
def FnExactOverLowerSaid : Prop := fnExactOverLowerRow.holds Tryz.pinned (OpenSpec.ofChange fnExactOverLowerSpec)

/-- ITS FALSE NEIGHBOUR: 'it returns false'. Refute it at one input. -/
def fnExactOverLowerWrong : ChangeSpec := { name := "fnExactOverLower", fn := fun _ => fun
  | [d] => { results := [.lit (.bool false)], args := [d] }
  | _ => none }
def FnExactOverLowerWrongFalsely : Prop := fnExactOverLowerRow.holds Tryz.pinned (OpenSpec.ofChange fnExactOverLowerWrong)

/-- 'laws.FnExactOverView': WHATEVER THE INPUT: true; the input reads as it did. -/
def fnExactOverViewSpec : ChangeSpec := { name := "fnExactOverView", fn := fun _ => fun
  | [d] => { results := [.lit (.bool true)], args := [d] }
  | _ => none }
def fnExactOverViewRow : OpenClaim := { program := "ytmkmldepkponaaagreatdoor", sum := "0a1183bead404e111525921764915dc2b248251c827eba171eb71e5242d5b100", func := "loop.example/pargeting/laws.FnExactOverView", spec := "fnExactOverView", inPlace := ["internal/bytealg.CountString", "internal/bytealg.IndexByteString", "internal/bytealg.IndexString", "internal/abi.NoEscape", "internal/bytealg.MakeNoZero"], unfollowed := true, recurses := true, named := ["unicode/utf8.first", "unicode/utf8.acceptRanges", "internal/bytealg.MaxLen"], apart := false, laid := [("unicode/utf8.acceptRanges", laid_unicode_utf8_acceptRanges), ("unicode/utf8.first", laid_unicode_utf8_first)] }
def FnExactOverViewSaid : Prop := fnExactOverViewRow.holds Tryz.pinned (OpenSpec.ofChange fnExactOverViewSpec)

/-- ITS FALSE NEIGHBOUR: 'it returns false'. Refute it at one input. -/
def fnExactOverViewWrong : ChangeSpec := { name := "fnExactOverView", fn := fun _ => fun
  | [d] => { results := [.lit (.bool false)], args := [d] }
  | _ => none }
def FnExactOverViewWrongFalsely : Prop := fnExactOverViewRow.holds Tryz.pinned (OpenSpec.ofChange fnExactOverViewWrong)

/-- 'laws.FnExactOverSink': WHATEVER THE INPUT: true; the input reads as it did. -/
def fnExactOverSinkSpec : ChangeSpec := { name := "fnExactOverSink", fn := fun _ => fun
  | [d] => { results := [.lit (.bool true)], args := [d] }
  | _ => none }
def fnExactOverSinkRow : OpenClaim := { program := "ytmkmldepkponaaagreatdoor", sum := "0a1183bead404e111525921764915dc2b248251c827eba171eb71e5242d5b100", func := "loop.example/pargeting/laws.FnExactOverSink", spec := "fnExactOverSink", inPlace := ["internal/bytealg.CountString", "internal/bytealg.IndexByteString", "internal/bytealg.IndexString", "internal/abi.NoEscape", "internal/bytealg.MakeNoZero"], unfollowed := true, recurses := true, named := ["unicode/utf8.first", "unicode/utf8.acceptRanges", "internal/bytealg.MaxLen"], apart := false, laid := [("unicode/utf8.acceptRanges", laid_unicode_utf8_acceptRanges), ("unicode/utf8.first", laid_unicode_utf8_first)] }
def FnExactOverSinkSaid : Prop := fnExactOverSinkRow.holds Tryz.pinned (OpenSpec.ofChange fnExactOverSinkSpec)

/-- ITS FALSE NEIGHBOUR: 'it returns false'. Refute it at one input. -/
def fnExactOverSinkWrong : ChangeSpec := { name := "fnExactOverSink", fn := fun _ => fun
  | [d] => { results := [.lit (.bool false)], args := [d] }
  | _ => none }
def FnExactOverSinkWrongFalsely : Prop := fnExactOverSinkRow.holds Tryz.pinned (OpenSpec.ofChange fnExactOverSinkWrong)

/-- 'laws.FnExactOverDrop': WHATEVER THE INPUT: true; the input reads as it did. -/
def fnExactOverDropSpec : ChangeSpec := { name := "fnExactOverDrop", fn := fun _ => fun
  | [d] => { results := [.lit (.bool true)], args := [d] }
  | _ => none }
def fnExactOverDropRow : OpenClaim := { program := "ytmkmldepkponaaagreatdoor", sum := "0a1183bead404e111525921764915dc2b248251c827eba171eb71e5242d5b100", func := "loop.example/pargeting/laws.FnExactOverDrop", spec := "fnExactOverDrop", inPlace := ["internal/bytealg.CountString", "internal/bytealg.IndexByteString", "internal/bytealg.IndexString", "internal/abi.NoEscape", "internal/bytealg.MakeNoZero"], unfollowed := true, recurses := true, named := ["unicode/utf8.first", "unicode/utf8.acceptRanges", "internal/bytealg.MaxLen"], apart := false, laid := [("unicode/utf8.acceptRanges", laid_unicode_utf8_acceptRanges), ("unicode/utf8.first", laid_unicode_utf8_first)] }
def FnExactOverDropSaid : Prop := fnExactOverDropRow.holds Tryz.pinned (OpenSpec.ofChange fnExactOverDropSpec)

/-- ITS FALSE NEIGHBOUR: 'it returns false'. Refute it at one input. -/
def fnExactOverDropWrong : ChangeSpec := { name := "fnExactOverDrop", fn := fun _ => fun
  | [d] => { results := [.lit (.bool false)], args := [d] }
  | _ => none }
def FnExactOverDropWrongFalsely : Prop := fnExactOverDropRow.holds Tryz.pinned (OpenSpec.ofChange fnExactOverDropWrong)

/-- 'laws.FnExactOverPush': WHATEVER THE INPUT: true; the input reads as it did. -/
def fnExactOverPushSpec : ChangeSpec := { name := "fnExactOverPush", fn := fun _ => fun
  | [d] => { results := [.lit (.bool true)], args := [d] }
  | _ => none }
def fnExactOverPushRow : OpenClaim := { program := "ytmkmldepkponaaagreatdoor", sum := "0a1183bead404e111525921764915dc2b248251c827eba171eb71e5242d5b100", func := "loop.example/pargeting/laws.FnExactOverPush", spec := "fnExactOverPush", inPlace := ["internal/bytealg.CountString", "internal/bytealg.IndexByteString", "internal/bytealg.IndexString", "internal/abi.NoEscape", "internal/bytealg.MakeNoZero"], unfollowed := true, recurses := true, named := ["unicode/utf8.first", "unicode/utf8.acceptRanges", "internal/bytealg.MaxLen"], apart := false, laid := [("unicode/utf8.acceptRanges", laid_unicode_utf8_acceptRanges), ("unicode/utf8.first", laid_unicode_utf8_first)] }
def FnExactOverPushSaid : Prop := fnExactOverPushRow.holds Tryz.pinned (OpenSpec.ofChange fnExactOverPushSpec)

/-- ITS FALSE NEIGHBOUR: 'it returns false'. Refute it at one input. -/
def fnExactOverPushWrong : ChangeSpec := { name := "fnExactOverPush", fn := fun _ => fun
  | [d] => { results := [.lit (.bool false)], args := [d] }
  | _ => none }
def FnExactOverPushWrongFalsely : Prop := fnExactOverPushRow.holds Tryz.pinned (OpenSpec.ofChange fnExactOverPushWrong)

/-- 'laws.FnExactOverFlat': WHATEVER THE INPUT: true; the input reads as it did. -/
def fnExactOverFlatSpec : ChangeSpec := { name := "fnExactOverFlat", fn := fun _ => fun
  | [d] => { results := [.lit (.bool true)], args := [d] }
  | _ => none }
def fnExactOverFlatRow : OpenClaim := { program := "ytmkmldepkponaaagreatdoor", sum := "0a1183bead404e111525921764915dc2b248251c827eba171eb71e5242d5b100", func := "loop.example/pargeting/laws.FnExactOverFlat", spec := "fnExactOverFlat", inPlace := ["internal/bytealg.CountString", "internal/bytealg.IndexByteString", "internal/bytealg.IndexString", "internal/abi.NoEscape", "internal/bytealg.MakeNoZero"], unfollowed := true, recurses := true, named := ["unicode/utf8.first", "unicode/utf8.acceptRanges", "internal/bytealg.MaxLen"], apart := false, laid := [("unicode/utf8.acceptRanges", laid_unicode_utf8_acceptRanges), ("unicode/utf8.first", laid_unicode_utf8_first)] }
def FnExactOverFlatSaid : Prop := fnExactOverFlatRow.holds Tryz.pinned (OpenSpec.ofChange fnExactOverFlatSpec)

/-- ITS FALSE NEIGHBOUR: 'it returns false'. Refute it at one input. -/
def fnExactOverFlatWrong : ChangeSpec := { name := "fnExactOverFlat", fn := fun _ => fun
  | [d] => { results := [.lit (.bool false)], args := [d] }
  | _ => none }
def FnExactOverFlatWrongFalsely : Prop := fnExactOverFlatRow.holds Tryz.pinned (OpenSpec.ofChange fnExactOverFlatWrong)

/-- 'laws.FnExactOverDo': WHATEVER THE INPUT: true; the input reads as it did. -/
def fnExactOverDoSpec : ChangeSpec := { name := "fnExactOverDo", fn := fun _ => fun
  | [d1, d2] => { results := [.lit (.bool true)], args := [d1, d2] }
  | _ => none }
def fnExactOverDoRow : OpenClaim := { program := "ytmkmldepkponaaagreatdoor", sum := "0a1183bead404e111525921764915dc2b248251c827eba171eb71e5242d5b100", func := "loop.example/pargeting/laws.FnExactOverDo", spec := "fnExactOverDo", inPlace := ["internal/bytealg.CountString", "internal/bytealg.IndexByteString", "internal/bytealg.IndexString", "internal/abi.NoEscape", "internal/bytealg.MakeNoZero"], unfollowed := true, recurses := true, named := ["unicode/utf8.first", "unicode/utf8.acceptRanges", "internal/bytealg.MaxLen"], apart := false, laid := [("unicode/utf8.acceptRanges", laid_unicode_utf8_acceptRanges), ("unicode/utf8.first", laid_unicode_utf8_first)] }
def FnExactOverDoSaid : Prop := fnExactOverDoRow.holds Tryz.pinned (OpenSpec.ofChange fnExactOverDoSpec)

/-- ITS FALSE NEIGHBOUR: 'it returns false'. Refute it at one input. -/
def fnExactOverDoWrong : ChangeSpec := { name := "fnExactOverDo", fn := fun _ => fun
  | [d1, d2] => { results := [.lit (.bool false)], args := [d1, d2] }
  | _ => none }
def FnExactOverDoWrongFalsely : Prop := fnExactOverDoRow.holds Tryz.pinned (OpenSpec.ofChange fnExactOverDoWrong)

/- THE SECOND FORM. 'bulk': how many values and letters a reading holds, each counted each time it is reached (what is shared counts as often as it is met; a slice's spare places count too). A statement '..UptoSaid' is the law's where the arguments, and the package variables that the reading takes, are together of bulk at most 1048576: NARROWER than '..Said'. Prove '..Said' where nothing that the law and all that it calls make is longer than what came in: it says more and counts as full. Else prove '..UptoSaid'. A law counts once. -/
mutual
def uptoBulk {H : Type} : DataW H → Nat
  | .lit (.string bytes) => bytes.length + 1
  | .lit _ => 1
  | .nil => 1
  | .ptr d => uptoBulk d + 1
  | .slice elems spare => uptoBulkAll elems + uptoBulkAll spare + 1
  | .agg parts => uptoBulkAll parts + 1
  | .iface _ d => uptoBulk d + 1
  | .map entries => uptoBulkEntries entries + 1
  | .held _ => 1
def uptoBulkAll {H : Type} : List (DataW H) → Nat
  | [] => 0
  | d :: r => uptoBulk d + uptoBulkAll r
def uptoBulkEntries {H : Type} : List (Lit × DataW H) → Nat
  | [] => 0
  | x :: r => uptoBulkEntry x + uptoBulkEntries r
def uptoBulkEntry {H : Type} : Lit × DataW H → Nat
  | (.string bytes, d) => bytes.length + uptoBulk d + 1
  | (_, d) => uptoBulk d + 1
 end
def uptoSmall : (H : Type) → List (DataW H) → Bool := fun _ ds => decide (uptoBulkAll ds ≤ 1048576)
def OpenSpec.upto (s : _root_.Go.ChangeSpec) : _root_.Go.OpenSpec := { _root_.Go.OpenSpec.ofChange s with cond := some uptoSmall }

/-- 'laws.FnOverBent', WHERE WHAT IT READS IS OF BULK AT MOST 1048576: true; the input reads as it did. -/
def fnOverBentUptoRow : OpenClaim := { program := "ytmkmldepkponaaagreatdoor", sum := "0a1183bead404e111525921764915dc2b248251c827eba171eb71e5242d5b100", func := "loop.example/pargeting/laws.FnOverBent", spec := "fnOverBent", inPlace := ["internal/bytealg.CountString", "internal/bytealg.IndexByteString", "internal/bytealg.IndexString", "internal/abi.NoEscape", "internal/bytealg.MakeNoZero"], unfollowed := true, recurses := true, named := ["unicode/utf8.first", "unicode/utf8.acceptRanges", "internal/bytealg.MaxLen"], apart := false, laid := [("unicode/utf8.acceptRanges", laid_unicode_utf8_acceptRanges), ("unicode/utf8.first", laid_unicode_utf8_first)], narrowed := true }
def FnOverBentUptoSaid : Prop := fnOverBentUptoRow.holds Tryz.pinned (OpenSpec.upto fnOverBentSpec)

/-- 'laws.FnExactOverLower', WHERE WHAT IT READS IS OF BULK AT MOST 1048576: true; the input reads as it did. -/
def fnExactOverLowerUptoRow : OpenClaim := { program := "ytmkmldepkponaaagreatdoor", sum := "0a1183bead404e111525921764915dc2b248251c827eba171eb71e5242d5b100", func := "loop.example/pargeting/laws.FnExactOverLower", spec := "fnExactOverLower", inPlace := ["internal/bytealg.CountString", "internal/bytealg.IndexByteString", "internal/bytealg.IndexString", "internal/abi.NoEscape", "internal/bytealg.MakeNoZero"], unfollowed := true, recurses := true, named := ["unicode/utf8.first", "unicode/utf8.acceptRanges", "internal/bytealg.MaxLen"], apart := false, laid := [("unicode/utf8.acceptRanges", laid_unicode_utf8_acceptRanges), ("unicode/utf8.first", laid_unicode_utf8_first)], narrowed := true }
def FnExactOverLowerUptoSaid : Prop := fnExactOverLowerUptoRow.holds Tryz.pinned (OpenSpec.upto fnExactOverLowerSpec)

/-- 'laws.FnExactOverView', WHERE WHAT IT READS IS OF BULK AT MOST 1048576: true; the input reads as it did. -/
def fnExactOverViewUptoRow : OpenClaim := { program := "ytmkmldepkponaaagreatdoor", sum := "0a1183bead404e111525921764915dc2b248251c827eba171eb71e5242d5b100", func := "loop.example/pargeting/laws.FnExactOverView", spec := "fnExactOverView", inPlace := ["internal/bytealg.CountString", "internal/bytealg.IndexByteString", "internal/bytealg.IndexString", "internal/abi.NoEscape", "internal/bytealg.MakeNoZero"], unfollowed := true, recurses := true, named := ["unicode/utf8.first", "unicode/utf8.acceptRanges", "internal/bytealg.MaxLen"], apart := false, laid := [("unicode/utf8.acceptRanges", laid_unicode_utf8_acceptRanges), ("unicode/utf8.first", laid_unicode_utf8_first)], narrowed := true }
def FnExactOverViewUptoSaid : Prop := fnExactOverViewUptoRow.holds Tryz.pinned (OpenSpec.upto fnExactOverViewSpec)

/-- 'laws.FnExactOverSink', WHERE WHAT IT READS IS OF BULK AT MOST 1048576: true; the input reads as it did. -/
def fnExactOverSinkUptoRow : OpenClaim := { program := "ytmkmldepkponaaagreatdoor", sum := "0a1183bead404e111525921764915dc2b248251c827eba171eb71e5242d5b100", func := "loop.example/pargeting/laws.FnExactOverSink", spec := "fnExactOverSink", inPlace := ["internal/bytealg.CountString", "internal/bytealg.IndexByteString", "internal/bytealg.IndexString", "internal/abi.NoEscape", "internal/bytealg.MakeNoZero"], unfollowed := true, recurses := true, named := ["unicode/utf8.first", "unicode/utf8.acceptRanges", "internal/bytealg.MaxLen"], apart := false, laid := [("unicode/utf8.acceptRanges", laid_unicode_utf8_acceptRanges), ("unicode/utf8.first", laid_unicode_utf8_first)], narrowed := true }
def FnExactOverSinkUptoSaid : Prop := fnExactOverSinkUptoRow.holds Tryz.pinned (OpenSpec.upto fnExactOverSinkSpec)

/-- 'laws.FnExactOverDrop', WHERE WHAT IT READS IS OF BULK AT MOST 1048576: true; the input reads as it did. -/
def fnExactOverDropUptoRow : OpenClaim := { program := "ytmkmldepkponaaagreatdoor", sum := "0a1183bead404e111525921764915dc2b248251c827eba171eb71e5242d5b100", func := "loop.example/pargeting/laws.FnExactOverDrop", spec := "fnExactOverDrop", inPlace := ["internal/bytealg.CountString", "internal/bytealg.IndexByteString", "internal/bytealg.IndexString", "internal/abi.NoEscape", "internal/bytealg.MakeNoZero"], unfollowed := true, recurses := true, named := ["unicode/utf8.first", "unicode/utf8.acceptRanges", "internal/bytealg.MaxLen"], apart := false, laid := [("unicode/utf8.acceptRanges", laid_unicode_utf8_acceptRanges), ("unicode/utf8.first", laid_unicode_utf8_first)], narrowed := true }
def FnExactOverDropUptoSaid : Prop := fnExactOverDropUptoRow.holds Tryz.pinned (OpenSpec.upto fnExactOverDropSpec)

/-- 'laws.FnExactOverPush', WHERE WHAT IT READS IS OF BULK AT MOST 1048576: true; the input reads as it did. -/
def fnExactOverPushUptoRow : OpenClaim := { program := "ytmkmldepkponaaagreatdoor", sum := "0a1183bead404e111525921764915dc2b248251c827eba171eb71e5242d5b100", func := "loop.example/pargeting/laws.FnExactOverPush", spec := "fnExactOverPush", inPlace := ["internal/bytealg.CountString", "internal/bytealg.IndexByteString", "internal/bytealg.IndexString", "internal/abi.NoEscape", "internal/bytealg.MakeNoZero"], unfollowed := true, recurses := true, named := ["unicode/utf8.first", "unicode/utf8.acceptRanges", "internal/bytealg.MaxLen"], apart := false, laid := [("unicode/utf8.acceptRanges", laid_unicode_utf8_acceptRanges), ("unicode/utf8.first", laid_unicode_utf8_first)], narrowed := true }
def FnExactOverPushUptoSaid : Prop := fnExactOverPushUptoRow.holds Tryz.pinned (OpenSpec.upto fnExactOverPushSpec)

/-- 'laws.FnExactOverFlat', WHERE WHAT IT READS IS OF BULK AT MOST 1048576: true; the input reads as it did. -/
def fnExactOverFlatUptoRow : OpenClaim := { program := "ytmkmldepkponaaagreatdoor", sum := "0a1183bead404e111525921764915dc2b248251c827eba171eb71e5242d5b100", func := "loop.example/pargeting/laws.FnExactOverFlat", spec := "fnExactOverFlat", inPlace := ["internal/bytealg.CountString", "internal/bytealg.IndexByteString", "internal/bytealg.IndexString", "internal/abi.NoEscape", "internal/bytealg.MakeNoZero"], unfollowed := true, recurses := true, named := ["unicode/utf8.first", "unicode/utf8.acceptRanges", "internal/bytealg.MaxLen"], apart := false, laid := [("unicode/utf8.acceptRanges", laid_unicode_utf8_acceptRanges), ("unicode/utf8.first", laid_unicode_utf8_first)], narrowed := true }
def FnExactOverFlatUptoSaid : Prop := fnExactOverFlatUptoRow.holds Tryz.pinned (OpenSpec.upto fnExactOverFlatSpec)

/-- 'laws.FnExactOverDo', WHERE WHAT IT READS IS OF BULK AT MOST 1048576: true; the input reads as it did. -/
def fnExactOverDoUptoRow : OpenClaim := { program := "ytmkmldepkponaaagreatdoor", sum := "0a1183bead404e111525921764915dc2b248251c827eba171eb71e5242d5b100", func := "loop.example/pargeting/laws.FnExactOverDo", spec := "fnExactOverDo", inPlace := ["internal/bytealg.CountString", "internal/bytealg.IndexByteString", "internal/bytealg.IndexString", "internal/abi.NoEscape", "internal/bytealg.MakeNoZero"], unfollowed := true, recurses := true, named := ["unicode/utf8.first", "unicode/utf8.acceptRanges", "internal/bytealg.MaxLen"], apart := false, laid := [("unicode/utf8.acceptRanges", laid_unicode_utf8_acceptRanges), ("unicode/utf8.first", laid_unicode_utf8_first)], narrowed := true }
def FnExactOverDoUptoSaid : Prop := fnExactOverDoUptoRow.holds Tryz.pinned (OpenSpec.upto fnExactOverDoSpec)

end Rows
end Go.Proofs.YtmkmldepkponaaaGreatDoor

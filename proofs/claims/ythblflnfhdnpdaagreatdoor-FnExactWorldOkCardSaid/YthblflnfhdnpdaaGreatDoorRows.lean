/-
  NARROWER THAN 'FOR EVERY INPUT', by the rows' own cells (each row's printed sentence says how): FnOverFlatTwice: laid · FnOverBeneath: laid · FnOverSink: laid · FnOverBent: laid · FnWorldNew: laid · FnWorldSo: laid · FnWorldBent: laid · FnWorldPlay: laid · FnExactWorldOk: laid · FnExactWorldRead: laid.
  DERIVED. THE GIVEN ROWS OF THIS SEAT. 10 by the template 'for every input the law returns true; each argument reads behind the call as it read before'; 0 by the template 'total and deterministic' (their statements: YthblflnfhdnpdaaGreatDoorTotals.lean).
  GIVEN WITH THE SEED: the statements are not yours to turn. If you find one false, say at which input.
  Laid BY PROGRAM, IN A SANDBOX (cutbox-rows.mjs): the forced cells as the released guide's own fill.sh prints them over the translation ff9d81ad95870953… (all of the seat's roots in one cut). By AI agents, Wed Nov 11 2026. No macro, syntax, notation, axiom, sorry.
-/
import Derived.Test.YthblflnfhdnpdaaGreatDoorChecked
import GoSem.PinnedTables
import GoSem.Claim
import GoSem.ClaimJoined
import GoSem.ClaimMapViews
import Derived.JoinedTies
import Derived.KernelRfl
namespace Go.Proofs.YthblflnfhdnpdaaGreatDoor
/- THE CELL 'sum', in the pinned program and in every row, IS THE sha256 OF THE DUMP (.gsa) THAT YthblflnfhdnpdaaGreatDoorProg.lean LOADS. Nothing in Lean hashes anything: it is a label: what it is worth is what the hold of that sum in a sandbox is worth. -/
noncomputable def Tryz.pinned : Pinned := { name := "ythblflnfhdnpdaagreatdoor", sum := "ff9d81ad958709534bacf51feb25febfab7e8f61546dc844d99efc123a88c914", checked := Tryz.checked }
namespace Rows
def none {H : Type} : Left H := { results := [], args := [] }

/- WHAT THE LISTED PACKAGE-LEVEL VARIABLES READ AS WHEN THE CALL BEGINS. Each datum BY PROGRAM (the guide's laid-datum.mjs) off the statement by which the dump's own 'gosem.cut.vars' lays the variable. In a bare row this is a premise. The card (YthblflnfhdnpdaaGreatDoorCards.lean) ties it to the program's text. -/
def laid_unicode_utf8_acceptRanges {H : Type} : DataW H := .agg [.agg [.lit (.int .u8 128), .lit (.int .u8 191)], .agg [.lit (.int .u8 160), .lit (.int .u8 191)], .agg [.lit (.int .u8 128), .lit (.int .u8 159)], .agg [.lit (.int .u8 144), .lit (.int .u8 191)], .agg [.lit (.int .u8 128), .lit (.int .u8 143)], .agg [.lit (.int .u8 0), .lit (.int .u8 0)], .agg [.lit (.int .u8 0), .lit (.int .u8 0)], .agg [.lit (.int .u8 0), .lit (.int .u8 0)], .agg [.lit (.int .u8 0), .lit (.int .u8 0)], .agg [.lit (.int .u8 0), .lit (.int .u8 0)], .agg [.lit (.int .u8 0), .lit (.int .u8 0)], .agg [.lit (.int .u8 0), .lit (.int .u8 0)], .agg [.lit (.int .u8 0), .lit (.int .u8 0)], .agg [.lit (.int .u8 0), .lit (.int .u8 0)], .agg [.lit (.int .u8 0), .lit (.int .u8 0)], .agg [.lit (.int .u8 0), .lit (.int .u8 0)]]
/-- One of Go's own tables, pinned by name: the form's constant. -/
def laid_unicode_utf8_first : DataW Unit := Go.Pinned.utf8First

/-- 'laws.FnOverFlatTwice': WHATEVER THE INPUT: true; the input reads as it did. -/
def fnOverFlatTwiceSpec : ChangeSpec := { name := "fnOverFlatTwice", fn := fun _ => fun
  | [d] => { results := [.lit (.bool true)], args := [d] }
  | _ => none }
def fnOverFlatTwiceRow : OpenClaim := { program := "ythblflnfhdnpdaagreatdoor", sum := "ff9d81ad958709534bacf51feb25febfab7e8f61546dc844d99efc123a88c914", func := "loop.example/pargeting/laws.FnOverFlatTwice", spec := "fnOverFlatTwice", inPlace := ["internal/bytealg.CountString", "internal/bytealg.IndexByteString", "internal/bytealg.IndexString", "internal/abi.NoEscape", "internal/bytealg.MakeNoZero"], unfollowed := true, recurses := true, named := ["unicode/utf8.first", "unicode/utf8.acceptRanges", "internal/bytealg.MaxLen"], apart := false, laid := [("unicode/utf8.acceptRanges", laid_unicode_utf8_acceptRanges), ("unicode/utf8.first", laid_unicode_utf8_first)] }
def FnOverFlatTwiceSaid : Prop := fnOverFlatTwiceRow.holds Tryz.pinned (OpenSpec.ofChange fnOverFlatTwiceSpec)

/-- ITS FALSE NEIGHBOUR: 'it returns false'. Refute it at one input. -/
def fnOverFlatTwiceWrong : ChangeSpec := { name := "fnOverFlatTwice", fn := fun _ => fun
  | [d] => { results := [.lit (.bool false)], args := [d] }
  | _ => none }
def FnOverFlatTwiceWrongFalsely : Prop := fnOverFlatTwiceRow.holds Tryz.pinned (OpenSpec.ofChange fnOverFlatTwiceWrong)

/-- 'laws.FnOverBeneath': WHATEVER THE INPUT: true; the input reads as it did. -/
def fnOverBeneathSpec : ChangeSpec := { name := "fnOverBeneath", fn := fun _ => fun
  | [d] => { results := [.lit (.bool true)], args := [d] }
  | _ => none }
def fnOverBeneathRow : OpenClaim := { program := "ythblflnfhdnpdaagreatdoor", sum := "ff9d81ad958709534bacf51feb25febfab7e8f61546dc844d99efc123a88c914", func := "loop.example/pargeting/laws.FnOverBeneath", spec := "fnOverBeneath", inPlace := ["internal/bytealg.CountString", "internal/bytealg.IndexByteString", "internal/bytealg.IndexString", "internal/abi.NoEscape", "internal/bytealg.MakeNoZero"], unfollowed := true, recurses := true, named := ["unicode/utf8.first", "unicode/utf8.acceptRanges", "internal/bytealg.MaxLen"], apart := false, laid := [("unicode/utf8.acceptRanges", laid_unicode_utf8_acceptRanges), ("unicode/utf8.first", laid_unicode_utf8_first)] }
def FnOverBeneathSaid : Prop := fnOverBeneathRow.holds Tryz.pinned (OpenSpec.ofChange fnOverBeneathSpec)

/-- ITS FALSE NEIGHBOUR: 'it returns false'. Refute it at one input. -/
def fnOverBeneathWrong : ChangeSpec := { name := "fnOverBeneath", fn := fun _ => fun
  | [d] => { results := [.lit (.bool false)], args := [d] }
  | _ => none }
def FnOverBeneathWrongFalsely : Prop := fnOverBeneathRow.holds Tryz.pinned (OpenSpec.ofChange fnOverBeneathWrong)

/-- 'laws.FnOverSink': WHATEVER THE INPUT: true; the input reads as it did. -/
def fnOverSinkSpec : ChangeSpec := { name := "fnOverSink", fn := fun _ => fun
  | [d1, d2] => { results := [.lit (.bool true)], args := [d1, d2] }
  | _ => none }
def fnOverSinkRow : OpenClaim := { program := "ythblflnfhdnpdaagreatdoor", sum := "ff9d81ad958709534bacf51feb25febfab7e8f61546dc844d99efc123a88c914", func := "loop.example/pargeting/laws.FnOverSink", spec := "fnOverSink", inPlace := ["internal/bytealg.CountString", "internal/bytealg.IndexByteString", "internal/bytealg.IndexString", "internal/abi.NoEscape", "internal/bytealg.MakeNoZero"], unfollowed := true, recurses := true, named := ["unicode/utf8.first", "unicode/utf8.acceptRanges", "internal/bytealg.MaxLen"], apart := false, laid := [("unicode/utf8.acceptRanges", laid_unicode_utf8_acceptRanges), ("unicode/utf8.first", laid_unicode_utf8_first)] }
def FnOverSinkSaid : Prop := fnOverSinkRow.holds Tryz.pinned (OpenSpec.ofChange fnOverSinkSpec)

/-- ITS FALSE NEIGHBOUR: 'it returns false'. Refute it at one input. -/
def fnOverSinkWrong : ChangeSpec := { name := "fnOverSink", fn := fun _ => fun
  | [d1, d2] => { results := [.lit (.bool false)], args := [d1, d2] }
  | _ => none }
def FnOverSinkWrongFalsely : Prop := fnOverSinkRow.holds Tryz.pinned (OpenSpec.ofChange fnOverSinkWrong)

/-- 'laws.FnOverBent': WHATEVER THE INPUT: true; the input reads as it did. -/
def fnOverBentSpec : ChangeSpec := { name := "fnOverBent", fn := fun _ => fun
  | [d] => { results := [.lit (.bool true)], args := [d] }
  | _ => none }
def fnOverBentRow : OpenClaim := { program := "ythblflnfhdnpdaagreatdoor", sum := "ff9d81ad958709534bacf51feb25febfab7e8f61546dc844d99efc123a88c914", func := "loop.example/pargeting/laws.FnOverBent", spec := "fnOverBent", inPlace := ["internal/bytealg.CountString", "internal/bytealg.IndexByteString", "internal/bytealg.IndexString", "internal/abi.NoEscape", "internal/bytealg.MakeNoZero"], unfollowed := true, recurses := true, named := ["unicode/utf8.first", "unicode/utf8.acceptRanges", "internal/bytealg.MaxLen"], apart := false, laid := [("unicode/utf8.acceptRanges", laid_unicode_utf8_acceptRanges), ("unicode/utf8.first", laid_unicode_utf8_first)] }
def FnOverBentSaid : Prop := fnOverBentRow.holds Tryz.pinned (OpenSpec.ofChange fnOverBentSpec)

/-- ITS FALSE NEIGHBOUR: 'it returns false'. Refute it at one input. -/
def fnOverBentWrong : ChangeSpec := { name := "fnOverBent", fn := fun _ => fun
  | [d] => { results := [.lit (.bool false)], args := [d] }
  | _ => none }
def FnOverBentWrongFalsely : Prop := fnOverBentRow.holds Tryz.pinned (OpenSpec.ofChange fnOverBentWrong)

/-- 'laws.FnWorldNew': WHATEVER THE INPUT: true; the input reads as it did. -/
def fnWorldNewSpec : ChangeSpec := { name := "fnWorldNew", fn := fun _ => fun
  | [d] => { results := [.lit (.bool true)], args := [d] }
  | _ => none }
def fnWorldNewRow : OpenClaim := { program := "ythblflnfhdnpdaagreatdoor", sum := "ff9d81ad958709534bacf51feb25febfab7e8f61546dc844d99efc123a88c914", func := "loop.example/pargeting/laws.FnWorldNew", spec := "fnWorldNew", inPlace := ["internal/bytealg.CountString", "internal/bytealg.IndexByteString", "internal/bytealg.IndexString", "internal/abi.NoEscape", "internal/bytealg.MakeNoZero"], unfollowed := true, recurses := true, named := ["unicode/utf8.first", "unicode/utf8.acceptRanges", "internal/bytealg.MaxLen"], apart := false, laid := [("unicode/utf8.acceptRanges", laid_unicode_utf8_acceptRanges), ("unicode/utf8.first", laid_unicode_utf8_first)] }
def FnWorldNewSaid : Prop := fnWorldNewRow.holds Tryz.pinned (OpenSpec.ofChange fnWorldNewSpec)

/-- ITS FALSE NEIGHBOUR: 'it returns false'. Refute it at one input. -/
def fnWorldNewWrong : ChangeSpec := { name := "fnWorldNew", fn := fun _ => fun
  | [d] => { results := [.lit (.bool false)], args := [d] }
  | _ => none }
def FnWorldNewWrongFalsely : Prop := fnWorldNewRow.holds Tryz.pinned (OpenSpec.ofChange fnWorldNewWrong)

/-- 'laws.FnWorldSo': WHATEVER THE INPUT: true; the input reads as it did. -/
def fnWorldSoSpec : ChangeSpec := { name := "fnWorldSo", fn := fun _ => fun
  | [d] => { results := [.lit (.bool true)], args := [d] }
  | _ => none }
def fnWorldSoRow : OpenClaim := { program := "ythblflnfhdnpdaagreatdoor", sum := "ff9d81ad958709534bacf51feb25febfab7e8f61546dc844d99efc123a88c914", func := "loop.example/pargeting/laws.FnWorldSo", spec := "fnWorldSo", inPlace := ["internal/bytealg.CountString", "internal/bytealg.IndexByteString", "internal/bytealg.IndexString", "internal/abi.NoEscape", "internal/bytealg.MakeNoZero"], unfollowed := true, recurses := true, named := ["unicode/utf8.first", "unicode/utf8.acceptRanges", "internal/bytealg.MaxLen"], apart := false, laid := [("unicode/utf8.acceptRanges", laid_unicode_utf8_acceptRanges), ("unicode/utf8.first", laid_unicode_utf8_first)] }
def FnWorldSoSaid : Prop := fnWorldSoRow.holds Tryz.pinned (OpenSpec.ofChange fnWorldSoSpec)

/-- ITS FALSE NEIGHBOUR: 'it returns false'. Refute it at one input. -/
def fnWorldSoWrong : ChangeSpec := { name := "fnWorldSo", fn := fun _ => fun
  | [d] => { results := [.lit (.bool false)], args := [d] }
  | _ => none }
def FnWorldSoWrongFalsely : Prop := fnWorldSoRow.holds Tryz.pinned (OpenSpec.ofChange fnWorldSoWrong)

/-- 'laws.FnWorldBent': WHATEVER THE INPUT: true; the input reads as it did. -/
def fnWorldBentSpec : ChangeSpec := { name := "fnWorldBent", fn := fun _ => fun
  | [d] => { results := [.lit (.bool true)], args := [d] }
  | _ => none }
def fnWorldBentRow : OpenClaim := { program := "ythblflnfhdnpdaagreatdoor", sum := "ff9d81ad958709534bacf51feb25febfab7e8f61546dc844d99efc123a88c914", func := "loop.example/pargeting/laws.FnWorldBent", spec := "fnWorldBent", inPlace := ["internal/bytealg.CountString", "internal/bytealg.IndexByteString", "internal/bytealg.IndexString", "internal/abi.NoEscape", "internal/bytealg.MakeNoZero"], unfollowed := true, recurses := true, named := ["unicode/utf8.first", "unicode/utf8.acceptRanges", "internal/bytealg.MaxLen"], apart := false, laid := [("unicode/utf8.acceptRanges", laid_unicode_utf8_acceptRanges), ("unicode/utf8.first", laid_unicode_utf8_first)] }
def FnWorldBentSaid : Prop := fnWorldBentRow.holds Tryz.pinned (OpenSpec.ofChange fnWorldBentSpec)

/-- ITS FALSE NEIGHBOUR: 'it returns false'. Refute it at one input. -/
def fnWorldBentWrong : ChangeSpec := { name := "fnWorldBent", fn := fun _ => fun
  | [d] => { results := [.lit (.bool false)], args := [d] }
  | _ => none }
def FnWorldBentWrongFalsely : Prop := fnWorldBentRow.holds Tryz.pinned (OpenSpec.ofChange fnWorldBentWrong)

/-- 'laws.FnWorldPlay': WHATEVER THE INPUT: true; the input reads as it did. -/
def fnWorldPlaySpec : ChangeSpec := { name := "fnWorldPlay", fn := fun _ => fun
  | [d] => { results := [.lit (.bool true)], args := [d] }
  | _ => none }
def fnWorldPlayRow : OpenClaim := { program := "ythblflnfhdnpdaagreatdoor", sum := "ff9d81ad958709534bacf51feb25febfab7e8f61546dc844d99efc123a88c914", func := "loop.example/pargeting/laws.FnWorldPlay", spec := "fnWorldPlay", inPlace := ["internal/bytealg.CountString", "internal/bytealg.IndexByteString", "internal/bytealg.IndexString", "internal/abi.NoEscape", "internal/bytealg.MakeNoZero"], unfollowed := true, recurses := true, named := ["unicode/utf8.first", "unicode/utf8.acceptRanges", "internal/bytealg.MaxLen"], apart := false, laid := [("unicode/utf8.acceptRanges", laid_unicode_utf8_acceptRanges), ("unicode/utf8.first", laid_unicode_utf8_first)] }
def FnWorldPlaySaid : Prop := fnWorldPlayRow.holds Tryz.pinned (OpenSpec.ofChange fnWorldPlaySpec)

/-- ITS FALSE NEIGHBOUR: 'it returns false'. Refute it at one input. -/
def fnWorldPlayWrong : ChangeSpec := { name := "fnWorldPlay", fn := fun _ => fun
  | [d] => { results := [.lit (.bool false)], args := [d] }
  | _ => none }
def FnWorldPlayWrongFalsely : Prop := fnWorldPlayRow.holds Tryz.pinned (OpenSpec.ofChange fnWorldPlayWrong)

/-- 'laws.FnExactWorldOk': WHATEVER THE INPUT: true; the input reads as it did. -/
def fnExactWorldOkSpec : ChangeSpec := { name := "fnExactWorldOk", fn := fun _ => fun
  | [d] => { results := [.lit (.bool true)], args := [d] }
  | _ => none }
def fnExactWorldOkRow : OpenClaim := { program := "ythblflnfhdnpdaagreatdoor", sum := "ff9d81ad958709534bacf51feb25febfab7e8f61546dc844d99efc123a88c914", func := "loop.example/pargeting/laws.FnExactWorldOk", spec := "fnExactWorldOk", inPlace := ["internal/bytealg.CountString", "internal/bytealg.IndexByteString", "internal/bytealg.IndexString", "internal/abi.NoEscape", "internal/bytealg.MakeNoZero"], unfollowed := true, recurses := true, named := ["unicode/utf8.first", "unicode/utf8.acceptRanges", "internal/bytealg.MaxLen"], apart := false, laid := [("unicode/utf8.acceptRanges", laid_unicode_utf8_acceptRanges), ("unicode/utf8.first", laid_unicode_utf8_first)] }
def FnExactWorldOkSaid : Prop := fnExactWorldOkRow.holds Tryz.pinned (OpenSpec.ofChange fnExactWorldOkSpec)

/-- ITS FALSE NEIGHBOUR: 'it returns false'. Refute it at one input. -/
def fnExactWorldOkWrong : ChangeSpec := { name := "fnExactWorldOk", fn := fun _ => fun
  | [d] => { results := [.lit (.bool false)], args := [d] }
  | _ => none }
def FnExactWorldOkWrongFalsely : Prop := fnExactWorldOkRow.holds Tryz.pinned (OpenSpec.ofChange fnExactWorldOkWrong)

/-- 'laws.FnExactWorldRead': WHATEVER THE INPUT: true; the input reads as it did. -/
def fnExactWorldReadSpec : ChangeSpec := { name := "fnExactWorldRead", fn := fun _ => fun
  | [d1, d2, d3] => { results := [.lit (.bool true)], args := [d1, d2, d3] }
  | _ => none }
def fnExactWorldReadRow : OpenClaim := { program := "ythblflnfhdnpdaagreatdoor", sum := "ff9d81ad958709534bacf51feb25febfab7e8f61546dc844d99efc123a88c914", func := "loop.example/pargeting/laws.FnExactWorldRead", spec := "fnExactWorldRead", inPlace := ["internal/bytealg.CountString", "internal/bytealg.IndexByteString", "internal/bytealg.IndexString", "internal/abi.NoEscape", "internal/bytealg.MakeNoZero"], unfollowed := true, recurses := true, named := ["unicode/utf8.first", "unicode/utf8.acceptRanges", "internal/bytealg.MaxLen"], apart := false, laid := [("unicode/utf8.acceptRanges", laid_unicode_utf8_acceptRanges), ("unicode/utf8.first", laid_unicode_utf8_first)] }
def FnExactWorldReadSaid : Prop := fnExactWorldReadRow.holds Tryz.pinned (OpenSpec.ofChange fnExactWorldReadSpec)

/-- ITS FALSE NEIGHBOUR: 'it returns false'. Refute it at one input. -/
def fnExactWorldReadWrong : ChangeSpec := { name := "fnExactWorldRead", fn := fun _ => fun
  | [d1, d2, d3] => { results := [.lit (.bool false)], args := [d1, d2, d3] }
  | _ => none }
def FnExactWorldReadWrongFalsely : Prop := fnExactWorldReadRow.holds Tryz.pinned (OpenSpec.ofChange fnExactWorldReadWrong)

/- THE SECOND FORM. 'bulk': how many values and letters a reading holds, each counted each time it is reached (what is shared counts as often as it is met; a slice's spare places count too). A statement '..UptoSaid' is the law's where the arguments, and the package variables that the reading takes, are together of bulk at most 1048576: NARROWER than '..Said'. Prove '..Said' where nothing that the law and all that it calls make is longer than what came in: it says more and counts as full. Else prove '..UptoSaid'. A law counts once. -/
mutual
def uptoBulk {H : Type} : DataW H → Nat
  | .lit (.string bytes) => bytes.length + 1
  | .lit _ => 1
  | .nil => 1
  | .ptr d => uptoBulk d + 1
  | .slice elems spare => uptoBulkAll elems + uptoBulkAll spare + 1
  | .agg parts => uptoBulkAll parts + 1
  | .iface _ d => uptoBulk d + 1
  | .map entries => uptoBulkEntries entries + 1
  | .held _ => 1
def uptoBulkAll {H : Type} : List (DataW H) → Nat
  | [] => 0
  | d :: r => uptoBulk d + uptoBulkAll r
def uptoBulkEntries {H : Type} : List (Lit × DataW H) → Nat
  | [] => 0
  | x :: r => uptoBulkEntry x + uptoBulkEntries r
def uptoBulkEntry {H : Type} : Lit × DataW H → Nat
  | (.string bytes, d) => bytes.length + uptoBulk d + 1
  | (_, d) => uptoBulk d + 1
 end
def uptoSmall : (H : Type) → List (DataW H) → Bool := fun _ ds => decide (uptoBulkAll ds ≤ 1048576)
def OpenSpec.upto (s : _root_.Go.ChangeSpec) : _root_.Go.OpenSpec := { _root_.Go.OpenSpec.ofChange s with cond := some uptoSmall }

/-- 'laws.FnOverFlatTwice', WHERE WHAT IT READS IS OF BULK AT MOST 1048576: true; the input reads as it did. -/
def fnOverFlatTwiceUptoRow : OpenClaim := { program := "ythblflnfhdnpdaagreatdoor", sum := "ff9d81ad958709534bacf51feb25febfab7e8f61546dc844d99efc123a88c914", func := "loop.example/pargeting/laws.FnOverFlatTwice", spec := "fnOverFlatTwice", inPlace := ["internal/bytealg.CountString", "internal/bytealg.IndexByteString", "internal/bytealg.IndexString", "internal/abi.NoEscape", "internal/bytealg.MakeNoZero"], unfollowed := true, recurses := true, named := ["unicode/utf8.first", "unicode/utf8.acceptRanges", "internal/bytealg.MaxLen"], apart := false, laid := [("unicode/utf8.acceptRanges", laid_unicode_utf8_acceptRanges), ("unicode/utf8.first", laid_unicode_utf8_first)], narrowed := true }
def FnOverFlatTwiceUptoSaid : Prop := fnOverFlatTwiceUptoRow.holds Tryz.pinned (OpenSpec.upto fnOverFlatTwiceSpec)

/-- 'laws.FnOverBeneath', WHERE WHAT IT READS IS OF BULK AT MOST 1048576: true; the input reads as it did. -/
def fnOverBeneathUptoRow : OpenClaim := { program := "ythblflnfhdnpdaagreatdoor", sum := "ff9d81ad958709534bacf51feb25febfab7e8f61546dc844d99efc123a88c914", func := "loop.example/pargeting/laws.FnOverBeneath", spec := "fnOverBeneath", inPlace := ["internal/bytealg.CountString", "internal/bytealg.IndexByteString", "internal/bytealg.IndexString", "internal/abi.NoEscape", "internal/bytealg.MakeNoZero"], unfollowed := true, recurses := true, named := ["unicode/utf8.first", "unicode/utf8.acceptRanges", "internal/bytealg.MaxLen"], apart := false, laid := [("unicode/utf8.acceptRanges", laid_unicode_utf8_acceptRanges), ("unicode/utf8.first", laid_unicode_utf8_first)], narrowed := true }
def FnOverBeneathUptoSaid : Prop := fnOverBeneathUptoRow.holds Tryz.pinned (OpenSpec.upto fnOverBeneathSpec)

/-- 'laws.FnOverSink', WHERE WHAT IT READS IS OF BULK AT MOST 1048576: true; the input reads as it did. -/
def fnOverSinkUptoRow : OpenClaim := { program := "ythblflnfhdnpdaagreatdoor", sum := "ff9d81ad958709534bacf51feb25febfab7e8f61546dc844d99efc123a88c914", func := "loop.example/pargeting/laws.FnOverSink", spec := "fnOverSink", inPlace := ["internal/bytealg.CountString", "internal/bytealg.IndexByteString", "internal/bytealg.IndexString", "internal/abi.NoEscape", "internal/bytealg.MakeNoZero"], unfollowed := true, recurses := true, named := ["unicode/utf8.first", "unicode/utf8.acceptRanges", "internal/bytealg.MaxLen"], apart := false, laid := [("unicode/utf8.acceptRanges", laid_unicode_utf8_acceptRanges), ("unicode/utf8.first", laid_unicode_utf8_first)], narrowed := true }
def FnOverSinkUptoSaid : Prop := fnOverSinkUptoRow.holds Tryz.pinned (OpenSpec.upto fnOverSinkSpec)

/-- 'laws.FnOverBent', WHERE WHAT IT READS IS OF BULK AT MOST 1048576: true; the input reads as it did. -/
def fnOverBentUptoRow : OpenClaim := { program := "ythblflnfhdnpdaagreatdoor", sum := "ff9d81ad958709534bacf51feb25febfab7e8f61546dc844d99efc123a88c914", func := "loop.example/pargeting/laws.FnOverBent", spec := "fnOverBent", inPlace := ["internal/bytealg.CountString", "internal/bytealg.IndexByteString", "internal/bytealg.IndexString", "internal/abi.NoEscape", "internal/bytealg.MakeNoZero"], unfollowed := true, recurses := true, named := ["unicode/utf8.first", "unicode/utf8.acceptRanges", "internal/bytealg.MaxLen"], apart := false, laid := [("unicode/utf8.acceptRanges", laid_unicode_utf8_acceptRanges), ("unicode/utf8.first", laid_unicode_utf8_first)], narrowed := true }
def FnOverBentUptoSaid : Prop := fnOverBentUptoRow.holds Tryz.pinned (OpenSpec.upto fnOverBentSpec)

/-- 'laws.FnWorldNew', WHERE WHAT IT READS IS OF BULK AT MOST 1048576: true; the input reads as it did. -/
def fnWorldNewUptoRow : OpenClaim := { program := "ythblflnfhdnpdaagreatdoor", sum := "ff9d81ad958709534bacf51feb25febfab7e8f61546dc844d99efc123a88c914", func := "loop.example/pargeting/laws.FnWorldNew", spec := "fnWorldNew", inPlace := ["internal/bytealg.CountString", "internal/bytealg.IndexByteString", "internal/bytealg.IndexString", "internal/abi.NoEscape", "internal/bytealg.MakeNoZero"], unfollowed := true, recurses := true, named := ["unicode/utf8.first", "unicode/utf8.acceptRanges", "internal/bytealg.MaxLen"], apart := false, laid := [("unicode/utf8.acceptRanges", laid_unicode_utf8_acceptRanges), ("unicode/utf8.first", laid_unicode_utf8_first)], narrowed := true }
def FnWorldNewUptoSaid : Prop := fnWorldNewUptoRow.holds Tryz.pinned (OpenSpec.upto fnWorldNewSpec)

/-- 'laws.FnWorldSo', WHERE WHAT IT READS IS OF BULK AT MOST 1048576: true; the input reads as it did. -/
def fnWorldSoUptoRow : OpenClaim := { program := "ythblflnfhdnpdaagreatdoor", sum := "ff9d81ad958709534bacf51feb25febfab7e8f61546dc844d99efc123a88c914", func := "loop.example/pargeting/laws.FnWorldSo", spec := "fnWorldSo", inPlace := ["internal/bytealg.CountString", "internal/bytealg.IndexByteString", "internal/bytealg.IndexString", "internal/abi.NoEscape", "internal/bytealg.MakeNoZero"], unfollowed := true, recurses := true, named := ["unicode/utf8.first", "unicode/utf8.acceptRanges", "internal/bytealg.MaxLen"], apart := false, laid := [("unicode/utf8.acceptRanges", laid_unicode_utf8_acceptRanges), ("unicode/utf8.first", laid_unicode_utf8_first)], narrowed := true }
def FnWorldSoUptoSaid : Prop := fnWorldSoUptoRow.holds Tryz.pinned (OpenSpec.upto fnWorldSoSpec)

/-- 'laws.FnWorldBent', WHERE WHAT IT READS IS OF BULK AT MOST 1048576: true; the input reads as it did. -/
def fnWorldBentUptoRow : OpenClaim := { program := "ythblflnfhdnpdaagreatdoor", sum := "ff9d81ad958709534bacf51feb25febfab7e8f61546dc844d99efc123a88c914", func := "loop.example/pargeting/laws.FnWorldBent", spec := "fnWorldBent", inPlace := ["internal/bytealg.CountString", "internal/bytealg.IndexByteString", "internal/bytealg.IndexString", "internal/abi.NoEscape", "internal/bytealg.MakeNoZero"], unfollowed := true, recurses := true, named := ["unicode/utf8.first", "unicode/utf8.acceptRanges", "internal/bytealg.MaxLen"], apart := false, laid := [("unicode/utf8.acceptRanges", laid_unicode_utf8_acceptRanges), ("unicode/utf8.first", laid_unicode_utf8_first)], narrowed := true }
def FnWorldBentUptoSaid : Prop := fnWorldBentUptoRow.holds Tryz.pinned (OpenSpec.upto fnWorldBentSpec)

/-- 'laws.FnWorldPlay', WHERE WHAT IT READS IS OF BULK AT MOST 1048576: true; the input reads as it did. -/
def fnWorldPlayUptoRow : OpenClaim := { program := "ythblflnfhdnpdaagreatdoor", sum := "ff9d81ad958709534bacf51feb25febfab7e8f61546dc844d99efc123a88c914", func := "loop.example/pargeting/laws.FnWorldPlay", spec := "fnWorldPlay", inPlace := ["internal/bytealg.CountString", "internal/bytealg.IndexByteString", "internal/bytealg.IndexString", "internal/abi.NoEscape", "internal/bytealg.MakeNoZero"], unfollowed := true, recurses := true, named := ["unicode/utf8.first", "unicode/utf8.acceptRanges", "internal/bytealg.MaxLen"], apart := false, laid := [("unicode/utf8.acceptRanges", laid_unicode_utf8_acceptRanges), ("unicode/utf8.first", laid_unicode_utf8_first)], narrowed := true }
def FnWorldPlayUptoSaid : Prop := fnWorldPlayUptoRow.holds Tryz.pinned (OpenSpec.upto fnWorldPlaySpec)

/-- 'laws.FnExactWorldOk', WHERE WHAT IT READS IS OF BULK AT MOST 1048576: true; the input reads as it did. -/
def fnExactWorldOkUptoRow : OpenClaim := { program := "ythblflnfhdnpdaagreatdoor", sum := "ff9d81ad958709534bacf51feb25febfab7e8f61546dc844d99efc123a88c914", func := "loop.example/pargeting/laws.FnExactWorldOk", spec := "fnExactWorldOk", inPlace := ["internal/bytealg.CountString", "internal/bytealg.IndexByteString", "internal/bytealg.IndexString", "internal/abi.NoEscape", "internal/bytealg.MakeNoZero"], unfollowed := true, recurses := true, named := ["unicode/utf8.first", "unicode/utf8.acceptRanges", "internal/bytealg.MaxLen"], apart := false, laid := [("unicode/utf8.acceptRanges", laid_unicode_utf8_acceptRanges), ("unicode/utf8.first", laid_unicode_utf8_first)], narrowed := true }
def FnExactWorldOkUptoSaid : Prop := fnExactWorldOkUptoRow.holds Tryz.pinned (OpenSpec.upto fnExactWorldOkSpec)

/-- 'laws.FnExactWorldRead', WHERE WHAT IT READS IS OF BULK AT MOST 1048576: true; the input reads as it did. -/
def fnExactWorldReadUptoRow : OpenClaim := { program := "ythblflnfhdnpdaagreatdoor", sum := "ff9d81ad958709534bacf51feb25febfab7e8f61546dc844d99efc123a88c914", func := "loop.example/pargeting/laws.FnExactWorldRead", spec := "fnExactWorldRead", inPlace := ["internal/bytealg.CountString", "internal/bytealg.IndexByteString", "internal/bytealg.IndexString", "internal/abi.NoEscape", "internal/bytealg.MakeNoZero"], unfollowed := true, recurses := true, named := ["unicode/utf8.first", "unicode/utf8.acceptRanges", "internal/bytealg.MaxLen"], apart := false, laid := [("unicode/utf8.acceptRanges", laid_unicode_utf8_acceptRanges), ("unicode/utf8.first", laid_unicode_utf8_first)], narrowed := true }
def FnExactWorldReadUptoSaid : Prop := fnExactWorldReadUptoRow.holds Tryz.pinned (OpenSpec.upto fnExactWorldReadSpec)

end Rows
end Go.Proofs.YthblflnfhdnpdaaGreatDoor

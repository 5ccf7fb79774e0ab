/-
  NARROWER THAN 'FOR EVERY INPUT', by the rows' own cells (each row's printed sentence says how): FnOverUpper: laid · FnOverLow: laid · FnOverDrop: laid · FnOverEach: laid · FnOverGet: laid · FnOverFlat: laid · FnOver: laid · FnOverBack: laid · FnOverPush: laid.
  DERIVED. THE GIVEN ROWS OF THIS SEAT. 9 by the template 'for every input the law returns true; each argument reads behind the call as it read before'; 0 by the template 'total and deterministic' (their statements: YtaecaabnjenllaaGreatDoorTotals.lean).
  GIVEN WITH THE SEED: the statements are not yours to turn. If you find one false, say at which input.
  Laid BY PROGRAM, IN A SANDBOX (cutbox-rows.mjs): the forced cells as the released guide's own fill.sh prints them over the translation b2c754680521ff45… (all of the seat's roots in one cut). By AI agents, Wed Nov 11 2026. No macro, syntax, notation, axiom, sorry.
-/
import Derived.Test.YtaecaabnjenllaaGreatDoorChecked
import GoSem.PinnedTables
import GoSem.Claim
import GoSem.ClaimJoined
import GoSem.ClaimMapViews
import Derived.JoinedTies
import Derived.KernelRfl
namespace Go.Proofs.YtaecaabnjenllaaGreatDoor
/- THE CELL 'sum', in the pinned program and in every row, IS THE sha256 OF THE DUMP (.gsa) THAT YtaecaabnjenllaaGreatDoorProg.lean LOADS. Nothing in Lean hashes anything: it is a label: what it is worth is what the hold of that sum in a sandbox is worth. -/
noncomputable def Tryz.pinned : Pinned := { name := "ytaecaabnjenllaagreatdoor", sum := "b2c754680521ff451ac50ec5af1393bbf4ee3fcfdbf826f489ae9e0aca7feb8c", checked := Tryz.checked }
namespace Rows
def none {H : Type} : Left H := { results := [], args := [] }

/- WHAT THE LISTED PACKAGE-LEVEL VARIABLES READ AS WHEN THE CALL BEGINS. Each datum BY PROGRAM (the guide's laid-datum.mjs) off the statement by which the dump's own 'gosem.cut.vars' lays the variable. In a bare row this is a premise. The card (YtaecaabnjenllaaGreatDoorCards.lean) ties it to the program's text. -/
def laid_unicode_utf8_acceptRanges {H : Type} : DataW H := .agg [.agg [.lit (.int .u8 128), .lit (.int .u8 191)], .agg [.lit (.int .u8 160), .lit (.int .u8 191)], .agg [.lit (.int .u8 128), .lit (.int .u8 159)], .agg [.lit (.int .u8 144), .lit (.int .u8 191)], .agg [.lit (.int .u8 128), .lit (.int .u8 143)], .agg [.lit (.int .u8 0), .lit (.int .u8 0)], .agg [.lit (.int .u8 0), .lit (.int .u8 0)], .agg [.lit (.int .u8 0), .lit (.int .u8 0)], .agg [.lit (.int .u8 0), .lit (.int .u8 0)], .agg [.lit (.int .u8 0), .lit (.int .u8 0)], .agg [.lit (.int .u8 0), .lit (.int .u8 0)], .agg [.lit (.int .u8 0), .lit (.int .u8 0)], .agg [.lit (.int .u8 0), .lit (.int .u8 0)], .agg [.lit (.int .u8 0), .lit (.int .u8 0)], .agg [.lit (.int .u8 0), .lit (.int .u8 0)], .agg [.lit (.int .u8 0), .lit (.int .u8 0)]]
/-- One of Go's own tables, pinned by name: the form's constant. -/
def laid_unicode_utf8_first : DataW Unit := Go.Pinned.utf8First

/-- 'laws.FnOverUpper': WHATEVER THE INPUT: true; the input reads as it did. -/
def fnOverUpperSpec : ChangeSpec := { name := "fnOverUpper", fn := fun _ => fun
  | [d] => { results := [.lit (.bool true)], args := [d] }
  | _ => none }
def fnOverUpperRow : OpenClaim := { program := "ytaecaabnjenllaagreatdoor", sum := "b2c754680521ff451ac50ec5af1393bbf4ee3fcfdbf826f489ae9e0aca7feb8c", func := "loop.example/pargeting/laws.FnOverUpper", spec := "fnOverUpper", inPlace := ["internal/bytealg.CountString", "internal/bytealg.IndexByteString", "internal/bytealg.IndexString", "internal/abi.NoEscape", "internal/bytealg.MakeNoZero"], unfollowed := true, recurses := true, named := ["unicode/utf8.first", "unicode/utf8.acceptRanges", "internal/bytealg.MaxLen"], apart := false, laid := [("unicode/utf8.acceptRanges", laid_unicode_utf8_acceptRanges), ("unicode/utf8.first", laid_unicode_utf8_first)] }
def FnOverUpperSaid : Prop := fnOverUpperRow.holds Tryz.pinned (OpenSpec.ofChange fnOverUpperSpec)

/-- ITS FALSE NEIGHBOUR: 'it returns false'. Refute it at one input. -/
def fnOverUpperWrong : ChangeSpec := { name := "fnOverUpper", fn := fun _ => fun
  | [d] => { results := [.lit (.bool false)], args := [d] }
  | _ => none }
def FnOverUpperWrongFalsely : Prop := fnOverUpperRow.holds Tryz.pinned (OpenSpec.ofChange fnOverUpperWrong)

/-- 'laws.FnOverLow': WHATEVER THE INPUT: true; the input reads as it did. -/
def fnOverLowSpec : ChangeSpec := { name := "fnOverLow", fn := fun _ => fun
  | [d] => { results := [.lit (.bool true)], args := [d] }
  | _ => none }
def fnOverLowRow : OpenClaim := { program := "ytaecaabnjenllaagreatdoor", sum := "b2c754680521ff451ac50ec5af1393bbf4ee3fcfdbf826f489ae9e0aca7feb8c", func := "loop.example/pargeting/laws.FnOverLow", spec := "fnOverLow", inPlace := ["internal/bytealg.CountString", "internal/bytealg.IndexByteString", "internal/bytealg.IndexString", "internal/abi.NoEscape", "internal/bytealg.MakeNoZero"], unfollowed := true, recurses := true, named := ["unicode/utf8.first", "unicode/utf8.acceptRanges", "internal/bytealg.MaxLen"], apart := false, laid := [("unicode/utf8.acceptRanges", laid_unicode_utf8_acceptRanges), ("unicode/utf8.first", laid_unicode_utf8_first)] }
def FnOverLowSaid : Prop := fnOverLowRow.holds Tryz.pinned (OpenSpec.ofChange fnOverLowSpec)

/-- ITS FALSE NEIGHBOUR: 'it returns false'. Refute it at one input. -/
def fnOverLowWrong : ChangeSpec := { name := "fnOverLow", fn := fun _ => fun
  | [d] => { results := [.lit (.bool false)], args := [d] }
  | _ => none }
def FnOverLowWrongFalsely : Prop := fnOverLowRow.holds Tryz.pinned (OpenSpec.ofChange fnOverLowWrong)

/-- 'laws.FnOverDrop': WHATEVER THE INPUT: true; the input reads as it did. -/
def fnOverDropSpec : ChangeSpec := { name := "fnOverDrop", fn := fun _ => fun
  | [d] => { results := [.lit (.bool true)], args := [d] }
  | _ => none }
def fnOverDropRow : OpenClaim := { program := "ytaecaabnjenllaagreatdoor", sum := "b2c754680521ff451ac50ec5af1393bbf4ee3fcfdbf826f489ae9e0aca7feb8c", func := "loop.example/pargeting/laws.FnOverDrop", spec := "fnOverDrop", inPlace := ["internal/bytealg.CountString", "internal/bytealg.IndexByteString", "internal/bytealg.IndexString", "internal/abi.NoEscape", "internal/bytealg.MakeNoZero"], unfollowed := true, recurses := true, named := ["unicode/utf8.first", "unicode/utf8.acceptRanges", "internal/bytealg.MaxLen"], apart := false, laid := [("unicode/utf8.acceptRanges", laid_unicode_utf8_acceptRanges), ("unicode/utf8.first", laid_unicode_utf8_first)] }
def FnOverDropSaid : Prop := fnOverDropRow.holds Tryz.pinned (OpenSpec.ofChange fnOverDropSpec)

/-- ITS FALSE NEIGHBOUR: 'it returns false'. Refute it at one input. -/
def fnOverDropWrong : ChangeSpec := { name := "fnOverDrop", fn := fun _ => fun
  | [d] => { results := [.lit (.bool false)], args := [d] }
  | _ => none }
def FnOverDropWrongFalsely : Prop := fnOverDropRow.holds Tryz.pinned (OpenSpec.ofChange fnOverDropWrong)

/-- 'laws.FnOverEach': WHATEVER THE INPUT: true; the input reads as it did. -/
def fnOverEachSpec : ChangeSpec := { name := "fnOverEach", fn := fun _ => fun
  | [d] => { results := [.lit (.bool true)], args := [d] }
  | _ => none }
def fnOverEachRow : OpenClaim := { program := "ytaecaabnjenllaagreatdoor", sum := "b2c754680521ff451ac50ec5af1393bbf4ee3fcfdbf826f489ae9e0aca7feb8c", func := "loop.example/pargeting/laws.FnOverEach", spec := "fnOverEach", inPlace := ["internal/bytealg.CountString", "internal/bytealg.IndexByteString", "internal/bytealg.IndexString", "internal/abi.NoEscape", "internal/bytealg.MakeNoZero"], unfollowed := true, recurses := true, named := ["unicode/utf8.first", "unicode/utf8.acceptRanges", "internal/bytealg.MaxLen"], apart := false, laid := [("unicode/utf8.acceptRanges", laid_unicode_utf8_acceptRanges), ("unicode/utf8.first", laid_unicode_utf8_first)] }
def FnOverEachSaid : Prop := fnOverEachRow.holds Tryz.pinned (OpenSpec.ofChange fnOverEachSpec)

/-- ITS FALSE NEIGHBOUR: 'it returns false'. Refute it at one input. -/
def fnOverEachWrong : ChangeSpec := { name := "fnOverEach", fn := fun _ => fun
  | [d] => { results := [.lit (.bool false)], args := [d] }
  | _ => none }
def FnOverEachWrongFalsely : Prop := fnOverEachRow.holds Tryz.pinned (OpenSpec.ofChange fnOverEachWrong)

/-- 'laws.FnOverGet': WHATEVER THE INPUT: true; the input reads as it did. -/
def fnOverGetSpec : ChangeSpec := { name := "fnOverGet", fn := fun _ => fun
  | [d] => { results := [.lit (.bool true)], args := [d] }
  | _ => none }
def fnOverGetRow : OpenClaim := { program := "ytaecaabnjenllaagreatdoor", sum := "b2c754680521ff451ac50ec5af1393bbf4ee3fcfdbf826f489ae9e0aca7feb8c", func := "loop.example/pargeting/laws.FnOverGet", spec := "fnOverGet", inPlace := ["internal/bytealg.CountString", "internal/bytealg.IndexByteString", "internal/bytealg.IndexString", "internal/abi.NoEscape", "internal/bytealg.MakeNoZero"], unfollowed := true, recurses := true, named := ["unicode/utf8.first", "unicode/utf8.acceptRanges", "internal/bytealg.MaxLen"], apart := false, laid := [("unicode/utf8.acceptRanges", laid_unicode_utf8_acceptRanges), ("unicode/utf8.first", laid_unicode_utf8_first)] }
def FnOverGetSaid : Prop := fnOverGetRow.holds Tryz.pinned (OpenSpec.ofChange fnOverGetSpec)

/-- ITS FALSE NEIGHBOUR: 'it returns false'. Refute it at one input. -/
def fnOverGetWrong : ChangeSpec := { name := "fnOverGet", fn := fun _ => fun
  | [d] => { results := [.lit (.bool false)], args := [d] }
  | _ => none }
def FnOverGetWrongFalsely : Prop := fnOverGetRow.holds Tryz.pinned (OpenSpec.ofChange fnOverGetWrong)

/-- 'laws.FnOverFlat': WHATEVER THE INPUT: true; the input reads as it did. -/
def fnOverFlatSpec : ChangeSpec := { name := "fnOverFlat", fn := fun _ => fun
  | [d] => { results := [.lit (.bool true)], args := [d] }
  | _ => none }
def fnOverFlatRow : OpenClaim := { program := "ytaecaabnjenllaagreatdoor", sum := "b2c754680521ff451ac50ec5af1393bbf4ee3fcfdbf826f489ae9e0aca7feb8c", func := "loop.example/pargeting/laws.FnOverFlat", spec := "fnOverFlat", inPlace := ["internal/bytealg.CountString", "internal/bytealg.IndexByteString", "internal/bytealg.IndexString", "internal/abi.NoEscape", "internal/bytealg.MakeNoZero"], unfollowed := true, recurses := true, named := ["unicode/utf8.first", "unicode/utf8.acceptRanges", "internal/bytealg.MaxLen"], apart := false, laid := [("unicode/utf8.acceptRanges", laid_unicode_utf8_acceptRanges), ("unicode/utf8.first", laid_unicode_utf8_first)] }
def FnOverFlatSaid : Prop := fnOverFlatRow.holds Tryz.pinned (OpenSpec.ofChange fnOverFlatSpec)

/-- ITS FALSE NEIGHBOUR: 'it returns false'. Refute it at one input. -/
def fnOverFlatWrong : ChangeSpec := { name := "fnOverFlat", fn := fun _ => fun
  | [d] => { results := [.lit (.bool false)], args := [d] }
  | _ => none }
def FnOverFlatWrongFalsely : Prop := fnOverFlatRow.holds Tryz.pinned (OpenSpec.ofChange fnOverFlatWrong)

/-- 'laws.FnOver': WHATEVER THE INPUT: true; the input reads as it did. -/
def fnOverSpec : ChangeSpec := { name := "fnOver", fn := fun _ => fun
  | [d] => { results := [.lit (.bool true)], args := [d] }
  | _ => none }
def fnOverRow : OpenClaim := { program := "ytaecaabnjenllaagreatdoor", sum := "b2c754680521ff451ac50ec5af1393bbf4ee3fcfdbf826f489ae9e0aca7feb8c", func := "loop.example/pargeting/laws.FnOver", spec := "fnOver", inPlace := ["internal/bytealg.CountString", "internal/bytealg.IndexByteString", "internal/bytealg.IndexString", "internal/abi.NoEscape", "internal/bytealg.MakeNoZero"], unfollowed := true, recurses := true, named := ["unicode/utf8.first", "unicode/utf8.acceptRanges", "internal/bytealg.MaxLen"], apart := false, laid := [("unicode/utf8.acceptRanges", laid_unicode_utf8_acceptRanges), ("unicode/utf8.first", laid_unicode_utf8_first)] }
def FnOverSaid : Prop := fnOverRow.holds Tryz.pinned (OpenSpec.ofChange fnOverSpec)

/-- ITS FALSE NEIGHBOUR: 'it returns false'. Refute it at one input. -/
def fnOverWrong : ChangeSpec := { name := "fnOver", fn := fun _ => fun
  | [d] => { results := [.lit (.bool false)], args := [d] }
  | _ => none }
def FnOverWrongFalsely : Prop := fnOverRow.holds Tryz.pinned (OpenSpec.ofChange fnOverWrong)

/-- 'laws.FnOverBack': WHATEVER THE INPUT: true; the input reads as it did. -/
def fnOverBackSpec : ChangeSpec := { name := "fnOverBack", fn := fun _ => fun
  | [d] => { results := [.lit (.bool true)], args := [d] }
  | _ => none }
def fnOverBackRow : OpenClaim := { program := "ytaecaabnjenllaagreatdoor", sum := "b2c754680521ff451ac50ec5af1393bbf4ee3fcfdbf826f489ae9e0aca7feb8c", func := "loop.example/pargeting/laws.FnOverBack", spec := "fnOverBack", inPlace := ["internal/bytealg.CountString", "internal/bytealg.IndexByteString", "internal/bytealg.IndexString", "internal/abi.NoEscape", "internal/bytealg.MakeNoZero"], unfollowed := true, recurses := true, named := ["unicode/utf8.first", "unicode/utf8.acceptRanges", "internal/bytealg.MaxLen"], apart := false, laid := [("unicode/utf8.acceptRanges", laid_unicode_utf8_acceptRanges), ("unicode/utf8.first", laid_unicode_utf8_first)] }
def FnOverBackSaid : Prop := fnOverBackRow.holds Tryz.pinned (OpenSpec.ofChange fnOverBackSpec)

/-- ITS FALSE NEIGHBOUR: 'it returns false'. Refute it at one input. -/
def fnOverBackWrong : ChangeSpec := { name := "fnOverBack", fn := fun _ => fun
  | [d] => { results := [.lit (.bool false)], args := [d] }
  | _ => none }
def FnOverBackWrongFalsely : Prop := fnOverBackRow.holds Tryz.pinned (OpenSpec.ofChange fnOverBackWrong)

/-- 'laws.FnOverPush': WHATEVER THE INPUT: true; the input reads as it did. -/
def fnOverPushSpec : ChangeSpec := { name := "fnOverPush", fn := fun _ => fun
  | [d1, d2] => { results := [.lit (.bool true)], args := [d1, d2] }
  | _ => none }
def fnOverPushRow : OpenClaim := { program := "ytaecaabnjenllaagreatdoor", sum := "b2c754680521ff451ac50ec5af1393bbf4ee3fcfdbf826f489ae9e0aca7feb8c", func := "loop.example/pargeting/laws.FnOverPush", spec := "fnOverPush", inPlace := ["internal/bytealg.CountString", "internal/bytealg.IndexByteString", "internal/bytealg.IndexString", "internal/abi.NoEscape", "internal/bytealg.MakeNoZero"], unfollowed := true, recurses := true, named := ["unicode/utf8.first", "unicode/utf8.acceptRanges", "internal/bytealg.MaxLen"], apart := false, laid := [("unicode/utf8.acceptRanges", laid_unicode_utf8_acceptRanges), ("unicode/utf8.first", laid_unicode_utf8_first)] }
def FnOverPushSaid : Prop := fnOverPushRow.holds Tryz.pinned (OpenSpec.ofChange fnOverPushSpec)

/-- ITS FALSE NEIGHBOUR: 'it returns false'. Refute it at one input. -/
def fnOverPushWrong : ChangeSpec := { name := "fnOverPush", fn := fun _ => fun
  | [d1, d2] => { results := [.lit (.bool false)], args := [d1, d2] }
  | _ => none }
def FnOverPushWrongFalsely : Prop := fnOverPushRow.holds Tryz.pinned (OpenSpec.ofChange fnOverPushWrong)

/- THE SECOND FORM. 'bulk': how many values and letters a reading holds, each counted each time it is reached (what is shared counts as often as it is met; a slice's spare places count too). A statement '..UptoSaid' is the law's where the arguments, and the package variables that the reading takes, are together of bulk at most 1048576: NARROWER than '..Said'. Prove '..Said' where nothing that the law and all that it calls make is longer than what came in: it says more and counts as full. Else prove '..UptoSaid'. A law counts once. -/
mutual
def uptoBulk {H : Type} : DataW H → Nat
  | .lit (.string bytes) => bytes.length + 1
  | .lit _ => 1
  | .nil => 1
  | .ptr d => uptoBulk d + 1
  | .slice elems spare => uptoBulkAll elems + uptoBulkAll spare + 1
  | .agg parts => uptoBulkAll parts + 1
  | .iface _ d => uptoBulk d + 1
  | .map entries => uptoBulkEntries entries + 1
  | .held _ => 1
def uptoBulkAll {H : Type} : List (DataW H) → Nat
  | [] => 0
  | d :: r => uptoBulk d + uptoBulkAll r
def uptoBulkEntries {H : Type} : List (Lit × DataW H) → Nat
  | [] => 0
  | x :: r => uptoBulkEntry x + uptoBulkEntries r
def uptoBulkEntry {H : Type} : Lit × DataW H → Nat
  | (.string bytes, d) => bytes.length + uptoBulk d + 1
  | (_, d) => uptoBulk d + 1
 end
def uptoSmall : (H : Type) → List (DataW H) → Bool := fun _ ds => decide (uptoBulkAll ds ≤ 1048576)
def OpenSpec.upto (s : _root_.Go.ChangeSpec) : _root_.Go.OpenSpec := { _root_.Go.OpenSpec.ofChange s with cond := some uptoSmall }

/-- 'laws.FnOverUpper', WHERE WHAT IT READS IS OF BULK AT MOST 1048576: true; the input reads as it did. -/
def fnOverUpperUptoRow : OpenClaim := { program := "ytaecaabnjenllaagreatdoor", sum := "b2c754680521ff451ac50ec5af1393bbf4ee3fcfdbf826f489ae9e0aca7feb8c", func := "loop.example/pargeting/laws.FnOverUpper", spec := "fnOverUpper", inPlace := ["internal/bytealg.CountString", "internal/bytealg.IndexByteString", "internal/bytealg.IndexString", "internal/abi.NoEscape", "internal/bytealg.MakeNoZero"], unfollowed := true, recurses := true, named := ["unicode/utf8.first", "unicode/utf8.acceptRanges", "internal/bytealg.MaxLen"], apart := false, laid := [("unicode/utf8.acceptRanges", laid_unicode_utf8_acceptRanges), ("unicode/utf8.first", laid_unicode_utf8_first)], narrowed := true }
def FnOverUpperUptoSaid : Prop := fnOverUpperUptoRow.holds Tryz.pinned (OpenSpec.upto fnOverUpperSpec)

/-- 'laws.FnOverLow', WHERE WHAT IT READS IS OF BULK AT MOST 1048576: true; the input reads as it did. -/
def fnOverLowUptoRow : OpenClaim := { program := "ytaecaabnjenllaagreatdoor", sum := "b2c754680521ff451ac50ec5af1393bbf4ee3fcfdbf826f489ae9e0aca7feb8c", func := "loop.example/pargeting/laws.FnOverLow", spec := "fnOverLow", inPlace := ["internal/bytealg.CountString", "internal/bytealg.IndexByteString", "internal/bytealg.IndexString", "internal/abi.NoEscape", "internal/bytealg.MakeNoZero"], unfollowed := true, recurses := true, named := ["unicode/utf8.first", "unicode/utf8.acceptRanges", "internal/bytealg.MaxLen"], apart := false, laid := [("unicode/utf8.acceptRanges", laid_unicode_utf8_acceptRanges), ("unicode/utf8.first", laid_unicode_utf8_first)], narrowed := true }
def FnOverLowUptoSaid : Prop := fnOverLowUptoRow.holds Tryz.pinned (OpenSpec.upto fnOverLowSpec)

/-- 'laws.FnOverDrop', WHERE WHAT IT READS IS OF BULK AT MOST 1048576: true; the input reads as it did. -/
def fnOverDropUptoRow : OpenClaim := { program := "ytaecaabnjenllaagreatdoor", sum := "b2c754680521ff451ac50ec5af1393bbf4ee3fcfdbf826f489ae9e0aca7feb8c", func := "loop.example/pargeting/laws.FnOverDrop", spec := "fnOverDrop", inPlace := ["internal/bytealg.CountString", "internal/bytealg.IndexByteString", "internal/bytealg.IndexString", "internal/abi.NoEscape", "internal/bytealg.MakeNoZero"], unfollowed := true, recurses := true, named := ["unicode/utf8.first", "unicode/utf8.acceptRanges", "internal/bytealg.MaxLen"], apart := false, laid := [("unicode/utf8.acceptRanges", laid_unicode_utf8_acceptRanges), ("unicode/utf8.first", laid_unicode_utf8_first)], narrowed := true }
def FnOverDropUptoSaid : Prop := fnOverDropUptoRow.holds Tryz.pinned (OpenSpec.upto fnOverDropSpec)

/-- 'laws.FnOverEach', WHERE WHAT IT READS IS OF BULK AT MOST 1048576: true; the input reads as it did. -/
def fnOverEachUptoRow : OpenClaim := { program := "ytaecaabnjenllaagreatdoor", sum := "b2c754680521ff451ac50ec5af1393bbf4ee3fcfdbf826f489ae9e0aca7feb8c", func := "loop.example/pargeting/laws.FnOverEach", spec := "fnOverEach", inPlace := ["internal/bytealg.CountString", "internal/bytealg.IndexByteString", "internal/bytealg.IndexString", "internal/abi.NoEscape", "internal/bytealg.MakeNoZero"], unfollowed := true, recurses := true, named := ["unicode/utf8.first", "unicode/utf8.acceptRanges", "internal/bytealg.MaxLen"], apart := false, laid := [("unicode/utf8.acceptRanges", laid_unicode_utf8_acceptRanges), ("unicode/utf8.first", laid_unicode_utf8_first)], narrowed := true }
def FnOverEachUptoSaid : Prop := fnOverEachUptoRow.holds Tryz.pinned (OpenSpec.upto fnOverEachSpec)

/-- 'laws.FnOverGet', WHERE WHAT IT READS IS OF BULK AT MOST 1048576: true; the input reads as it did. -/
def fnOverGetUptoRow : OpenClaim := { program := "ytaecaabnjenllaagreatdoor", sum := "b2c754680521ff451ac50ec5af1393bbf4ee3fcfdbf826f489ae9e0aca7feb8c", func := "loop.example/pargeting/laws.FnOverGet", spec := "fnOverGet", inPlace := ["internal/bytealg.CountString", "internal/bytealg.IndexByteString", "internal/bytealg.IndexString", "internal/abi.NoEscape", "internal/bytealg.MakeNoZero"], unfollowed := true, recurses := true, named := ["unicode/utf8.first", "unicode/utf8.acceptRanges", "internal/bytealg.MaxLen"], apart := false, laid := [("unicode/utf8.acceptRanges", laid_unicode_utf8_acceptRanges), ("unicode/utf8.first", laid_unicode_utf8_first)], narrowed := true }
def FnOverGetUptoSaid : Prop := fnOverGetUptoRow.holds Tryz.pinned (OpenSpec.upto fnOverGetSpec)

/-- 'laws.FnOverFlat', WHERE WHAT IT READS IS OF BULK AT MOST 1048576: true; the input reads as it did. -/
def fnOverFlatUptoRow : OpenClaim := { program := "ytaecaabnjenllaagreatdoor", sum := "b2c754680521ff451ac50ec5af1393bbf4ee3fcfdbf826f489ae9e0aca7feb8c", func := "loop.example/pargeting/laws.FnOverFlat", spec := "fnOverFlat", inPlace := ["internal/bytealg.CountString", "internal/bytealg.IndexByteString", "internal/bytealg.IndexString", "internal/abi.NoEscape", "internal/bytealg.MakeNoZero"], unfollowed := true, recurses := true, named := ["unicode/utf8.first", "unicode/utf8.acceptRanges", "internal/bytealg.MaxLen"], apart := false, laid := [("unicode/utf8.acceptRanges", laid_unicode_utf8_acceptRanges), ("unicode/utf8.first", laid_unicode_utf8_first)], narrowed := true }
def FnOverFlatUptoSaid : Prop := fnOverFlatUptoRow.holds Tryz.pinned (OpenSpec.upto fnOverFlatSpec)

/-- 'laws.FnOver', WHERE WHAT IT READS IS OF BULK AT MOST 1048576: true; the input reads as it did. -/
def fnOverUptoRow : OpenClaim := { program := "ytaecaabnjenllaagreatdoor", sum := "b2c754680521ff451ac50ec5af1393bbf4ee3fcfdbf826f489ae9e0aca7feb8c", func := "loop.example/pargeting/laws.FnOver", spec := "fnOver", inPlace := ["internal/bytealg.CountString", "internal/bytealg.IndexByteString", "internal/bytealg.IndexString", "internal/abi.NoEscape", "internal/bytealg.MakeNoZero"], unfollowed := true, recurses := true, named := ["unicode/utf8.first", "unicode/utf8.acceptRanges", "internal/bytealg.MaxLen"], apart := false, laid := [("unicode/utf8.acceptRanges", laid_unicode_utf8_acceptRanges), ("unicode/utf8.first", laid_unicode_utf8_first)], narrowed := true }
def FnOverUptoSaid : Prop := fnOverUptoRow.holds Tryz.pinned (OpenSpec.upto fnOverSpec)

/-- 'laws.FnOverBack', WHERE WHAT IT READS IS OF BULK AT MOST 1048576: true; the input reads as it did. -/
def fnOverBackUptoRow : OpenClaim := { program := "ytaecaabnjenllaagreatdoor", sum := "b2c754680521ff451ac50ec5af1393bbf4ee3fcfdbf826f489ae9e0aca7feb8c", func := "loop.example/pargeting/laws.FnOverBack", spec := "fnOverBack", inPlace := ["internal/bytealg.CountString", "internal/bytealg.IndexByteString", "internal/bytealg.IndexString", "internal/abi.NoEscape", "internal/bytealg.MakeNoZero"], unfollowed := true, recurses := true, named := ["unicode/utf8.first", "unicode/utf8.acceptRanges", "internal/bytealg.MaxLen"], apart := false, laid := [("unicode/utf8.acceptRanges", laid_unicode_utf8_acceptRanges), ("unicode/utf8.first", laid_unicode_utf8_first)], narrowed := true }
def FnOverBackUptoSaid : Prop := fnOverBackUptoRow.holds Tryz.pinned (OpenSpec.upto fnOverBackSpec)

/-- 'laws.FnOverPush', WHERE WHAT IT READS IS OF BULK AT MOST 1048576: true; the input reads as it did. -/
def fnOverPushUptoRow : OpenClaim := { program := "ytaecaabnjenllaagreatdoor", sum := "b2c754680521ff451ac50ec5af1393bbf4ee3fcfdbf826f489ae9e0aca7feb8c", func := "loop.example/pargeting/laws.FnOverPush", spec := "fnOverPush", inPlace := ["internal/bytealg.CountString", "internal/bytealg.IndexByteString", "internal/bytealg.IndexString", "internal/abi.NoEscape", "internal/bytealg.MakeNoZero"], unfollowed := true, recurses := true, named := ["unicode/utf8.first", "unicode/utf8.acceptRanges", "internal/bytealg.MaxLen"], apart := false, laid := [("unicode/utf8.acceptRanges", laid_unicode_utf8_acceptRanges), ("unicode/utf8.first", laid_unicode_utf8_first)], narrowed := true }
def FnOverPushUptoSaid : Prop := fnOverPushUptoRow.holds Tryz.pinned (OpenSpec.upto fnOverPushSpec)

end Rows
end Go.Proofs.YtaecaabnjenllaaGreatDoor

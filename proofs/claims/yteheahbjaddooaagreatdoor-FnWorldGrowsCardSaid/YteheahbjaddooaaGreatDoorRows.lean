/-
  NARROWER THAN 'FOR EVERY INPUT', by the rows' own cells (each row's printed sentence says how): FnWorldSo: laid · FnWorldBent: laid · FnWorldPlay: laid · FnWorldEnd: laid · FnWorldOk: laid · FnWorldNet: laid · FnWorldGrows: laid · FnWorldView: laid.
  DERIVED. THE GIVEN ROWS OF THIS SEAT. 8 by the template 'for every input the law returns true; each argument reads behind the call as it read before'; 0 by the template 'total and deterministic' (their statements: YteheahbjaddooaaGreatDoorTotals.lean).
  GIVEN WITH THE SEED: the statements are not yours to turn. If you find one false, say at which input.
  Laid BY PROGRAM, IN A SANDBOX (cutbox-rows.mjs): the forced cells as the released guide's own fill.sh prints them over the translation 1d88de2198e5ab86… (all of the seat's roots in one cut). By AI agents, Wed Nov 11 2026. No macro, syntax, notation, axiom, sorry.
-/
import Derived.Test.YteheahbjaddooaaGreatDoorChecked
import GoSem.PinnedTables
import GoSem.Claim
import GoSem.ClaimJoined
import GoSem.ClaimMapViews
import Derived.JoinedTies
import Derived.KernelRfl
namespace Go.Proofs.YteheahbjaddooaaGreatDoor
/- THE CELL 'sum', in the pinned program and in every row, IS THE sha256 OF THE DUMP (.gsa) THAT YteheahbjaddooaaGreatDoorProg.lean LOADS. Nothing in Lean hashes anything: it is a label: what it is worth is what the hold of that sum in a sandbox is worth. -/
noncomputable def Tryz.pinned : Pinned := { name := "yteheahbjaddooaagreatdoor", sum := "1d88de2198e5ab860581aa316e62cdbae76be1277437e808228acdc746a32f16", checked := Tryz.checked }
namespace Rows
def none {H : Type} : Left H := { results := [], args := [] }

/- WHAT THE LISTED PACKAGE-LEVEL VARIABLES READ AS WHEN THE CALL BEGINS. Each datum BY PROGRAM (the guide's laid-datum.mjs) off the statement by which the dump's own 'gosem.cut.vars' lays the variable. In a bare row this is a premise. The card (YteheahbjaddooaaGreatDoorCards.lean) ties it to the program's text. -/
def laid_unicode_utf8_acceptRanges {H : Type} : DataW H := .agg [.agg [.lit (.int .u8 128), .lit (.int .u8 191)], .agg [.lit (.int .u8 160), .lit (.int .u8 191)], .agg [.lit (.int .u8 128), .lit (.int .u8 159)], .agg [.lit (.int .u8 144), .lit (.int .u8 191)], .agg [.lit (.int .u8 128), .lit (.int .u8 143)], .agg [.lit (.int .u8 0), .lit (.int .u8 0)], .agg [.lit (.int .u8 0), .lit (.int .u8 0)], .agg [.lit (.int .u8 0), .lit (.int .u8 0)], .agg [.lit (.int .u8 0), .lit (.int .u8 0)], .agg [.lit (.int .u8 0), .lit (.int .u8 0)], .agg [.lit (.int .u8 0), .lit (.int .u8 0)], .agg [.lit (.int .u8 0), .lit (.int .u8 0)], .agg [.lit (.int .u8 0), .lit (.int .u8 0)], .agg [.lit (.int .u8 0), .lit (.int .u8 0)], .agg [.lit (.int .u8 0), .lit (.int .u8 0)], .agg [.lit (.int .u8 0), .lit (.int .u8 0)]]
/-- One of Go's own tables, pinned by name: the form's constant. -/
def laid_unicode_utf8_first : DataW Unit := Go.Pinned.utf8First

/-- 'laws.FnWorldSo': WHATEVER THE INPUT: true; the input reads as it did. -/
def fnWorldSoSpec : ChangeSpec := { name := "fnWorldSo", fn := fun _ => fun
  | [d] => { results := [.lit (.bool true)], args := [d] }
  | _ => none }
def fnWorldSoRow : OpenClaim := { program := "yteheahbjaddooaagreatdoor", sum := "1d88de2198e5ab860581aa316e62cdbae76be1277437e808228acdc746a32f16", func := "loop.example/pargeting/laws.FnWorldSo", spec := "fnWorldSo", inPlace := ["internal/bytealg.CountString", "internal/bytealg.IndexByteString", "internal/bytealg.IndexString", "internal/abi.NoEscape", "internal/bytealg.MakeNoZero"], unfollowed := true, recurses := true, named := ["unicode/utf8.first", "unicode/utf8.acceptRanges", "internal/bytealg.MaxLen"], apart := false, laid := [("unicode/utf8.acceptRanges", laid_unicode_utf8_acceptRanges), ("unicode/utf8.first", laid_unicode_utf8_first)] }
def FnWorldSoSaid : Prop := fnWorldSoRow.holds Tryz.pinned (OpenSpec.ofChange fnWorldSoSpec)

/-- ITS FALSE NEIGHBOUR: 'it returns false'. Refute it at one input. -/
def fnWorldSoWrong : ChangeSpec := { name := "fnWorldSo", fn := fun _ => fun
  | [d] => { results := [.lit (.bool false)], args := [d] }
  | _ => none }
def FnWorldSoWrongFalsely : Prop := fnWorldSoRow.holds Tryz.pinned (OpenSpec.ofChange fnWorldSoWrong)

/-- 'laws.FnWorldBent': WHATEVER THE INPUT: true; the input reads as it did. -/
def fnWorldBentSpec : ChangeSpec := { name := "fnWorldBent", fn := fun _ => fun
  | [d] => { results := [.lit (.bool true)], args := [d] }
  | _ => none }
def fnWorldBentRow : OpenClaim := { program := "yteheahbjaddooaagreatdoor", sum := "1d88de2198e5ab860581aa316e62cdbae76be1277437e808228acdc746a32f16", func := "loop.example/pargeting/laws.FnWorldBent", spec := "fnWorldBent", inPlace := ["internal/bytealg.CountString", "internal/bytealg.IndexByteString", "internal/bytealg.IndexString", "internal/abi.NoEscape", "internal/bytealg.MakeNoZero"], unfollowed := true, recurses := true, named := ["unicode/utf8.first", "unicode/utf8.acceptRanges", "internal/bytealg.MaxLen"], apart := false, laid := [("unicode/utf8.acceptRanges", laid_unicode_utf8_acceptRanges), ("unicode/utf8.first", laid_unicode_utf8_first)] }
def FnWorldBentSaid : Prop := fnWorldBentRow.holds Tryz.pinned (OpenSpec.ofChange fnWorldBentSpec)

/-- ITS FALSE NEIGHBOUR: 'it returns false'. Refute it at one input. -/
def fnWorldBentWrong : ChangeSpec := { name := "fnWorldBent", fn := fun _ => fun
  | [d] => { results := [.lit (.bool false)], args := [d] }
  | _ => none }
def FnWorldBentWrongFalsely : Prop := fnWorldBentRow.holds Tryz.pinned (OpenSpec.ofChange fnWorldBentWrong)

/-- 'laws.FnWorldPlay': WHATEVER THE INPUT: true; the input reads as it did. -/
def fnWorldPlaySpec : ChangeSpec := { name := "fnWorldPlay", fn := fun _ => fun
  | [d] => { results := [.lit (.bool true)], args := [d] }
  | _ => none }
def fnWorldPlayRow : OpenClaim := { program := "yteheahbjaddooaagreatdoor", sum := "1d88de2198e5ab860581aa316e62cdbae76be1277437e808228acdc746a32f16", func := "loop.example/pargeting/laws.FnWorldPlay", spec := "fnWorldPlay", inPlace := ["internal/bytealg.CountString", "internal/bytealg.IndexByteString", "internal/bytealg.IndexString", "internal/abi.NoEscape", "internal/bytealg.MakeNoZero"], unfollowed := true, recurses := true, named := ["unicode/utf8.first", "unicode/utf8.acceptRanges", "internal/bytealg.MaxLen"], apart := false, laid := [("unicode/utf8.acceptRanges", laid_unicode_utf8_acceptRanges), ("unicode/utf8.first", laid_unicode_utf8_first)] }
def FnWorldPlaySaid : Prop := fnWorldPlayRow.holds Tryz.pinned (OpenSpec.ofChange fnWorldPlaySpec)

/-- ITS FALSE NEIGHBOUR: 'it returns false'. Refute it at one input. -/
def fnWorldPlayWrong : ChangeSpec := { name := "fnWorldPlay", fn := fun _ => fun
  | [d] => { results := [.lit (.bool false)], args := [d] }
  | _ => none }
def FnWorldPlayWrongFalsely : Prop := fnWorldPlayRow.holds Tryz.pinned (OpenSpec.ofChange fnWorldPlayWrong)

/-- 'laws.FnWorldEnd': WHATEVER THE INPUT: true; the input reads as it did. -/
def fnWorldEndSpec : ChangeSpec := { name := "fnWorldEnd", fn := fun _ => fun
  | [d] => { results := [.lit (.bool true)], args := [d] }
  | _ => none }
def fnWorldEndRow : OpenClaim := { program := "yteheahbjaddooaagreatdoor", sum := "1d88de2198e5ab860581aa316e62cdbae76be1277437e808228acdc746a32f16", func := "loop.example/pargeting/laws.FnWorldEnd", spec := "fnWorldEnd", inPlace := ["internal/bytealg.CountString", "internal/bytealg.IndexByteString", "internal/bytealg.IndexString", "internal/abi.NoEscape", "internal/bytealg.MakeNoZero"], unfollowed := true, recurses := true, named := ["unicode/utf8.first", "unicode/utf8.acceptRanges", "internal/bytealg.MaxLen"], apart := false, laid := [("unicode/utf8.acceptRanges", laid_unicode_utf8_acceptRanges), ("unicode/utf8.first", laid_unicode_utf8_first)] }
def FnWorldEndSaid : Prop := fnWorldEndRow.holds Tryz.pinned (OpenSpec.ofChange fnWorldEndSpec)

/-- ITS FALSE NEIGHBOUR: 'it returns false'. Refute it at one input. -/
def fnWorldEndWrong : ChangeSpec := { name := "fnWorldEnd", fn := fun _ => fun
  | [d] => { results := [.lit (.bool false)], args := [d] }
  | _ => none }
def FnWorldEndWrongFalsely : Prop := fnWorldEndRow.holds Tryz.pinned (OpenSpec.ofChange fnWorldEndWrong)

/-- 'laws.FnWorldOk': WHATEVER THE INPUT: true; the input reads as it did. -/
def fnWorldOkSpec : ChangeSpec := { name := "fnWorldOk", fn := fun _ => fun
  | [d] => { results := [.lit (.bool true)], args := [d] }
  | _ => none }
def fnWorldOkRow : OpenClaim := { program := "yteheahbjaddooaagreatdoor", sum := "1d88de2198e5ab860581aa316e62cdbae76be1277437e808228acdc746a32f16", func := "loop.example/pargeting/laws.FnWorldOk", spec := "fnWorldOk", inPlace := ["internal/bytealg.CountString", "internal/bytealg.IndexByteString", "internal/bytealg.IndexString", "internal/abi.NoEscape", "internal/bytealg.MakeNoZero"], unfollowed := true, recurses := true, named := ["unicode/utf8.first", "unicode/utf8.acceptRanges", "internal/bytealg.MaxLen"], apart := false, laid := [("unicode/utf8.acceptRanges", laid_unicode_utf8_acceptRanges), ("unicode/utf8.first", laid_unicode_utf8_first)] }
def FnWorldOkSaid : Prop := fnWorldOkRow.holds Tryz.pinned (OpenSpec.ofChange fnWorldOkSpec)

/-- ITS FALSE NEIGHBOUR: 'it returns false'. Refute it at one input. -/
def fnWorldOkWrong : ChangeSpec := { name := "fnWorldOk", fn := fun _ => fun
  | [d] => { results := [.lit (.bool false)], args := [d] }
  | _ => none }
def FnWorldOkWrongFalsely : Prop := fnWorldOkRow.holds Tryz.pinned (OpenSpec.ofChange fnWorldOkWrong)

/-- 'laws.FnWorldNet': WHATEVER THE INPUT: true; the input reads as it did. -/
def fnWorldNetSpec : ChangeSpec := { name := "fnWorldNet", fn := fun _ => fun
  | [d] => { results := [.lit (.bool true)], args := [d] }
  | _ => none }
def fnWorldNetRow : OpenClaim := { program := "yteheahbjaddooaagreatdoor", sum := "1d88de2198e5ab860581aa316e62cdbae76be1277437e808228acdc746a32f16", func := "loop.example/pargeting/laws.FnWorldNet", spec := "fnWorldNet", inPlace := ["internal/bytealg.CountString", "internal/bytealg.IndexByteString", "internal/bytealg.IndexString", "internal/abi.NoEscape", "internal/bytealg.MakeNoZero"], unfollowed := true, recurses := true, named := ["unicode/utf8.first", "unicode/utf8.acceptRanges", "internal/bytealg.MaxLen"], apart := false, laid := [("unicode/utf8.acceptRanges", laid_unicode_utf8_acceptRanges), ("unicode/utf8.first", laid_unicode_utf8_first)] }
def FnWorldNetSaid : Prop := fnWorldNetRow.holds Tryz.pinned (OpenSpec.ofChange fnWorldNetSpec)

/-- ITS FALSE NEIGHBOUR: 'it returns false'. Refute it at one input. -/
def fnWorldNetWrong : ChangeSpec := { name := "fnWorldNet", fn := fun _ => fun
  | [d] => { results := [.lit (.bool false)], args := [d] }
  | _ => none }
def FnWorldNetWrongFalsely : Prop := fnWorldNetRow.holds Tryz.pinned (OpenSpec.ofChange fnWorldNetWrong)

/-- 'laws.FnWorldGrows': WHATEVER THE INPUT: true; the input reads as it did. -/
def fnWorldGrowsSpec : ChangeSpec := { name := "fnWorldGrows", fn := fun _ => fun
  | [d] => { results := [.lit (.bool true)], args := [d] }
  | _ => none }
def fnWorldGrowsRow : OpenClaim := { program := "yteheahbjaddooaagreatdoor", sum := "1d88de2198e5ab860581aa316e62cdbae76be1277437e808228acdc746a32f16", func := "loop.example/pargeting/laws.FnWorldGrows", spec := "fnWorldGrows", inPlace := ["internal/bytealg.CountString", "internal/bytealg.IndexByteString", "internal/bytealg.IndexString", "internal/abi.NoEscape", "internal/bytealg.MakeNoZero"], unfollowed := true, recurses := true, named := ["unicode/utf8.first", "unicode/utf8.acceptRanges", "internal/bytealg.MaxLen"], apart := false, laid := [("unicode/utf8.acceptRanges", laid_unicode_utf8_acceptRanges), ("unicode/utf8.first", laid_unicode_utf8_first)] }
def FnWorldGrowsSaid : Prop := fnWorldGrowsRow.holds Tryz.pinned (OpenSpec.ofChange fnWorldGrowsSpec)

/-- ITS FALSE NEIGHBOUR: 'it returns false'. Refute it at one input. -/
def fnWorldGrowsWrong : ChangeSpec := { name := "fnWorldGrows", fn := fun _ => fun
  | [d] => { results := [.lit (.bool false)], args := [d] }
  | _ => none }
def FnWorldGrowsWrongFalsely : Prop := fnWorldGrowsRow.holds Tryz.pinned (OpenSpec.ofChange fnWorldGrowsWrong)

/-- 'laws.FnWorldView': WHATEVER THE INPUT: true; the input reads as it did. -/
def fnWorldViewSpec : ChangeSpec := { name := "fnWorldView", fn := fun _ => fun
  | [d] => { results := [.lit (.bool true)], args := [d] }
  | _ => none }
def fnWorldViewRow : OpenClaim := { program := "yteheahbjaddooaagreatdoor", sum := "1d88de2198e5ab860581aa316e62cdbae76be1277437e808228acdc746a32f16", func := "loop.example/pargeting/laws.FnWorldView", spec := "fnWorldView", inPlace := ["internal/bytealg.CountString", "internal/bytealg.IndexByteString", "internal/bytealg.IndexString", "internal/abi.NoEscape", "internal/bytealg.MakeNoZero"], unfollowed := true, recurses := true, named := ["unicode/utf8.first", "unicode/utf8.acceptRanges", "internal/bytealg.MaxLen"], apart := false, laid := [("unicode/utf8.acceptRanges", laid_unicode_utf8_acceptRanges), ("unicode/utf8.first", laid_unicode_utf8_first)] }
def FnWorldViewSaid : Prop := fnWorldViewRow.holds Tryz.pinned (OpenSpec.ofChange fnWorldViewSpec)

/-- ITS FALSE NEIGHBOUR: 'it returns false'. Refute it at one input. -/
def fnWorldViewWrong : ChangeSpec := { name := "fnWorldView", fn := fun _ => fun
  | [d] => { results := [.lit (.bool false)], args := [d] }
  | _ => none }
def FnWorldViewWrongFalsely : Prop := fnWorldViewRow.holds Tryz.pinned (OpenSpec.ofChange fnWorldViewWrong)

/- THE SECOND FORM. 'bulk': how many values and letters a reading holds, each counted each time it is reached (what is shared counts as often as it is met; a slice's spare places count too). A statement '..UptoSaid' is the law's where the arguments, and the package variables that the reading takes, are together of bulk at most 1048576: NARROWER than '..Said'. Prove '..Said' where nothing that the law and all that it calls make is longer than what came in: it says more and counts as full. Else prove '..UptoSaid'. A law counts once. -/
mutual
def uptoBulk {H : Type} : DataW H → Nat
  | .lit (.string bytes) => bytes.length + 1
  | .lit _ => 1
  | .nil => 1
  | .ptr d => uptoBulk d + 1
  | .slice elems spare => uptoBulkAll elems + uptoBulkAll spare + 1
  | .agg parts => uptoBulkAll parts + 1
  | .iface _ d => uptoBulk d + 1
  | .map entries => uptoBulkEntries entries + 1
  | .held _ => 1
def uptoBulkAll {H : Type} : List (DataW H) → Nat
  | [] => 0
  | d :: r => uptoBulk d + uptoBulkAll r
def uptoBulkEntries {H : Type} : List (Lit × DataW H) → Nat
  | [] => 0
  | x :: r => uptoBulkEntry x + uptoBulkEntries r
def uptoBulkEntry {H : Type} : Lit × DataW H → Nat
  | (.string bytes, d) => bytes.length + uptoBulk d + 1
  | (_, d) => uptoBulk d + 1
 end
def uptoSmall : (H : Type) → List (DataW H) → Bool := fun _ ds => decide (uptoBulkAll ds ≤ 1048576)
def OpenSpec.upto (s : _root_.Go.ChangeSpec) : _root_.Go.OpenSpec := { _root_.Go.OpenSpec.ofChange s with cond := some uptoSmall }

/-- 'laws.FnWorldSo', WHERE WHAT IT READS IS OF BULK AT MOST 1048576: true; the input reads as it did. -/
def fnWorldSoUptoRow : OpenClaim := { program := "yteheahbjaddooaagreatdoor", sum := "1d88de2198e5ab860581aa316e62cdbae76be1277437e808228acdc746a32f16", func := "loop.example/pargeting/laws.FnWorldSo", spec := "fnWorldSo", inPlace := ["internal/bytealg.CountString", "internal/bytealg.IndexByteString", "internal/bytealg.IndexString", "internal/abi.NoEscape", "internal/bytealg.MakeNoZero"], unfollowed := true, recurses := true, named := ["unicode/utf8.first", "unicode/utf8.acceptRanges", "internal/bytealg.MaxLen"], apart := false, laid := [("unicode/utf8.acceptRanges", laid_unicode_utf8_acceptRanges), ("unicode/utf8.first", laid_unicode_utf8_first)], narrowed := true }
def FnWorldSoUptoSaid : Prop := fnWorldSoUptoRow.holds Tryz.pinned (OpenSpec.upto fnWorldSoSpec)

/-- 'laws.FnWorldBent', WHERE WHAT IT READS IS OF BULK AT MOST 1048576: true; the input reads as it did. -/
def fnWorldBentUptoRow : OpenClaim := { program := "yteheahbjaddooaagreatdoor", sum := "1d88de2198e5ab860581aa316e62cdbae76be1277437e808228acdc746a32f16", func := "loop.example/pargeting/laws.FnWorldBent", spec := "fnWorldBent", inPlace := ["internal/bytealg.CountString", "internal/bytealg.IndexByteString", "internal/bytealg.IndexString", "internal/abi.NoEscape", "internal/bytealg.MakeNoZero"], unfollowed := true, recurses := true, named := ["unicode/utf8.first", "unicode/utf8.acceptRanges", "internal/bytealg.MaxLen"], apart := false, laid := [("unicode/utf8.acceptRanges", laid_unicode_utf8_acceptRanges), ("unicode/utf8.first", laid_unicode_utf8_first)], narrowed := true }
def FnWorldBentUptoSaid : Prop := fnWorldBentUptoRow.holds Tryz.pinned (OpenSpec.upto fnWorldBentSpec)

/-- 'laws.FnWorldPlay', WHERE WHAT IT READS IS OF BULK AT MOST 1048576: true; the input reads as it did. -/
def fnWorldPlayUptoRow : OpenClaim := { program := "yteheahbjaddooaagreatdoor", sum := "1d88de2198e5ab860581aa316e62cdbae76be1277437e808228acdc746a32f16", func := "loop.example/pargeting/laws.FnWorldPlay", spec := "fnWorldPlay", inPlace := ["internal/bytealg.CountString", "internal/bytealg.IndexByteString", "internal/bytealg.IndexString", "internal/abi.NoEscape", "internal/bytealg.MakeNoZero"], unfollowed := true, recurses := true, named := ["unicode/utf8.first", "unicode/utf8.acceptRanges", "internal/bytealg.MaxLen"], apart := false, laid := [("unicode/utf8.acceptRanges", laid_unicode_utf8_acceptRanges), ("unicode/utf8.first", laid_unicode_utf8_first)], narrowed := true }
def FnWorldPlayUptoSaid : Prop := fnWorldPlayUptoRow.holds Tryz.pinned (OpenSpec.upto fnWorldPlaySpec)

/-- 'laws.FnWorldEnd', WHERE WHAT IT READS IS OF BULK AT MOST 1048576: true; the input reads as it did. -/
def fnWorldEndUptoRow : OpenClaim := { program := "yteheahbjaddooaagreatdoor", sum := "1d88de2198e5ab860581aa316e62cdbae76be1277437e808228acdc746a32f16", func := "loop.example/pargeting/laws.FnWorldEnd", spec := "fnWorldEnd", inPlace := ["internal/bytealg.CountString", "internal/bytealg.IndexByteString", "internal/bytealg.IndexString", "internal/abi.NoEscape", "internal/bytealg.MakeNoZero"], unfollowed := true, recurses := true, named := ["unicode/utf8.first", "unicode/utf8.acceptRanges", "internal/bytealg.MaxLen"], apart := false, laid := [("unicode/utf8.acceptRanges", laid_unicode_utf8_acceptRanges), ("unicode/utf8.first", laid_unicode_utf8_first)], narrowed := true }
def FnWorldEndUptoSaid : Prop := fnWorldEndUptoRow.holds Tryz.pinned (OpenSpec.upto fnWorldEndSpec)

/-- 'laws.FnWorldOk', WHERE WHAT IT READS IS OF BULK AT MOST 1048576: true; the input reads as it did. -/
def fnWorldOkUptoRow : OpenClaim := { program := "yteheahbjaddooaagreatdoor", sum := "1d88de2198e5ab860581aa316e62cdbae76be1277437e808228acdc746a32f16", func := "loop.example/pargeting/laws.FnWorldOk", spec := "fnWorldOk", inPlace := ["internal/bytealg.CountString", "internal/bytealg.IndexByteString", "internal/bytealg.IndexString", "internal/abi.NoEscape", "internal/bytealg.MakeNoZero"], unfollowed := true, recurses := true, named := ["unicode/utf8.first", "unicode/utf8.acceptRanges", "internal/bytealg.MaxLen"], apart := false, laid := [("unicode/utf8.acceptRanges", laid_unicode_utf8_acceptRanges), ("unicode/utf8.first", laid_unicode_utf8_first)], narrowed := true }
def FnWorldOkUptoSaid : Prop := fnWorldOkUptoRow.holds Tryz.pinned (OpenSpec.upto fnWorldOkSpec)

/-- 'laws.FnWorldNet', WHERE WHAT IT READS IS OF BULK AT MOST 1048576: true; the input reads as it did. -/
def fnWorldNetUptoRow : OpenClaim := { program := "yteheahbjaddooaagreatdoor", sum := "1d88de2198e5ab860581aa316e62cdbae76be1277437e808228acdc746a32f16", func := "loop.example/pargeting/laws.FnWorldNet", spec := "fnWorldNet", inPlace := ["internal/bytealg.CountString", "internal/bytealg.IndexByteString", "internal/bytealg.IndexString", "internal/abi.NoEscape", "internal/bytealg.MakeNoZero"], unfollowed := true, recurses := true, named := ["unicode/utf8.first", "unicode/utf8.acceptRanges", "internal/bytealg.MaxLen"], apart := false, laid := [("unicode/utf8.acceptRanges", laid_unicode_utf8_acceptRanges), ("unicode/utf8.first", laid_unicode_utf8_first)], narrowed := true }
def FnWorldNetUptoSaid : Prop := fnWorldNetUptoRow.holds Tryz.pinned (OpenSpec.upto fnWorldNetSpec)

/-- 'laws.FnWorldGrows', WHERE WHAT IT READS IS OF BULK AT MOST 1048576: true; the input reads as it did. -/
def fnWorldGrowsUptoRow : OpenClaim := { program := "yteheahbjaddooaagreatdoor", sum := "1d88de2198e5ab860581aa316e62cdbae76be1277437e808228acdc746a32f16", func := "loop.example/pargeting/laws.FnWorldGrows", spec := "fnWorldGrows", inPlace := ["internal/bytealg.CountString", "internal/bytealg.IndexByteString", "internal/bytealg.IndexString", "internal/abi.NoEscape", "internal/bytealg.MakeNoZero"], unfollowed := true, recurses := true, named := ["unicode/utf8.first", "unicode/utf8.acceptRanges", "internal/bytealg.MaxLen"], apart := false, laid := [("unicode/utf8.acceptRanges", laid_unicode_utf8_acceptRanges), ("unicode/utf8.first", laid_unicode_utf8_first)], narrowed := true }
def FnWorldGrowsUptoSaid : Prop := fnWorldGrowsUptoRow.holds Tryz.pinned (OpenSpec.upto fnWorldGrowsSpec)

/-- 'laws.FnWorldView', WHERE WHAT IT READS IS OF BULK AT MOST 1048576: true; the input reads as it did. -/
def fnWorldViewUptoRow : OpenClaim := { program := "yteheahbjaddooaagreatdoor", sum := "1d88de2198e5ab860581aa316e62cdbae76be1277437e808228acdc746a32f16", func := "loop.example/pargeting/laws.FnWorldView", spec := "fnWorldView", inPlace := ["internal/bytealg.CountString", "internal/bytealg.IndexByteString", "internal/bytealg.IndexString", "internal/abi.NoEscape", "internal/bytealg.MakeNoZero"], unfollowed := true, recurses := true, named := ["unicode/utf8.first", "unicode/utf8.acceptRanges", "internal/bytealg.MaxLen"], apart := false, laid := [("unicode/utf8.acceptRanges", laid_unicode_utf8_acceptRanges), ("unicode/utf8.first", laid_unicode_utf8_first)], narrowed := true }
def FnWorldViewUptoSaid : Prop := fnWorldViewUptoRow.holds Tryz.pinned (OpenSpec.upto fnWorldViewSpec)

end Rows
end Go.Proofs.YteheahbjaddooaaGreatDoor

/-
  NARROWER THAN 'FOR EVERY INPUT', by the rows' own cells (each row's printed sentence says how): FnWorldOthers: laid · FnWorldBars: laid · FnWorldGrant: laid · FnWorldLate: laid · FnWorldLost: laid · FnWorldBusy: laid · FnWorldWait: laid · FnWorldEnds: laid · FnWorldTwice: laid.
  DERIVED. THE GIVEN ROWS OF THIS SEAT. 9 by the template 'for every input the law returns true; each argument reads behind the call as it read before'; 0 by the template 'total and deterministic' (their statements: YtopfccpgdldcdaaGreatDoorTotals.lean).
  GIVEN WITH THE SEED: the statements are not yours to turn. If you find one false, say at which input.
  Laid BY PROGRAM, IN A SANDBOX (cutbox-rows.mjs): the forced cells as the released guide's own fill.sh prints them over the translation 2a9691276776730d… (all of the seat's roots in one cut). By AI agents, Wed Nov 11 2026. No macro, syntax, notation, axiom, sorry.
-/
import Derived.Test.YtopfccpgdldcdaaGreatDoorChecked
import GoSem.PinnedTables
import GoSem.Claim
import GoSem.ClaimJoined
import GoSem.ClaimMapViews
import Derived.JoinedTies
import Derived.KernelRfl
namespace Go.Proofs.YtopfccpgdldcdaaGreatDoor
/- THE CELL 'sum', in the pinned program and in every row, IS THE sha256 OF THE DUMP (.gsa) THAT YtopfccpgdldcdaaGreatDoorProg.lean LOADS. Nothing in Lean hashes anything: it is a label: what it is worth is what the hold of that sum in a sandbox is worth. -/
noncomputable def Tryz.pinned : Pinned := { name := "ytopfccpgdldcdaagreatdoor", sum := "2a9691276776730df201529b0eeedfe876cfab550054f47ebc388841a73e3f16", checked := Tryz.checked }
namespace Rows
def none {H : Type} : Left H := { results := [], args := [] }

/- WHAT THE LISTED PACKAGE-LEVEL VARIABLES READ AS WHEN THE CALL BEGINS. Each datum BY PROGRAM (the guide's laid-datum.mjs) off the statement by which the dump's own 'gosem.cut.vars' lays the variable. In a bare row this is a premise. The card (YtopfccpgdldcdaaGreatDoorCards.lean) ties it to the program's text. -/
def laid_unicode_utf8_acceptRanges {H : Type} : DataW H := .agg [.agg [.lit (.int .u8 128), .lit (.int .u8 191)], .agg [.lit (.int .u8 160), .lit (.int .u8 191)], .agg [.lit (.int .u8 128), .lit (.int .u8 159)], .agg [.lit (.int .u8 144), .lit (.int .u8 191)], .agg [.lit (.int .u8 128), .lit (.int .u8 143)], .agg [.lit (.int .u8 0), .lit (.int .u8 0)], .agg [.lit (.int .u8 0), .lit (.int .u8 0)], .agg [.lit (.int .u8 0), .lit (.int .u8 0)], .agg [.lit (.int .u8 0), .lit (.int .u8 0)], .agg [.lit (.int .u8 0), .lit (.int .u8 0)], .agg [.lit (.int .u8 0), .lit (.int .u8 0)], .agg [.lit (.int .u8 0), .lit (.int .u8 0)], .agg [.lit (.int .u8 0), .lit (.int .u8 0)], .agg [.lit (.int .u8 0), .lit (.int .u8 0)], .agg [.lit (.int .u8 0), .lit (.int .u8 0)], .agg [.lit (.int .u8 0), .lit (.int .u8 0)]]
/-- One of Go's own tables, pinned by name: the form's constant. -/
def laid_unicode_utf8_first : DataW Unit := Go.Pinned.utf8First

/-- 'laws.FnWorldOthers': WHATEVER THE INPUT: true; the input reads as it did. -/
def fnWorldOthersSpec : ChangeSpec := { name := "fnWorldOthers", fn := fun _ => fun
  | [d] => { results := [.lit (.bool true)], args := [d] }
  | _ => none }
def fnWorldOthersRow : OpenClaim := { program := "ytopfccpgdldcdaagreatdoor", sum := "2a9691276776730df201529b0eeedfe876cfab550054f47ebc388841a73e3f16", func := "loop.example/pargeting/laws.FnWorldOthers", spec := "fnWorldOthers", inPlace := ["internal/bytealg.CountString", "internal/bytealg.IndexByteString", "internal/bytealg.IndexString", "internal/abi.NoEscape", "internal/bytealg.MakeNoZero"], unfollowed := true, recurses := true, named := ["unicode/utf8.first", "unicode/utf8.acceptRanges", "internal/bytealg.MaxLen"], apart := false, laid := [("unicode/utf8.acceptRanges", laid_unicode_utf8_acceptRanges), ("unicode/utf8.first", laid_unicode_utf8_first)] }
def FnWorldOthersSaid : Prop := fnWorldOthersRow.holds Tryz.pinned (OpenSpec.ofChange fnWorldOthersSpec)

/-- ITS FALSE NEIGHBOUR: 'it returns false'. Refute it at one input. -/
def fnWorldOthersWrong : ChangeSpec := { name := "fnWorldOthers", fn := fun _ => fun
  | [d] => { results := [.lit (.bool false)], args := [d] }
  | _ => none }
def FnWorldOthersWrongFalsely : Prop := fnWorldOthersRow.holds Tryz.pinned (OpenSpec.ofChange fnWorldOthersWrong)

/-- 'laws.FnWorldBars': WHATEVER THE INPUT: true; the input reads as it did. -/
def fnWorldBarsSpec : ChangeSpec := { name := "fnWorldBars", fn := fun _ => fun
  | [d] => { results := [.lit (.bool true)], args := [d] }
  | _ => none }
def fnWorldBarsRow : OpenClaim := { program := "ytopfccpgdldcdaagreatdoor", sum := "2a9691276776730df201529b0eeedfe876cfab550054f47ebc388841a73e3f16", func := "loop.example/pargeting/laws.FnWorldBars", spec := "fnWorldBars", inPlace := ["internal/bytealg.CountString", "internal/bytealg.IndexByteString", "internal/bytealg.IndexString", "internal/abi.NoEscape", "internal/bytealg.MakeNoZero"], unfollowed := true, recurses := true, named := ["unicode/utf8.first", "unicode/utf8.acceptRanges", "internal/bytealg.MaxLen"], apart := false, laid := [("unicode/utf8.acceptRanges", laid_unicode_utf8_acceptRanges), ("unicode/utf8.first", laid_unicode_utf8_first)] }
def FnWorldBarsSaid : Prop := fnWorldBarsRow.holds Tryz.pinned (OpenSpec.ofChange fnWorldBarsSpec)

/-- ITS FALSE NEIGHBOUR: 'it returns false'. Refute it at one input. -/
def fnWorldBarsWrong : ChangeSpec := { name := "fnWorldBars", fn := fun _ => fun
  | [d] => { results := [.lit (.bool false)], args := [d] }
  | _ => none }
def FnWorldBarsWrongFalsely : Prop := fnWorldBarsRow.holds Tryz.pinned (OpenSpec.ofChange fnWorldBarsWrong)

/-- 'laws.FnWorldGrant': WHATEVER THE INPUT: true; the input reads as it did. -/
def fnWorldGrantSpec : ChangeSpec := { name := "fnWorldGrant", fn := fun _ => fun
  | [d] => { results := [.lit (.bool true)], args := [d] }
  | _ => none }
def fnWorldGrantRow : OpenClaim := { program := "ytopfccpgdldcdaagreatdoor", sum := "2a9691276776730df201529b0eeedfe876cfab550054f47ebc388841a73e3f16", func := "loop.example/pargeting/laws.FnWorldGrant", spec := "fnWorldGrant", inPlace := ["internal/bytealg.CountString", "internal/bytealg.IndexByteString", "internal/bytealg.IndexString", "internal/abi.NoEscape", "internal/bytealg.MakeNoZero"], unfollowed := true, recurses := true, named := ["unicode/utf8.first", "unicode/utf8.acceptRanges", "internal/bytealg.MaxLen"], apart := false, laid := [("unicode/utf8.acceptRanges", laid_unicode_utf8_acceptRanges), ("unicode/utf8.first", laid_unicode_utf8_first)] }
def FnWorldGrantSaid : Prop := fnWorldGrantRow.holds Tryz.pinned (OpenSpec.ofChange fnWorldGrantSpec)

/-- ITS FALSE NEIGHBOUR: 'it returns false'. Refute it at one input. -/
def fnWorldGrantWrong : ChangeSpec := { name := "fnWorldGrant", fn := fun _ => fun
  | [d] => { results := [.lit (.bool false)], args := [d] }
  | _ => none }
def FnWorldGrantWrongFalsely : Prop := fnWorldGrantRow.holds Tryz.pinned (OpenSpec.ofChange fnWorldGrantWrong)

/-- 'laws.FnWorldLate': WHATEVER THE INPUT: true; the input reads as it did. -/
def fnWorldLateSpec : ChangeSpec := { name := "fnWorldLate", fn := fun _ => fun
  | [d] => { results := [.lit (.bool true)], args := [d] }
  | _ => none }
def fnWorldLateRow : OpenClaim := { program := "ytopfccpgdldcdaagreatdoor", sum := "2a9691276776730df201529b0eeedfe876cfab550054f47ebc388841a73e3f16", func := "loop.example/pargeting/laws.FnWorldLate", spec := "fnWorldLate", inPlace := ["internal/bytealg.CountString", "internal/bytealg.IndexByteString", "internal/bytealg.IndexString", "internal/abi.NoEscape", "internal/bytealg.MakeNoZero"], unfollowed := true, recurses := true, named := ["unicode/utf8.first", "unicode/utf8.acceptRanges", "internal/bytealg.MaxLen"], apart := false, laid := [("unicode/utf8.acceptRanges", laid_unicode_utf8_acceptRanges), ("unicode/utf8.first", laid_unicode_utf8_first)] }
def FnWorldLateSaid : Prop := fnWorldLateRow.holds Tryz.pinned (OpenSpec.ofChange fnWorldLateSpec)

/-- ITS FALSE NEIGHBOUR: 'it returns false'. Refute it at one input. -/
def fnWorldLateWrong : ChangeSpec := { name := "fnWorldLate", fn := fun _ => fun
  | [d] => { results := [.lit (.bool false)], args := [d] }
  | _ => none }
def FnWorldLateWrongFalsely : Prop := fnWorldLateRow.holds Tryz.pinned (OpenSpec.ofChange fnWorldLateWrong)

/-- 'laws.FnWorldLost': WHATEVER THE INPUT: true; the input reads as it did. -/
def fnWorldLostSpec : ChangeSpec := { name := "fnWorldLost", fn := fun _ => fun
  | [d] => { results := [.lit (.bool true)], args := [d] }
  | _ => none }
def fnWorldLostRow : OpenClaim := { program := "ytopfccpgdldcdaagreatdoor", sum := "2a9691276776730df201529b0eeedfe876cfab550054f47ebc388841a73e3f16", func := "loop.example/pargeting/laws.FnWorldLost", spec := "fnWorldLost", inPlace := ["internal/bytealg.CountString", "internal/bytealg.IndexByteString", "internal/bytealg.IndexString", "internal/abi.NoEscape", "internal/bytealg.MakeNoZero"], unfollowed := true, recurses := true, named := ["unicode/utf8.first", "unicode/utf8.acceptRanges", "internal/bytealg.MaxLen"], apart := false, laid := [("unicode/utf8.acceptRanges", laid_unicode_utf8_acceptRanges), ("unicode/utf8.first", laid_unicode_utf8_first)] }
def FnWorldLostSaid : Prop := fnWorldLostRow.holds Tryz.pinned (OpenSpec.ofChange fnWorldLostSpec)

/-- ITS FALSE NEIGHBOUR: 'it returns false'. Refute it at one input. -/
def fnWorldLostWrong : ChangeSpec := { name := "fnWorldLost", fn := fun _ => fun
  | [d] => { results := [.lit (.bool false)], args := [d] }
  | _ => none }
def FnWorldLostWrongFalsely : Prop := fnWorldLostRow.holds Tryz.pinned (OpenSpec.ofChange fnWorldLostWrong)

/-- 'laws.FnWorldBusy': WHATEVER THE INPUT: true; the input reads as it did. -/
def fnWorldBusySpec : ChangeSpec := { name := "fnWorldBusy", fn := fun _ => fun
  | [d] => { results := [.lit (.bool true)], args := [d] }
  | _ => none }
def fnWorldBusyRow : OpenClaim := { program := "ytopfccpgdldcdaagreatdoor", sum := "2a9691276776730df201529b0eeedfe876cfab550054f47ebc388841a73e3f16", func := "loop.example/pargeting/laws.FnWorldBusy", spec := "fnWorldBusy", inPlace := ["internal/bytealg.CountString", "internal/bytealg.IndexByteString", "internal/bytealg.IndexString", "internal/abi.NoEscape", "internal/bytealg.MakeNoZero"], unfollowed := true, recurses := true, named := ["unicode/utf8.first", "unicode/utf8.acceptRanges", "internal/bytealg.MaxLen"], apart := false, laid := [("unicode/utf8.acceptRanges", laid_unicode_utf8_acceptRanges), ("unicode/utf8.first", laid_unicode_utf8_first)] }
def FnWorldBusySaid : Prop := fnWorldBusyRow.holds Tryz.pinned (OpenSpec.ofChange fnWorldBusySpec)

/-- ITS FALSE NEIGHBOUR: 'it returns false'. Refute it at one input. -/
def fnWorldBusyWrong : ChangeSpec := { name := "fnWorldBusy", fn := fun _ => fun
  | [d] => { results := [.lit (.bool false)], args := [d] }
  | _ => none }
def FnWorldBusyWrongFalsely : Prop := fnWorldBusyRow.holds Tryz.pinned (OpenSpec.ofChange fnWorldBusyWrong)

/-- 'laws.FnWorldWait': WHATEVER THE INPUT: true; the input reads as it did. -/
def fnWorldWaitSpec : ChangeSpec := { name := "fnWorldWait", fn := fun _ => fun
  | [d] => { results := [.lit (.bool true)], args := [d] }
  | _ => none }
def fnWorldWaitRow : OpenClaim := { program := "ytopfccpgdldcdaagreatdoor", sum := "2a9691276776730df201529b0eeedfe876cfab550054f47ebc388841a73e3f16", func := "loop.example/pargeting/laws.FnWorldWait", spec := "fnWorldWait", inPlace := ["internal/bytealg.CountString", "internal/bytealg.IndexByteString", "internal/bytealg.IndexString", "internal/abi.NoEscape", "internal/bytealg.MakeNoZero"], unfollowed := true, recurses := true, named := ["unicode/utf8.first", "unicode/utf8.acceptRanges", "internal/bytealg.MaxLen"], apart := false, laid := [("unicode/utf8.acceptRanges", laid_unicode_utf8_acceptRanges), ("unicode/utf8.first", laid_unicode_utf8_first)] }
def FnWorldWaitSaid : Prop := fnWorldWaitRow.holds Tryz.pinned (OpenSpec.ofChange fnWorldWaitSpec)

/-- ITS FALSE NEIGHBOUR: 'it returns false'. Refute it at one input. -/
def fnWorldWaitWrong : ChangeSpec := { name := "fnWorldWait", fn := fun _ => fun
  | [d] => { results := [.lit (.bool false)], args := [d] }
  | _ => none }
def FnWorldWaitWrongFalsely : Prop := fnWorldWaitRow.holds Tryz.pinned (OpenSpec.ofChange fnWorldWaitWrong)

/-- 'laws.FnWorldEnds': WHATEVER THE INPUT: true; the input reads as it did. -/
def fnWorldEndsSpec : ChangeSpec := { name := "fnWorldEnds", fn := fun _ => fun
  | [d] => { results := [.lit (.bool true)], args := [d] }
  | _ => none }
def fnWorldEndsRow : OpenClaim := { program := "ytopfccpgdldcdaagreatdoor", sum := "2a9691276776730df201529b0eeedfe876cfab550054f47ebc388841a73e3f16", func := "loop.example/pargeting/laws.FnWorldEnds", spec := "fnWorldEnds", inPlace := ["internal/bytealg.CountString", "internal/bytealg.IndexByteString", "internal/bytealg.IndexString", "internal/abi.NoEscape", "internal/bytealg.MakeNoZero"], unfollowed := true, recurses := true, named := ["unicode/utf8.first", "unicode/utf8.acceptRanges", "internal/bytealg.MaxLen"], apart := false, laid := [("unicode/utf8.acceptRanges", laid_unicode_utf8_acceptRanges), ("unicode/utf8.first", laid_unicode_utf8_first)] }
def FnWorldEndsSaid : Prop := fnWorldEndsRow.holds Tryz.pinned (OpenSpec.ofChange fnWorldEndsSpec)

/-- ITS FALSE NEIGHBOUR: 'it returns false'. Refute it at one input. -/
def fnWorldEndsWrong : ChangeSpec := { name := "fnWorldEnds", fn := fun _ => fun
  | [d] => { results := [.lit (.bool false)], args := [d] }
  | _ => none }
def FnWorldEndsWrongFalsely : Prop := fnWorldEndsRow.holds Tryz.pinned (OpenSpec.ofChange fnWorldEndsWrong)

/-- 'laws.FnWorldTwice': WHATEVER THE INPUT: true; the input reads as it did. -/
def fnWorldTwiceSpec : ChangeSpec := { name := "fnWorldTwice", fn := fun _ => fun
  | [d] => { results := [.lit (.bool true)], args := [d] }
  | _ => none }
def fnWorldTwiceRow : OpenClaim := { program := "ytopfccpgdldcdaagreatdoor", sum := "2a9691276776730df201529b0eeedfe876cfab550054f47ebc388841a73e3f16", func := "loop.example/pargeting/laws.FnWorldTwice", spec := "fnWorldTwice", inPlace := ["internal/bytealg.CountString", "internal/bytealg.IndexByteString", "internal/bytealg.IndexString", "internal/abi.NoEscape", "internal/bytealg.MakeNoZero"], unfollowed := true, recurses := true, named := ["unicode/utf8.first", "unicode/utf8.acceptRanges", "internal/bytealg.MaxLen"], apart := false, laid := [("unicode/utf8.acceptRanges", laid_unicode_utf8_acceptRanges), ("unicode/utf8.first", laid_unicode_utf8_first)] }
def FnWorldTwiceSaid : Prop := fnWorldTwiceRow.holds Tryz.pinned (OpenSpec.ofChange fnWorldTwiceSpec)

/-- ITS FALSE NEIGHBOUR: 'it returns false'. Refute it at one input. -/
def fnWorldTwiceWrong : ChangeSpec := { name := "fnWorldTwice", fn := fun _ => fun
  | [d] => { results := [.lit (.bool false)], args := [d] }
  | _ => none }
def FnWorldTwiceWrongFalsely : Prop := fnWorldTwiceRow.holds Tryz.pinned (OpenSpec.ofChange fnWorldTwiceWrong)

/- THE SECOND FORM. 'bulk': how many values and letters a reading holds, each counted each time it is reached (what is shared counts as often as it is met; a slice's spare places count too). A statement '..UptoSaid' is the law's where the arguments, and the package variables that the reading takes, are together of bulk at most 1048576: NARROWER than '..Said'. Prove '..Said' where nothing that the law and all that it calls make is longer than what came in: it says more and counts as full. Else prove '..UptoSaid'. A law counts once. -/
mutual
def uptoBulk {H : Type} : DataW H → Nat
  | .lit (.string bytes) => bytes.length + 1
  | .lit _ => 1
  | .nil => 1
  | .ptr d => uptoBulk d + 1
  | .slice elems spare => uptoBulkAll elems + uptoBulkAll spare + 1
  | .agg parts => uptoBulkAll parts + 1
  | .iface _ d => uptoBulk d + 1
  | .map entries => uptoBulkEntries entries + 1
  | .held _ => 1
def uptoBulkAll {H : Type} : List (DataW H) → Nat
  | [] => 0
  | d :: r => uptoBulk d + uptoBulkAll r
def uptoBulkEntries {H : Type} : List (Lit × DataW H) → Nat
  | [] => 0
  | x :: r => uptoBulkEntry x + uptoBulkEntries r
def uptoBulkEntry {H : Type} : Lit × DataW H → Nat
  | (.string bytes, d) => bytes.length + uptoBulk d + 1
  | (_, d) => uptoBulk d + 1
 end
def uptoSmall : (H : Type) → List (DataW H) → Bool := fun _ ds => decide (uptoBulkAll ds ≤ 1048576)
def OpenSpec.upto (s : _root_.Go.ChangeSpec) : _root_.Go.OpenSpec := { _root_.Go.OpenSpec.ofChange s with cond := some uptoSmall }

/-- 'laws.FnWorldOthers', WHERE WHAT IT READS IS OF BULK AT MOST 1048576: true; the input reads as it did. -/
def fnWorldOthersUptoRow : OpenClaim := { program := "ytopfccpgdldcdaagreatdoor", sum := "2a9691276776730df201529b0eeedfe876cfab550054f47ebc388841a73e3f16", func := "loop.example/pargeting/laws.FnWorldOthers", spec := "fnWorldOthers", inPlace := ["internal/bytealg.CountString", "internal/bytealg.IndexByteString", "internal/bytealg.IndexString", "internal/abi.NoEscape", "internal/bytealg.MakeNoZero"], unfollowed := true, recurses := true, named := ["unicode/utf8.first", "unicode/utf8.acceptRanges", "internal/bytealg.MaxLen"], apart := false, laid := [("unicode/utf8.acceptRanges", laid_unicode_utf8_acceptRanges), ("unicode/utf8.first", laid_unicode_utf8_first)], narrowed := true }
def FnWorldOthersUptoSaid : Prop := fnWorldOthersUptoRow.holds Tryz.pinned (OpenSpec.upto fnWorldOthersSpec)

/-- 'laws.FnWorldBars', WHERE WHAT IT READS IS OF BULK AT MOST 1048576: true; the input reads as it did. -/
def fnWorldBarsUptoRow : OpenClaim := { program := "ytopfccpgdldcdaagreatdoor", sum := "2a9691276776730df201529b0eeedfe876cfab550054f47ebc388841a73e3f16", func := "loop.example/pargeting/laws.FnWorldBars", spec := "fnWorldBars", inPlace := ["internal/bytealg.CountString", "internal/bytealg.IndexByteString", "internal/bytealg.IndexString", "internal/abi.NoEscape", "internal/bytealg.MakeNoZero"], unfollowed := true, recurses := true, named := ["unicode/utf8.first", "unicode/utf8.acceptRanges", "internal/bytealg.MaxLen"], apart := false, laid := [("unicode/utf8.acceptRanges", laid_unicode_utf8_acceptRanges), ("unicode/utf8.first", laid_unicode_utf8_first)], narrowed := true }
def FnWorldBarsUptoSaid : Prop := fnWorldBarsUptoRow.holds Tryz.pinned (OpenSpec.upto fnWorldBarsSpec)

/-- 'laws.FnWorldGrant', WHERE WHAT IT READS IS OF BULK AT MOST 1048576: true; the input reads as it did. -/
def fnWorldGrantUptoRow : OpenClaim := { program := "ytopfccpgdldcdaagreatdoor", sum := "2a9691276776730df201529b0eeedfe876cfab550054f47ebc388841a73e3f16", func := "loop.example/pargeting/laws.FnWorldGrant", spec := "fnWorldGrant", inPlace := ["internal/bytealg.CountString", "internal/bytealg.IndexByteString", "internal/bytealg.IndexString", "internal/abi.NoEscape", "internal/bytealg.MakeNoZero"], unfollowed := true, recurses := true, named := ["unicode/utf8.first", "unicode/utf8.acceptRanges", "internal/bytealg.MaxLen"], apart := false, laid := [("unicode/utf8.acceptRanges", laid_unicode_utf8_acceptRanges), ("unicode/utf8.first", laid_unicode_utf8_first)], narrowed := true }
def FnWorldGrantUptoSaid : Prop := fnWorldGrantUptoRow.holds Tryz.pinned (OpenSpec.upto fnWorldGrantSpec)

/-- 'laws.FnWorldLate', WHERE WHAT IT READS IS OF BULK AT MOST 1048576: true; the input reads as it did. -/
def fnWorldLateUptoRow : OpenClaim := { program := "ytopfccpgdldcdaagreatdoor", sum := "2a9691276776730df201529b0eeedfe876cfab550054f47ebc388841a73e3f16", func := "loop.example/pargeting/laws.FnWorldLate", spec := "fnWorldLate", inPlace := ["internal/bytealg.CountString", "internal/bytealg.IndexByteString", "internal/bytealg.IndexString", "internal/abi.NoEscape", "internal/bytealg.MakeNoZero"], unfollowed := true, recurses := true, named := ["unicode/utf8.first", "unicode/utf8.acceptRanges", "internal/bytealg.MaxLen"], apart := false, laid := [("unicode/utf8.acceptRanges", laid_unicode_utf8_acceptRanges), ("unicode/utf8.first", laid_unicode_utf8_first)], narrowed := true }
def FnWorldLateUptoSaid : Prop := fnWorldLateUptoRow.holds Tryz.pinned (OpenSpec.upto fnWorldLateSpec)

/-- 'laws.FnWorldLost', WHERE WHAT IT READS IS OF BULK AT MOST 1048576: true; the input reads as it did. -/
def fnWorldLostUptoRow : OpenClaim := { program := "ytopfccpgdldcdaagreatdoor", sum := "2a9691276776730df201529b0eeedfe876cfab550054f47ebc388841a73e3f16", func := "loop.example/pargeting/laws.FnWorldLost", spec := "fnWorldLost", inPlace := ["internal/bytealg.CountString", "internal/bytealg.IndexByteString", "internal/bytealg.IndexString", "internal/abi.NoEscape", "internal/bytealg.MakeNoZero"], unfollowed := true, recurses := true, named := ["unicode/utf8.first", "unicode/utf8.acceptRanges", "internal/bytealg.MaxLen"], apart := false, laid := [("unicode/utf8.acceptRanges", laid_unicode_utf8_acceptRanges), ("unicode/utf8.first", laid_unicode_utf8_first)], narrowed := true }
def FnWorldLostUptoSaid : Prop := fnWorldLostUptoRow.holds Tryz.pinned (OpenSpec.upto fnWorldLostSpec)

/-- 'laws.FnWorldBusy', WHERE WHAT IT READS IS OF BULK AT MOST 1048576: true; the input reads as it did. -/
def fnWorldBusyUptoRow : OpenClaim := { program := "ytopfccpgdldcdaagreatdoor", sum := "2a9691276776730df201529b0eeedfe876cfab550054f47ebc388841a73e3f16", func := "loop.example/pargeting/laws.FnWorldBusy", spec := "fnWorldBusy", inPlace := ["internal/bytealg.CountString", "internal/bytealg.IndexByteString", "internal/bytealg.IndexString", "internal/abi.NoEscape", "internal/bytealg.MakeNoZero"], unfollowed := true, recurses := true, named := ["unicode/utf8.first", "unicode/utf8.acceptRanges", "internal/bytealg.MaxLen"], apart := false, laid := [("unicode/utf8.acceptRanges", laid_unicode_utf8_acceptRanges), ("unicode/utf8.first", laid_unicode_utf8_first)], narrowed := true }
def FnWorldBusyUptoSaid : Prop := fnWorldBusyUptoRow.holds Tryz.pinned (OpenSpec.upto fnWorldBusySpec)

/-- 'laws.FnWorldWait', WHERE WHAT IT READS IS OF BULK AT MOST 1048576: true; the input reads as it did. -/
def fnWorldWaitUptoRow : OpenClaim := { program := "ytopfccpgdldcdaagreatdoor", sum := "2a9691276776730df201529b0eeedfe876cfab550054f47ebc388841a73e3f16", func := "loop.example/pargeting/laws.FnWorldWait", spec := "fnWorldWait", inPlace := ["internal/bytealg.CountString", "internal/bytealg.IndexByteString", "internal/bytealg.IndexString", "internal/abi.NoEscape", "internal/bytealg.MakeNoZero"], unfollowed := true, recurses := true, named := ["unicode/utf8.first", "unicode/utf8.acceptRanges", "internal/bytealg.MaxLen"], apart := false, laid := [("unicode/utf8.acceptRanges", laid_unicode_utf8_acceptRanges), ("unicode/utf8.first", laid_unicode_utf8_first)], narrowed := true }
def FnWorldWaitUptoSaid : Prop := fnWorldWaitUptoRow.holds Tryz.pinned (OpenSpec.upto fnWorldWaitSpec)

/-- 'laws.FnWorldEnds', WHERE WHAT IT READS IS OF BULK AT MOST 1048576: true; the input reads as it did. -/
def fnWorldEndsUptoRow : OpenClaim := { program := "ytopfccpgdldcdaagreatdoor", sum := "2a9691276776730df201529b0eeedfe876cfab550054f47ebc388841a73e3f16", func := "loop.example/pargeting/laws.FnWorldEnds", spec := "fnWorldEnds", inPlace := ["internal/bytealg.CountString", "internal/bytealg.IndexByteString", "internal/bytealg.IndexString", "internal/abi.NoEscape", "internal/bytealg.MakeNoZero"], unfollowed := true, recurses := true, named := ["unicode/utf8.first", "unicode/utf8.acceptRanges", "internal/bytealg.MaxLen"], apart := false, laid := [("unicode/utf8.acceptRanges", laid_unicode_utf8_acceptRanges), ("unicode/utf8.first", laid_unicode_utf8_first)], narrowed := true }
def FnWorldEndsUptoSaid : Prop := fnWorldEndsUptoRow.holds Tryz.pinned (OpenSpec.upto fnWorldEndsSpec)

/-- 'laws.FnWorldTwice', WHERE WHAT IT READS IS OF BULK AT MOST 1048576: true; the input reads as it did. -/
def fnWorldTwiceUptoRow : OpenClaim := { program := "ytopfccpgdldcdaagreatdoor", sum := "2a9691276776730df201529b0eeedfe876cfab550054f47ebc388841a73e3f16", func := "loop.example/pargeting/laws.FnWorldTwice", spec := "fnWorldTwice", inPlace := ["internal/bytealg.CountString", "internal/bytealg.IndexByteString", "internal/bytealg.IndexString", "internal/abi.NoEscape", "internal/bytealg.MakeNoZero"], unfollowed := true, recurses := true, named := ["unicode/utf8.first", "unicode/utf8.acceptRanges", "internal/bytealg.MaxLen"], apart := false, laid := [("unicode/utf8.acceptRanges", laid_unicode_utf8_acceptRanges), ("unicode/utf8.first", laid_unicode_utf8_first)], narrowed := true }
def FnWorldTwiceUptoSaid : Prop := fnWorldTwiceUptoRow.holds Tryz.pinned (OpenSpec.upto fnWorldTwiceSpec)

end Rows
end Go.Proofs.YtopfccpgdldcdaaGreatDoor

/-
  NARROWER THAN 'FOR EVERY INPUT', by the rows' own cells (each row's printed sentence says how): KeysParts: laid · KeysNumbers: laid · KeysCompares: laid · KeysTurns: laid · KeysOrder: laid · KeysWhole: laid · KeysParted: laid · KeysFolds: laid · KeysBegin: laid.
  DERIVED. THE GIVEN ROWS OF THIS SEAT. 9 by the template 'for every input the law returns true; each argument reads behind the call as it read before'; 0 by the template 'total and deterministic' (their statements: YtbndinaiclkajaaDoorTotals.lean).
  GIVEN WITH THE SEED: the statements are not yours to turn. If you find one false, say at which input.
  Laid BY PROGRAM, IN A SANDBOX (cutbox-rows.mjs): the forced cells as the released guide's own fill.sh prints them over the translation a4d4368f1421c989… (all of the seat's roots in one cut). By AI agents, Wed Nov 11 2026. No macro, syntax, notation, axiom, sorry.
-/
import Derived.Test.YtbndinaiclkajaaDoorChecked
import GoSem.PinnedTables
import GoSem.Claim
import GoSem.ClaimJoined
import GoSem.ClaimMapViews
import Derived.JoinedTies
import Derived.KernelRfl
namespace Go.Proofs.YtbndinaiclkajaaDoor
/- THE CELL 'sum', in the pinned program and in every row, IS THE sha256 OF THE DUMP (.gsa) THAT YtbndinaiclkajaaDoorProg.lean LOADS. Nothing in Lean hashes anything: it is a label: what it is worth is what the hold of that sum in a sandbox is worth. -/
noncomputable def Tryd.pinned : Pinned := { name := "ytbndinaiclkajaadoor", sum := "a4d4368f1421c98983b466bdd7cb80dc39d9ec0b23bec68bc5c8b711ce32b96a", checked := Tryd.checked }
namespace Rows
def none {H : Type} : Left H := { results := [], args := [] }

/- WHAT THE LISTED PACKAGE-LEVEL VARIABLES READ AS WHEN THE CALL BEGINS. Each datum BY PROGRAM (the guide's laid-datum.mjs) off the statement by which the dump's own 'gosem.cut.vars' lays the variable. In a bare row this is a premise. The card (YtbndinaiclkajaaDoorCards.lean) ties it to the program's text. -/
def laid_unicode_utf8_acceptRanges {H : Type} : DataW H := .agg [.agg [.lit (.int .u8 128), .lit (.int .u8 191)], .agg [.lit (.int .u8 160), .lit (.int .u8 191)], .agg [.lit (.int .u8 128), .lit (.int .u8 159)], .agg [.lit (.int .u8 144), .lit (.int .u8 191)], .agg [.lit (.int .u8 128), .lit (.int .u8 143)], .agg [.lit (.int .u8 0), .lit (.int .u8 0)], .agg [.lit (.int .u8 0), .lit (.int .u8 0)], .agg [.lit (.int .u8 0), .lit (.int .u8 0)], .agg [.lit (.int .u8 0), .lit (.int .u8 0)], .agg [.lit (.int .u8 0), .lit (.int .u8 0)], .agg [.lit (.int .u8 0), .lit (.int .u8 0)], .agg [.lit (.int .u8 0), .lit (.int .u8 0)], .agg [.lit (.int .u8 0), .lit (.int .u8 0)], .agg [.lit (.int .u8 0), .lit (.int .u8 0)], .agg [.lit (.int .u8 0), .lit (.int .u8 0)], .agg [.lit (.int .u8 0), .lit (.int .u8 0)]]
/-- One of Go's own tables, pinned by name: the form's constant. -/
def laid_unicode_utf8_first : DataW Unit := Go.Pinned.utf8First

/-- 'toolchestlaw05.KeysParts': WHATEVER THE INPUT: true; the input reads as it did. -/
def keysPartsSpec : ChangeSpec := { name := "keysParts", fn := fun _ => fun
  | [d1, d2] => { results := [.lit (.bool true)], args := [d1, d2] }
  | _ => none }
def keysPartsRow : OpenClaim := { program := "ytbndinaiclkajaadoor", sum := "a4d4368f1421c98983b466bdd7cb80dc39d9ec0b23bec68bc5c8b711ce32b96a", func := "toolchest/toolchestlaw05.KeysParts", spec := "keysParts", inPlace := ["internal/bytealg.IndexByteString", "internal/bytealg.IndexString"], unfollowed := true, recurses := true, named := ["unicode/utf8.first", "unicode/utf8.acceptRanges", "internal/bytealg.MaxLen"], apart := false, laid := [("unicode/utf8.acceptRanges", laid_unicode_utf8_acceptRanges), ("unicode/utf8.first", laid_unicode_utf8_first)] }
def KeysPartsSaid : Prop := keysPartsRow.holds Tryd.pinned (OpenSpec.ofChange keysPartsSpec)

/-- ITS FALSE NEIGHBOUR: 'it returns false'. Refute it at one input. -/
def keysPartsWrong : ChangeSpec := { name := "keysParts", fn := fun _ => fun
  | [d1, d2] => { results := [.lit (.bool false)], args := [d1, d2] }
  | _ => none }
def KeysPartsWrongFalsely : Prop := keysPartsRow.holds Tryd.pinned (OpenSpec.ofChange keysPartsWrong)

/-- 'toolchestlaw05.KeysNumbers': WHATEVER THE INPUT: true; the input reads as it did. -/
def keysNumbersSpec : ChangeSpec := { name := "keysNumbers", fn := fun _ => fun
  | [d1, d2] => { results := [.lit (.bool true)], args := [d1, d2] }
  | _ => none }
def keysNumbersRow : OpenClaim := { program := "ytbndinaiclkajaadoor", sum := "a4d4368f1421c98983b466bdd7cb80dc39d9ec0b23bec68bc5c8b711ce32b96a", func := "toolchest/toolchestlaw05.KeysNumbers", spec := "keysNumbers", inPlace := ["internal/bytealg.IndexByteString", "internal/bytealg.IndexString"], named := ["unicode/utf8.first", "unicode/utf8.acceptRanges", "internal/bytealg.MaxLen"], apart := false, laid := [("unicode/utf8.acceptRanges", laid_unicode_utf8_acceptRanges), ("unicode/utf8.first", laid_unicode_utf8_first)] }
def KeysNumbersSaid : Prop := keysNumbersRow.holds Tryd.pinned (OpenSpec.ofChange keysNumbersSpec)

/-- ITS FALSE NEIGHBOUR: 'it returns false'. Refute it at one input. -/
def keysNumbersWrong : ChangeSpec := { name := "keysNumbers", fn := fun _ => fun
  | [d1, d2] => { results := [.lit (.bool false)], args := [d1, d2] }
  | _ => none }
def KeysNumbersWrongFalsely : Prop := keysNumbersRow.holds Tryd.pinned (OpenSpec.ofChange keysNumbersWrong)

/-- 'toolchestlaw05.KeysCompares': WHATEVER THE INPUT: true; the input reads as it did. -/
def keysComparesSpec : ChangeSpec := { name := "keysCompares", fn := fun _ => fun
  | [d1, d2, d3] => { results := [.lit (.bool true)], args := [d1, d2, d3] }
  | _ => none }
def keysComparesRow : OpenClaim := { program := "ytbndinaiclkajaadoor", sum := "a4d4368f1421c98983b466bdd7cb80dc39d9ec0b23bec68bc5c8b711ce32b96a", func := "toolchest/toolchestlaw05.KeysCompares", spec := "keysCompares", inPlace := ["internal/bytealg.IndexByteString", "internal/bytealg.IndexString"], unfollowed := true, recurses := true, named := ["unicode/utf8.first", "unicode/utf8.acceptRanges", "internal/bytealg.MaxLen"], apart := false, laid := [("unicode/utf8.acceptRanges", laid_unicode_utf8_acceptRanges), ("unicode/utf8.first", laid_unicode_utf8_first)] }
def KeysComparesSaid : Prop := keysComparesRow.holds Tryd.pinned (OpenSpec.ofChange keysComparesSpec)

/-- ITS FALSE NEIGHBOUR: 'it returns false'. Refute it at one input. -/
def keysComparesWrong : ChangeSpec := { name := "keysCompares", fn := fun _ => fun
  | [d1, d2, d3] => { results := [.lit (.bool false)], args := [d1, d2, d3] }
  | _ => none }
def KeysComparesWrongFalsely : Prop := keysComparesRow.holds Tryd.pinned (OpenSpec.ofChange keysComparesWrong)

/-- 'toolchestlaw05.KeysTurns': WHATEVER THE INPUT: true; the input reads as it did. -/
def keysTurnsSpec : ChangeSpec := { name := "keysTurns", fn := fun _ => fun
  | [d1, d2, d3] => { results := [.lit (.bool true)], args := [d1, d2, d3] }
  | _ => none }
def keysTurnsRow : OpenClaim := { program := "ytbndinaiclkajaadoor", sum := "a4d4368f1421c98983b466bdd7cb80dc39d9ec0b23bec68bc5c8b711ce32b96a", func := "toolchest/toolchestlaw05.KeysTurns", spec := "keysTurns", inPlace := ["internal/bytealg.IndexByteString", "internal/bytealg.IndexString"], unfollowed := true, recurses := true, named := ["unicode/utf8.first", "unicode/utf8.acceptRanges", "internal/bytealg.MaxLen"], apart := false, laid := [("unicode/utf8.acceptRanges", laid_unicode_utf8_acceptRanges), ("unicode/utf8.first", laid_unicode_utf8_first)] }
def KeysTurnsSaid : Prop := keysTurnsRow.holds Tryd.pinned (OpenSpec.ofChange keysTurnsSpec)

/-- ITS FALSE NEIGHBOUR: 'it returns false'. Refute it at one input. -/
def keysTurnsWrong : ChangeSpec := { name := "keysTurns", fn := fun _ => fun
  | [d1, d2, d3] => { results := [.lit (.bool false)], args := [d1, d2, d3] }
  | _ => none }
def KeysTurnsWrongFalsely : Prop := keysTurnsRow.holds Tryd.pinned (OpenSpec.ofChange keysTurnsWrong)

/-- 'toolchestlaw05.KeysOrder': WHATEVER THE INPUT: true; the input reads as it did. -/
def keysOrderSpec : ChangeSpec := { name := "keysOrder", fn := fun _ => fun
  | [d1, d2] => { results := [.lit (.bool true)], args := [d1, d2] }
  | _ => none }
def keysOrderRow : OpenClaim := { program := "ytbndinaiclkajaadoor", sum := "a4d4368f1421c98983b466bdd7cb80dc39d9ec0b23bec68bc5c8b711ce32b96a", func := "toolchest/toolchestlaw05.KeysOrder", spec := "keysOrder", inPlace := ["internal/bytealg.IndexByteString", "internal/bytealg.IndexString"], unfollowed := true, recurses := true, named := ["unicode/utf8.first", "unicode/utf8.acceptRanges", "internal/bytealg.MaxLen"], apart := false, laid := [("unicode/utf8.acceptRanges", laid_unicode_utf8_acceptRanges), ("unicode/utf8.first", laid_unicode_utf8_first)] }
def KeysOrderSaid : Prop := keysOrderRow.holds Tryd.pinned (OpenSpec.ofChange keysOrderSpec)

/-- ITS FALSE NEIGHBOUR: 'it returns false'. Refute it at one input. -/
def keysOrderWrong : ChangeSpec := { name := "keysOrder", fn := fun _ => fun
  | [d1, d2] => { results := [.lit (.bool false)], args := [d1, d2] }
  | _ => none }
def KeysOrderWrongFalsely : Prop := keysOrderRow.holds Tryd.pinned (OpenSpec.ofChange keysOrderWrong)

/-- 'toolchestlaw05.KeysWhole': WHATEVER THE INPUT: true; the input reads as it did. -/
def keysWholeSpec : ChangeSpec := { name := "keysWhole", fn := fun _ => fun
  | [d1, d2, d3] => { results := [.lit (.bool true)], args := [d1, d2, d3] }
  | _ => none }
def keysWholeRow : OpenClaim := { program := "ytbndinaiclkajaadoor", sum := "a4d4368f1421c98983b466bdd7cb80dc39d9ec0b23bec68bc5c8b711ce32b96a", func := "toolchest/toolchestlaw05.KeysWhole", spec := "keysWhole", inPlace := ["internal/bytealg.IndexByteString", "internal/bytealg.IndexString"], unfollowed := true, recurses := true, named := ["unicode/utf8.first", "unicode/utf8.acceptRanges", "internal/bytealg.MaxLen"], apart := false, laid := [("unicode/utf8.acceptRanges", laid_unicode_utf8_acceptRanges), ("unicode/utf8.first", laid_unicode_utf8_first)] }
def KeysWholeSaid : Prop := keysWholeRow.holds Tryd.pinned (OpenSpec.ofChange keysWholeSpec)

/-- ITS FALSE NEIGHBOUR: 'it returns false'. Refute it at one input. -/
def keysWholeWrong : ChangeSpec := { name := "keysWhole", fn := fun _ => fun
  | [d1, d2, d3] => { results := [.lit (.bool false)], args := [d1, d2, d3] }
  | _ => none }
def KeysWholeWrongFalsely : Prop := keysWholeRow.holds Tryd.pinned (OpenSpec.ofChange keysWholeWrong)

/-- 'toolchestlaw05.KeysParted': WHATEVER THE INPUT: true; the input reads as it did. -/
def keysPartedSpec : ChangeSpec := { name := "keysParted", fn := fun _ => fun
  | [d1, d2, d3] => { results := [.lit (.bool true)], args := [d1, d2, d3] }
  | _ => none }
def keysPartedRow : OpenClaim := { program := "ytbndinaiclkajaadoor", sum := "a4d4368f1421c98983b466bdd7cb80dc39d9ec0b23bec68bc5c8b711ce32b96a", func := "toolchest/toolchestlaw05.KeysParted", spec := "keysParted", inPlace := ["internal/bytealg.IndexByteString", "internal/bytealg.IndexString"], unfollowed := true, recurses := true, named := ["unicode/utf8.first", "unicode/utf8.acceptRanges", "internal/bytealg.MaxLen"], apart := false, laid := [("unicode/utf8.acceptRanges", laid_unicode_utf8_acceptRanges), ("unicode/utf8.first", laid_unicode_utf8_first)] }
def KeysPartedSaid : Prop := keysPartedRow.holds Tryd.pinned (OpenSpec.ofChange keysPartedSpec)

/-- ITS FALSE NEIGHBOUR: 'it returns false'. Refute it at one input. -/
def keysPartedWrong : ChangeSpec := { name := "keysParted", fn := fun _ => fun
  | [d1, d2, d3] => { results := [.lit (.bool false)], args := [d1, d2, d3] }
  | _ => none }
def KeysPartedWrongFalsely : Prop := keysPartedRow.holds Tryd.pinned (OpenSpec.ofChange keysPartedWrong)

/-- 'toolchestlaw05.KeysFolds': WHATEVER THE INPUT: true; the input reads as it did. -/
def keysFoldsSpec : ChangeSpec := { name := "keysFolds", fn := fun _ => fun
  | [d1, d2, d3] => { results := [.lit (.bool true)], args := [d1, d2, d3] }
  | _ => none }
def keysFoldsRow : OpenClaim := { program := "ytbndinaiclkajaadoor", sum := "a4d4368f1421c98983b466bdd7cb80dc39d9ec0b23bec68bc5c8b711ce32b96a", func := "toolchest/toolchestlaw05.KeysFolds", spec := "keysFolds", inPlace := ["internal/bytealg.IndexByteString", "internal/bytealg.IndexString"], unfollowed := true, recurses := true, named := ["unicode/utf8.first", "unicode/utf8.acceptRanges", "internal/bytealg.MaxLen"], apart := false, laid := [("unicode/utf8.acceptRanges", laid_unicode_utf8_acceptRanges), ("unicode/utf8.first", laid_unicode_utf8_first)] }
def KeysFoldsSaid : Prop := keysFoldsRow.holds Tryd.pinned (OpenSpec.ofChange keysFoldsSpec)

/-- ITS FALSE NEIGHBOUR: 'it returns false'. Refute it at one input. -/
def keysFoldsWrong : ChangeSpec := { name := "keysFolds", fn := fun _ => fun
  | [d1, d2, d3] => { results := [.lit (.bool false)], args := [d1, d2, d3] }
  | _ => none }
def KeysFoldsWrongFalsely : Prop := keysFoldsRow.holds Tryd.pinned (OpenSpec.ofChange keysFoldsWrong)

/-- 'toolchestlaw05.KeysBegin': WHATEVER THE INPUT: true; the input reads as it did. -/
def keysBeginSpec : ChangeSpec := { name := "keysBegin", fn := fun _ => fun
  | [d1, d2] => { results := [.lit (.bool true)], args := [d1, d2] }
  | _ => none }
def keysBeginRow : OpenClaim := { program := "ytbndinaiclkajaadoor", sum := "a4d4368f1421c98983b466bdd7cb80dc39d9ec0b23bec68bc5c8b711ce32b96a", func := "toolchest/toolchestlaw05.KeysBegin", spec := "keysBegin", inPlace := ["internal/bytealg.IndexByteString", "internal/bytealg.IndexString"], unfollowed := true, recurses := true, named := ["unicode/utf8.first", "unicode/utf8.acceptRanges", "internal/bytealg.MaxLen"], apart := false, laid := [("unicode/utf8.acceptRanges", laid_unicode_utf8_acceptRanges), ("unicode/utf8.first", laid_unicode_utf8_first)] }
def KeysBeginSaid : Prop := keysBeginRow.holds Tryd.pinned (OpenSpec.ofChange keysBeginSpec)

/-- ITS FALSE NEIGHBOUR: 'it returns false'. Refute it at one input. -/
def keysBeginWrong : ChangeSpec := { name := "keysBegin", fn := fun _ => fun
  | [d1, d2] => { results := [.lit (.bool false)], args := [d1, d2] }
  | _ => none }
def KeysBeginWrongFalsely : Prop := keysBeginRow.holds Tryd.pinned (OpenSpec.ofChange keysBeginWrong)

/- THE SECOND FORM. 'bulk': how many values and letters a reading holds, each counted each time it is reached (what is shared counts as often as it is met; a slice's spare places count too). A statement '..UptoSaid' is the law's where the arguments, and the package variables that the reading takes, are together of bulk at most 1048576: NARROWER than '..Said'. Prove '..Said' where nothing that the law and all that it calls make is longer than what came in: it says more and counts as full. Else prove '..UptoSaid'. A law counts once. -/
mutual
def uptoBulk {H : Type} : DataW H → Nat
  | .lit (.string bytes) => bytes.length + 1
  | .lit _ => 1
  | .nil => 1
  | .ptr d => uptoBulk d + 1
  | .slice elems spare => uptoBulkAll elems + uptoBulkAll spare + 1
  | .agg parts => uptoBulkAll parts + 1
  | .iface _ d => uptoBulk d + 1
  | .map entries => uptoBulkEntries entries + 1
  | .held _ => 1
def uptoBulkAll {H : Type} : List (DataW H) → Nat
  | [] => 0
  | d :: r => uptoBulk d + uptoBulkAll r
def uptoBulkEntries {H : Type} : List (Lit × DataW H) → Nat
  | [] => 0
  | x :: r => uptoBulkEntry x + uptoBulkEntries r
def uptoBulkEntry {H : Type} : Lit × DataW H → Nat
  | (.string bytes, d) => bytes.length + uptoBulk d + 1
  | (_, d) => uptoBulk d + 1
 end
def uptoSmall : (H : Type) → List (DataW H) → Bool := fun _ ds => decide (uptoBulkAll ds ≤ 1048576)
def OpenSpec.upto (s : _root_.Go.ChangeSpec) : _root_.Go.OpenSpec := { _root_.Go.OpenSpec.ofChange s with cond := some uptoSmall }

/-- 'toolchestlaw05.KeysParts', WHERE WHAT IT READS IS OF BULK AT MOST 1048576: true; the input reads as it did. -/
def keysPartsUptoRow : OpenClaim := { program := "ytbndinaiclkajaadoor", sum := "a4d4368f1421c98983b466bdd7cb80dc39d9ec0b23bec68bc5c8b711ce32b96a", func := "toolchest/toolchestlaw05.KeysParts", spec := "keysParts", inPlace := ["internal/bytealg.IndexByteString", "internal/bytealg.IndexString"], unfollowed := true, recurses := true, named := ["unicode/utf8.first", "unicode/utf8.acceptRanges", "internal/bytealg.MaxLen"], apart := false, laid := [("unicode/utf8.acceptRanges", laid_unicode_utf8_acceptRanges), ("unicode/utf8.first", laid_unicode_utf8_first)], narrowed := true }
def KeysPartsUptoSaid : Prop := keysPartsUptoRow.holds Tryd.pinned (OpenSpec.upto keysPartsSpec)

/-- 'toolchestlaw05.KeysNumbers', WHERE WHAT IT READS IS OF BULK AT MOST 1048576: true; the input reads as it did. -/
def keysNumbersUptoRow : OpenClaim := { program := "ytbndinaiclkajaadoor", sum := "a4d4368f1421c98983b466bdd7cb80dc39d9ec0b23bec68bc5c8b711ce32b96a", func := "toolchest/toolchestlaw05.KeysNumbers", spec := "keysNumbers", inPlace := ["internal/bytealg.IndexByteString", "internal/bytealg.IndexString"], named := ["unicode/utf8.first", "unicode/utf8.acceptRanges", "internal/bytealg.MaxLen"], apart := false, laid := [("unicode/utf8.acceptRanges", laid_unicode_utf8_acceptRanges), ("unicode/utf8.first", laid_unicode_utf8_first)], narrowed := true }
def KeysNumbersUptoSaid : Prop := keysNumbersUptoRow.holds Tryd.pinned (OpenSpec.upto keysNumbersSpec)

/-- 'toolchestlaw05.KeysCompares', WHERE WHAT IT READS IS OF BULK AT MOST 1048576: true; the input reads as it did. -/
def keysComparesUptoRow : OpenClaim := { program := "ytbndinaiclkajaadoor", sum := "a4d4368f1421c98983b466bdd7cb80dc39d9ec0b23bec68bc5c8b711ce32b96a", func := "toolchest/toolchestlaw05.KeysCompares", spec := "keysCompares", inPlace := ["internal/bytealg.IndexByteString", "internal/bytealg.IndexString"], unfollowed := true, recurses := true, named := ["unicode/utf8.first", "unicode/utf8.acceptRanges", "internal/bytealg.MaxLen"], apart := false, laid := [("unicode/utf8.acceptRanges", laid_unicode_utf8_acceptRanges), ("unicode/utf8.first", laid_unicode_utf8_first)], narrowed := true }
def KeysComparesUptoSaid : Prop := keysComparesUptoRow.holds Tryd.pinned (OpenSpec.upto keysComparesSpec)

/-- 'toolchestlaw05.KeysTurns', WHERE WHAT IT READS IS OF BULK AT MOST 1048576: true; the input reads as it did. -/
def keysTurnsUptoRow : OpenClaim := { program := "ytbndinaiclkajaadoor", sum := "a4d4368f1421c98983b466bdd7cb80dc39d9ec0b23bec68bc5c8b711ce32b96a", func := "toolchest/toolchestlaw05.KeysTurns", spec := "keysTurns", inPlace := ["internal/bytealg.IndexByteString", "internal/bytealg.IndexString"], unfollowed := true, recurses := true, named := ["unicode/utf8.first", "unicode/utf8.acceptRanges", "internal/bytealg.MaxLen"], apart := false, laid := [("unicode/utf8.acceptRanges", laid_unicode_utf8_acceptRanges), ("unicode/utf8.first", laid_unicode_utf8_first)], narrowed := true }
def KeysTurnsUptoSaid : Prop := keysTurnsUptoRow.holds Tryd.pinned (OpenSpec.upto keysTurnsSpec)

/-- 'toolchestlaw05.KeysOrder', WHERE WHAT IT READS IS OF BULK AT MOST 1048576: true; the input reads as it did. -/
def keysOrderUptoRow : OpenClaim := { program := "ytbndinaiclkajaadoor", sum := "a4d4368f1421c98983b466bdd7cb80dc39d9ec0b23bec68bc5c8b711ce32b96a", func := "toolchest/toolchestlaw05.KeysOrder", spec := "keysOrder", inPlace := ["internal/bytealg.IndexByteString", "internal/bytealg.IndexString"], unfollowed := true, recurses := true, named := ["unicode/utf8.first", "unicode/utf8.acceptRanges", "internal/bytealg.MaxLen"], apart := false, laid := [("unicode/utf8.acceptRanges", laid_unicode_utf8_acceptRanges), ("unicode/utf8.first", laid_unicode_utf8_first)], narrowed := true }
def KeysOrderUptoSaid : Prop := keysOrderUptoRow.holds Tryd.pinned (OpenSpec.upto keysOrderSpec)

/-- 'toolchestlaw05.KeysWhole', WHERE WHAT IT READS IS OF BULK AT MOST 1048576: true; the input reads as it did. -/
def keysWholeUptoRow : OpenClaim := { program := "ytbndinaiclkajaadoor", sum := "a4d4368f1421c98983b466bdd7cb80dc39d9ec0b23bec68bc5c8b711ce32b96a", func := "toolchest/toolchestlaw05.KeysWhole", spec := "keysWhole", inPlace := ["internal/bytealg.IndexByteString", "internal/bytealg.IndexString"], unfollowed := true, recurses := true, named := ["unicode/utf8.first", "unicode/utf8.acceptRanges", "internal/bytealg.MaxLen"], apart := false, laid := [("unicode/utf8.acceptRanges", laid_unicode_utf8_acceptRanges), ("unicode/utf8.first", laid_unicode_utf8_first)], narrowed := true }
def KeysWholeUptoSaid : Prop := keysWholeUptoRow.holds Tryd.pinned (OpenSpec.upto keysWholeSpec)

/-- 'toolchestlaw05.KeysParted', WHERE WHAT IT READS IS OF BULK AT MOST 1048576: true; the input reads as it did. -/
def keysPartedUptoRow : OpenClaim := { program := "ytbndinaiclkajaadoor", sum := "a4d4368f1421c98983b466bdd7cb80dc39d9ec0b23bec68bc5c8b711ce32b96a", func := "toolchest/toolchestlaw05.KeysParted", spec := "keysParted", inPlace := ["internal/bytealg.IndexByteString", "internal/bytealg.IndexString"], unfollowed := true, recurses := true, named := ["unicode/utf8.first", "unicode/utf8.acceptRanges", "internal/bytealg.MaxLen"], apart := false, laid := [("unicode/utf8.acceptRanges", laid_unicode_utf8_acceptRanges), ("unicode/utf8.first", laid_unicode_utf8_first)], narrowed := true }
def KeysPartedUptoSaid : Prop := keysPartedUptoRow.holds Tryd.pinned (OpenSpec.upto keysPartedSpec)

/-- 'toolchestlaw05.KeysFolds', WHERE WHAT IT READS IS OF BULK AT MOST 1048576: true; the input reads as it did. -/
def keysFoldsUptoRow : OpenClaim := { program := "ytbndinaiclkajaadoor", sum := "a4d4368f1421c98983b466bdd7cb80dc39d9ec0b23bec68bc5c8b711ce32b96a", func := "toolchest/toolchestlaw05.KeysFolds", spec := "keysFolds", inPlace := ["internal/bytealg.IndexByteString", "internal/bytealg.IndexString"], unfollowed := true, recurses := true, named := ["unicode/utf8.first", "unicode/utf8.acceptRanges", "internal/bytealg.MaxLen"], apart := false, laid := [("unicode/utf8.acceptRanges", laid_unicode_utf8_acceptRanges), ("unicode/utf8.first", laid_unicode_utf8_first)], narrowed := true }
def KeysFoldsUptoSaid : Prop := keysFoldsUptoRow.holds Tryd.pinned (OpenSpec.upto keysFoldsSpec)

/-- 'toolchestlaw05.KeysBegin', WHERE WHAT IT READS IS OF BULK AT MOST 1048576: true; the input reads as it did. -/
def keysBeginUptoRow : OpenClaim := { program := "ytbndinaiclkajaadoor", sum := "a4d4368f1421c98983b466bdd7cb80dc39d9ec0b23bec68bc5c8b711ce32b96a", func := "toolchest/toolchestlaw05.KeysBegin", spec := "keysBegin", inPlace := ["internal/bytealg.IndexByteString", "internal/bytealg.IndexString"], unfollowed := true, recurses := true, named := ["unicode/utf8.first", "unicode/utf8.acceptRanges", "internal/bytealg.MaxLen"], apart := false, laid := [("unicode/utf8.acceptRanges", laid_unicode_utf8_acceptRanges), ("unicode/utf8.first", laid_unicode_utf8_first)], narrowed := true }
def KeysBeginUptoSaid : Prop := keysBeginUptoRow.holds Tryd.pinned (OpenSpec.upto keysBeginSpec)

end Rows
end Go.Proofs.YtbndinaiclkajaaDoor

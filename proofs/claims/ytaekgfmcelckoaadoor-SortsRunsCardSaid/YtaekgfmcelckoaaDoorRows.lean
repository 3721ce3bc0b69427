/-
  NARROWER THAN 'FOR EVERY INPUT', by the rows' own cells (each row's printed sentence says how): SortsRuns: laid · SortsSame: laid · SortsTurned: laid · SortsUnique: laid · SortsRunsBack: laid · SortsMerged: laid · SortsComm: laid.
  DERIVED. THE GIVEN ROWS OF THIS SEAT. 7 by the template 'for every input the law returns true; each argument reads behind the call as it read before'; 0 by the template 'total and deterministic' (their statements: YtaekgfmcelckoaaDoorTotals.lean).
  GIVEN WITH THE SEED: the statements are not yours to turn. If you find one false, say at which input.
  Laid BY PROGRAM, IN A SANDBOX (cutbox-rows.mjs): the forced cells as the released guide's own fill.sh prints them over the translation 4482c102a5606086… (all of the seat's roots in one cut). By AI agents, Wed Nov 11 2026. No macro, syntax, notation, axiom, sorry.
-/
import Derived.Test.YtaekgfmcelckoaaDoorChecked
import GoSem.PinnedTables
import GoSem.Claim
import GoSem.ClaimJoined
import GoSem.ClaimMapViews
import Derived.JoinedTies
import Derived.KernelRfl
namespace Go.Proofs.YtaekgfmcelckoaaDoor
/- THE CELL 'sum', in the pinned program and in every row, IS THE sha256 OF THE DUMP (.gsa) THAT YtaekgfmcelckoaaDoorProg.lean LOADS. Nothing in Lean hashes anything: it is a label: what it is worth is what the hold of that sum in a sandbox is worth. -/
noncomputable def Tryd.pinned : Pinned := { name := "ytaekgfmcelckoaadoor", sum := "4482c102a5606086345e23b882e1c396be5adc43e56eb1d57438848d67b737ee", checked := Tryd.checked }
namespace Rows
def none {H : Type} : Left H := { results := [], args := [] }

/- WHAT THE LISTED PACKAGE-LEVEL VARIABLES READ AS WHEN THE CALL BEGINS. Each datum BY PROGRAM (the guide's laid-datum.mjs) off the statement by which the dump's own 'gosem.cut.vars' lays the variable. In a bare row this is a premise. The card (YtaekgfmcelckoaaDoorCards.lean) ties it to the program's text. -/
def laid_unicode_utf8_acceptRanges {H : Type} : DataW H := .agg [.agg [.lit (.int .u8 128), .lit (.int .u8 191)], .agg [.lit (.int .u8 160), .lit (.int .u8 191)], .agg [.lit (.int .u8 128), .lit (.int .u8 159)], .agg [.lit (.int .u8 144), .lit (.int .u8 191)], .agg [.lit (.int .u8 128), .lit (.int .u8 143)], .agg [.lit (.int .u8 0), .lit (.int .u8 0)], .agg [.lit (.int .u8 0), .lit (.int .u8 0)], .agg [.lit (.int .u8 0), .lit (.int .u8 0)], .agg [.lit (.int .u8 0), .lit (.int .u8 0)], .agg [.lit (.int .u8 0), .lit (.int .u8 0)], .agg [.lit (.int .u8 0), .lit (.int .u8 0)], .agg [.lit (.int .u8 0), .lit (.int .u8 0)], .agg [.lit (.int .u8 0), .lit (.int .u8 0)], .agg [.lit (.int .u8 0), .lit (.int .u8 0)], .agg [.lit (.int .u8 0), .lit (.int .u8 0)], .agg [.lit (.int .u8 0), .lit (.int .u8 0)]]
/-- One of Go's own tables, pinned by name: the form's constant. -/
def laid_unicode_utf8_first : DataW Unit := Go.Pinned.utf8First

/-- 'toolchestlaw06.SortsRuns': WHATEVER THE INPUT: true; the input reads as it did. -/
def sortsRunsSpec : ChangeSpec := { name := "sortsRuns", fn := fun _ => fun
  | [d1, d2, d3] => { results := [.lit (.bool true)], args := [d1, d2, d3] }
  | _ => none }
def sortsRunsRow : OpenClaim := { program := "ytaekgfmcelckoaadoor", sum := "4482c102a5606086345e23b882e1c396be5adc43e56eb1d57438848d67b737ee", func := "toolchest/toolchestlaw06.SortsRuns", spec := "sortsRuns", inPlace := ["internal/bytealg.IndexByteString", "internal/bytealg.IndexString"], unfollowed := true, recurses := true, named := ["unicode/utf8.first", "unicode/utf8.acceptRanges", "internal/bytealg.MaxLen"], apart := false, laid := [("unicode/utf8.acceptRanges", laid_unicode_utf8_acceptRanges), ("unicode/utf8.first", laid_unicode_utf8_first)] }
def SortsRunsSaid : Prop := sortsRunsRow.holds Tryd.pinned (OpenSpec.ofChange sortsRunsSpec)

/-- ITS FALSE NEIGHBOUR: 'it returns false'. Refute it at one input. -/
def sortsRunsWrong : ChangeSpec := { name := "sortsRuns", fn := fun _ => fun
  | [d1, d2, d3] => { results := [.lit (.bool false)], args := [d1, d2, d3] }
  | _ => none }
def SortsRunsWrongFalsely : Prop := sortsRunsRow.holds Tryd.pinned (OpenSpec.ofChange sortsRunsWrong)

/-- 'toolchestlaw06.SortsSame': WHATEVER THE INPUT: true; the input reads as it did. -/
def sortsSameSpec : ChangeSpec := { name := "sortsSame", fn := fun _ => fun
  | [d1, d2] => { results := [.lit (.bool true)], args := [d1, d2] }
  | _ => none }
def sortsSameRow : OpenClaim := { program := "ytaekgfmcelckoaadoor", sum := "4482c102a5606086345e23b882e1c396be5adc43e56eb1d57438848d67b737ee", func := "toolchest/toolchestlaw06.SortsSame", spec := "sortsSame", inPlace := ["internal/bytealg.IndexByteString", "internal/bytealg.IndexString"], unfollowed := true, recurses := true, named := ["unicode/utf8.first", "unicode/utf8.acceptRanges", "internal/bytealg.MaxLen"], apart := false, laid := [("unicode/utf8.acceptRanges", laid_unicode_utf8_acceptRanges), ("unicode/utf8.first", laid_unicode_utf8_first)] }
def SortsSameSaid : Prop := sortsSameRow.holds Tryd.pinned (OpenSpec.ofChange sortsSameSpec)

/-- ITS FALSE NEIGHBOUR: 'it returns false'. Refute it at one input. -/
def sortsSameWrong : ChangeSpec := { name := "sortsSame", fn := fun _ => fun
  | [d1, d2] => { results := [.lit (.bool false)], args := [d1, d2] }
  | _ => none }
def SortsSameWrongFalsely : Prop := sortsSameRow.holds Tryd.pinned (OpenSpec.ofChange sortsSameWrong)

/-- 'toolchestlaw06.SortsTurned': WHATEVER THE INPUT: true; the input reads as it did. -/
def sortsTurnedSpec : ChangeSpec := { name := "sortsTurned", fn := fun _ => fun
  | [d1, d2, d3] => { results := [.lit (.bool true)], args := [d1, d2, d3] }
  | _ => none }
def sortsTurnedRow : OpenClaim := { program := "ytaekgfmcelckoaadoor", sum := "4482c102a5606086345e23b882e1c396be5adc43e56eb1d57438848d67b737ee", func := "toolchest/toolchestlaw06.SortsTurned", spec := "sortsTurned", inPlace := ["internal/bytealg.IndexByteString", "internal/bytealg.IndexString"], unfollowed := true, recurses := true, named := ["unicode/utf8.first", "unicode/utf8.acceptRanges", "internal/bytealg.MaxLen"], apart := false, laid := [("unicode/utf8.acceptRanges", laid_unicode_utf8_acceptRanges), ("unicode/utf8.first", laid_unicode_utf8_first)] }
def SortsTurnedSaid : Prop := sortsTurnedRow.holds Tryd.pinned (OpenSpec.ofChange sortsTurnedSpec)

/-- ITS FALSE NEIGHBOUR: 'it returns false'. Refute it at one input. -/
def sortsTurnedWrong : ChangeSpec := { name := "sortsTurned", fn := fun _ => fun
  | [d1, d2, d3] => { results := [.lit (.bool false)], args := [d1, d2, d3] }
  | _ => none }
def SortsTurnedWrongFalsely : Prop := sortsTurnedRow.holds Tryd.pinned (OpenSpec.ofChange sortsTurnedWrong)

/-- 'toolchestlaw06.SortsUnique': WHATEVER THE INPUT: true; the input reads as it did. -/
def sortsUniqueSpec : ChangeSpec := { name := "sortsUnique", fn := fun _ => fun
  | [d1, d2] => { results := [.lit (.bool true)], args := [d1, d2] }
  | _ => none }
def sortsUniqueRow : OpenClaim := { program := "ytaekgfmcelckoaadoor", sum := "4482c102a5606086345e23b882e1c396be5adc43e56eb1d57438848d67b737ee", func := "toolchest/toolchestlaw06.SortsUnique", spec := "sortsUnique", inPlace := ["internal/bytealg.IndexByteString", "internal/bytealg.IndexString"], unfollowed := true, recurses := true, named := ["unicode/utf8.first", "unicode/utf8.acceptRanges", "internal/bytealg.MaxLen"], apart := false, laid := [("unicode/utf8.acceptRanges", laid_unicode_utf8_acceptRanges), ("unicode/utf8.first", laid_unicode_utf8_first)] }
def SortsUniqueSaid : Prop := sortsUniqueRow.holds Tryd.pinned (OpenSpec.ofChange sortsUniqueSpec)

/-- ITS FALSE NEIGHBOUR: 'it returns false'. Refute it at one input. -/
def sortsUniqueWrong : ChangeSpec := { name := "sortsUnique", fn := fun _ => fun
  | [d1, d2] => { results := [.lit (.bool false)], args := [d1, d2] }
  | _ => none }
def SortsUniqueWrongFalsely : Prop := sortsUniqueRow.holds Tryd.pinned (OpenSpec.ofChange sortsUniqueWrong)

/-- 'toolchestlaw06.SortsRunsBack': WHATEVER THE INPUT: true; the input reads as it did. -/
def sortsRunsBackSpec : ChangeSpec := { name := "sortsRunsBack", fn := fun _ => fun
  | [d1, d2, d3] => { results := [.lit (.bool true)], args := [d1, d2, d3] }
  | _ => none }
def sortsRunsBackRow : OpenClaim := { program := "ytaekgfmcelckoaadoor", sum := "4482c102a5606086345e23b882e1c396be5adc43e56eb1d57438848d67b737ee", func := "toolchest/toolchestlaw06.SortsRunsBack", spec := "sortsRunsBack", inPlace := ["internal/bytealg.IndexByteString", "internal/bytealg.IndexString"], unfollowed := true, recurses := true, named := ["unicode/utf8.first", "unicode/utf8.acceptRanges", "internal/bytealg.MaxLen"], apart := false, laid := [("unicode/utf8.acceptRanges", laid_unicode_utf8_acceptRanges), ("unicode/utf8.first", laid_unicode_utf8_first)] }
def SortsRunsBackSaid : Prop := sortsRunsBackRow.holds Tryd.pinned (OpenSpec.ofChange sortsRunsBackSpec)

/-- ITS FALSE NEIGHBOUR: 'it returns false'. Refute it at one input. -/
def sortsRunsBackWrong : ChangeSpec := { name := "sortsRunsBack", fn := fun _ => fun
  | [d1, d2, d3] => { results := [.lit (.bool false)], args := [d1, d2, d3] }
  | _ => none }
def SortsRunsBackWrongFalsely : Prop := sortsRunsBackRow.holds Tryd.pinned (OpenSpec.ofChange sortsRunsBackWrong)

/-- 'toolchestlaw06.SortsMerged': WHATEVER THE INPUT: true; the input reads as it did. -/
def sortsMergedSpec : ChangeSpec := { name := "sortsMerged", fn := fun _ => fun
  | [d1, d2, d3] => { results := [.lit (.bool true)], args := [d1, d2, d3] }
  | _ => none }
def sortsMergedRow : OpenClaim := { program := "ytaekgfmcelckoaadoor", sum := "4482c102a5606086345e23b882e1c396be5adc43e56eb1d57438848d67b737ee", func := "toolchest/toolchestlaw06.SortsMerged", spec := "sortsMerged", inPlace := ["internal/bytealg.IndexByteString", "internal/bytealg.IndexString"], unfollowed := true, recurses := true, named := ["unicode/utf8.first", "unicode/utf8.acceptRanges", "internal/bytealg.MaxLen"], apart := false, laid := [("unicode/utf8.acceptRanges", laid_unicode_utf8_acceptRanges), ("unicode/utf8.first", laid_unicode_utf8_first)] }
def SortsMergedSaid : Prop := sortsMergedRow.holds Tryd.pinned (OpenSpec.ofChange sortsMergedSpec)

/-- ITS FALSE NEIGHBOUR: 'it returns false'. Refute it at one input. -/
def sortsMergedWrong : ChangeSpec := { name := "sortsMerged", fn := fun _ => fun
  | [d1, d2, d3] => { results := [.lit (.bool false)], args := [d1, d2, d3] }
  | _ => none }
def SortsMergedWrongFalsely : Prop := sortsMergedRow.holds Tryd.pinned (OpenSpec.ofChange sortsMergedWrong)

/-- 'toolchestlaw06.SortsComm': WHATEVER THE INPUT: true; the input reads as it did. -/
def sortsCommSpec : ChangeSpec := { name := "sortsComm", fn := fun _ => fun
  | [d1, d2] => { results := [.lit (.bool true)], args := [d1, d2] }
  | _ => none }
def sortsCommRow : OpenClaim := { program := "ytaekgfmcelckoaadoor", sum := "4482c102a5606086345e23b882e1c396be5adc43e56eb1d57438848d67b737ee", func := "toolchest/toolchestlaw06.SortsComm", spec := "sortsComm", inPlace := ["internal/bytealg.IndexByteString", "internal/bytealg.IndexString"], unfollowed := true, recurses := true, named := ["unicode/utf8.first", "unicode/utf8.acceptRanges", "internal/bytealg.MaxLen"], apart := false, laid := [("unicode/utf8.acceptRanges", laid_unicode_utf8_acceptRanges), ("unicode/utf8.first", laid_unicode_utf8_first)] }
def SortsCommSaid : Prop := sortsCommRow.holds Tryd.pinned (OpenSpec.ofChange sortsCommSpec)

/-- ITS FALSE NEIGHBOUR: 'it returns false'. Refute it at one input. -/
def sortsCommWrong : ChangeSpec := { name := "sortsComm", fn := fun _ => fun
  | [d1, d2] => { results := [.lit (.bool false)], args := [d1, d2] }
  | _ => none }
def SortsCommWrongFalsely : Prop := sortsCommRow.holds Tryd.pinned (OpenSpec.ofChange sortsCommWrong)

/- THE SECOND FORM. 'bulk': how many values and letters a reading holds, each counted each time it is reached (what is shared counts as often as it is met; a slice's spare places count too). A statement '..UptoSaid' is the law's where the arguments, and the package variables that the reading takes, are together of bulk at most 1048576: NARROWER than '..Said'. Prove '..Said' where nothing that the law and all that it calls make is longer than what came in: it says more and counts as full. Else prove '..UptoSaid'. A law counts once. -/
mutual
def uptoBulk {H : Type} : DataW H → Nat
  | .lit (.string bytes) => bytes.length + 1
  | .lit _ => 1
  | .nil => 1
  | .ptr d => uptoBulk d + 1
  | .slice elems spare => uptoBulkAll elems + uptoBulkAll spare + 1
  | .agg parts => uptoBulkAll parts + 1
  | .iface _ d => uptoBulk d + 1
  | .map entries => uptoBulkEntries entries + 1
  | .held _ => 1
def uptoBulkAll {H : Type} : List (DataW H) → Nat
  | [] => 0
  | d :: r => uptoBulk d + uptoBulkAll r
def uptoBulkEntries {H : Type} : List (Lit × DataW H) → Nat
  | [] => 0
  | x :: r => uptoBulkEntry x + uptoBulkEntries r
def uptoBulkEntry {H : Type} : Lit × DataW H → Nat
  | (.string bytes, d) => bytes.length + uptoBulk d + 1
  | (_, d) => uptoBulk d + 1
 end
def uptoSmall : (H : Type) → List (DataW H) → Bool := fun _ ds => decide (uptoBulkAll ds ≤ 1048576)
def OpenSpec.upto (s : _root_.Go.ChangeSpec) : _root_.Go.OpenSpec := { _root_.Go.OpenSpec.ofChange s with cond := some uptoSmall }

/-- 'toolchestlaw06.SortsRuns', WHERE WHAT IT READS IS OF BULK AT MOST 1048576: true; the input reads as it did. -/
def sortsRunsUptoRow : OpenClaim := { program := "ytaekgfmcelckoaadoor", sum := "4482c102a5606086345e23b882e1c396be5adc43e56eb1d57438848d67b737ee", func := "toolchest/toolchestlaw06.SortsRuns", spec := "sortsRuns", inPlace := ["internal/bytealg.IndexByteString", "internal/bytealg.IndexString"], unfollowed := true, recurses := true, named := ["unicode/utf8.first", "unicode/utf8.acceptRanges", "internal/bytealg.MaxLen"], apart := false, laid := [("unicode/utf8.acceptRanges", laid_unicode_utf8_acceptRanges), ("unicode/utf8.first", laid_unicode_utf8_first)], narrowed := true }
def SortsRunsUptoSaid : Prop := sortsRunsUptoRow.holds Tryd.pinned (OpenSpec.upto sortsRunsSpec)

/-- 'toolchestlaw06.SortsSame', WHERE WHAT IT READS IS OF BULK AT MOST 1048576: true; the input reads as it did. -/
def sortsSameUptoRow : OpenClaim := { program := "ytaekgfmcelckoaadoor", sum := "4482c102a5606086345e23b882e1c396be5adc43e56eb1d57438848d67b737ee", func := "toolchest/toolchestlaw06.SortsSame", spec := "sortsSame", inPlace := ["internal/bytealg.IndexByteString", "internal/bytealg.IndexString"], unfollowed := true, recurses := true, named := ["unicode/utf8.first", "unicode/utf8.acceptRanges", "internal/bytealg.MaxLen"], apart := false, laid := [("unicode/utf8.acceptRanges", laid_unicode_utf8_acceptRanges), ("unicode/utf8.first", laid_unicode_utf8_first)], narrowed := true }
def SortsSameUptoSaid : Prop := sortsSameUptoRow.holds Tryd.pinned (OpenSpec.upto sortsSameSpec)

/-- 'toolchestlaw06.SortsTurned', WHERE WHAT IT READS IS OF BULK AT MOST 1048576: true; the input reads as it did. -/
def sortsTurnedUptoRow : OpenClaim := { program := "ytaekgfmcelckoaadoor", sum := "4482c102a5606086345e23b882e1c396be5adc43e56eb1d57438848d67b737ee", func := "toolchest/toolchestlaw06.SortsTurned", spec := "sortsTurned", inPlace := ["internal/bytealg.IndexByteString", "internal/bytealg.IndexString"], unfollowed := true, recurses := true, named := ["unicode/utf8.first", "unicode/utf8.acceptRanges", "internal/bytealg.MaxLen"], apart := false, laid := [("unicode/utf8.acceptRanges", laid_unicode_utf8_acceptRanges), ("unicode/utf8.first", laid_unicode_utf8_first)], narrowed := true }
def SortsTurnedUptoSaid : Prop := sortsTurnedUptoRow.holds Tryd.pinned (OpenSpec.upto sortsTurnedSpec)

/-- 'toolchestlaw06.SortsUnique', WHERE WHAT IT READS IS OF BULK AT MOST 1048576: true; the input reads as it did. -/
def sortsUniqueUptoRow : OpenClaim := { program := "ytaekgfmcelckoaadoor", sum := "4482c102a5606086345e23b882e1c396be5adc43e56eb1d57438848d67b737ee", func := "toolchest/toolchestlaw06.SortsUnique", spec := "sortsUnique", inPlace := ["internal/bytealg.IndexByteString", "internal/bytealg.IndexString"], unfollowed := true, recurses := true, named := ["unicode/utf8.first", "unicode/utf8.acceptRanges", "internal/bytealg.MaxLen"], apart := false, laid := [("unicode/utf8.acceptRanges", laid_unicode_utf8_acceptRanges), ("unicode/utf8.first", laid_unicode_utf8_first)], narrowed := true }
def SortsUniqueUptoSaid : Prop := sortsUniqueUptoRow.holds Tryd.pinned (OpenSpec.upto sortsUniqueSpec)

/-- 'toolchestlaw06.SortsRunsBack', WHERE WHAT IT READS IS OF BULK AT MOST 1048576: true; the input reads as it did. -/
def sortsRunsBackUptoRow : OpenClaim := { program := "ytaekgfmcelckoaadoor", sum := "4482c102a5606086345e23b882e1c396be5adc43e56eb1d57438848d67b737ee", func := "toolchest/toolchestlaw06.SortsRunsBack", spec := "sortsRunsBack", inPlace := ["internal/bytealg.IndexByteString", "internal/bytealg.IndexString"], unfollowed := true, recurses := true, named := ["unicode/utf8.first", "unicode/utf8.acceptRanges", "internal/bytealg.MaxLen"], apart := false, laid := [("unicode/utf8.acceptRanges", laid_unicode_utf8_acceptRanges), ("unicode/utf8.first", laid_unicode_utf8_first)], narrowed := true }
def SortsRunsBackUptoSaid : Prop := sortsRunsBackUptoRow.holds Tryd.pinned (OpenSpec.upto sortsRunsBackSpec)

/-- 'toolchestlaw06.SortsMerged', WHERE WHAT IT READS IS OF BULK AT MOST 1048576: true; the input reads as it did. -/
def sortsMergedUptoRow : OpenClaim := { program := "ytaekgfmcelckoaadoor", sum := "4482c102a5606086345e23b882e1c396be5adc43e56eb1d57438848d67b737ee", func := "toolchest/toolchestlaw06.SortsMerged", spec := "sortsMerged", inPlace := ["internal/bytealg.IndexByteString", "internal/bytealg.IndexString"], unfollowed := true, recurses := true, named := ["unicode/utf8.first", "unicode/utf8.acceptRanges", "internal/bytealg.MaxLen"], apart := false, laid := [("unicode/utf8.acceptRanges", laid_unicode_utf8_acceptRanges), ("unicode/utf8.first", laid_unicode_utf8_first)], narrowed := true }
def SortsMergedUptoSaid : Prop := sortsMergedUptoRow.holds Tryd.pinned (OpenSpec.upto sortsMergedSpec)

/-- 'toolchestlaw06.SortsComm', WHERE WHAT IT READS IS OF BULK AT MOST 1048576: true; the input reads as it did. -/
def sortsCommUptoRow : OpenClaim := { program := "ytaekgfmcelckoaadoor", sum := "4482c102a5606086345e23b882e1c396be5adc43e56eb1d57438848d67b737ee", func := "toolchest/toolchestlaw06.SortsComm", spec := "sortsComm", inPlace := ["internal/bytealg.IndexByteString", "internal/bytealg.IndexString"], unfollowed := true, recurses := true, named := ["unicode/utf8.first", "unicode/utf8.acceptRanges", "internal/bytealg.MaxLen"], apart := false, laid := [("unicode/utf8.acceptRanges", laid_unicode_utf8_acceptRanges), ("unicode/utf8.first", laid_unicode_utf8_first)], narrowed := true }
def SortsCommUptoSaid : Prop := sortsCommUptoRow.holds Tryd.pinned (OpenSpec.upto sortsCommSpec)

end Rows
end Go.Proofs.YtaekgfmcelckoaaDoor

/-
  No cell of these rows narrows 'for every input' (looked for: loops, veiled, ifaces, maps, wideKeys, modest, calm, conditions, laid).
  DERIVED. THE GIVEN ROWS OF THIS SEAT. 9 by the template 'for every input the law returns true; each argument reads behind the call as it read before'; 0 by the template 'total and deterministic' (their statements: YtgbhcanfjmefiaaTotals.lean).
  GIVEN WITH THE SEED: the statements are not yours to turn. If you find one false, say at which input.
  Laid BY PROGRAM, IN A SANDBOX (cutbox-rows.mjs): the forced cells as the released guide's own fill.sh prints them over the translation f678d7fd13e02f66… (all of the seat's roots in one cut). By AI agents, Wed Nov 11 2026. No macro, syntax, notation, axiom, sorry.
-/
import Derived.Test.YtgbhcanfjmefiaaChecked
import GoSem.Claim
import GoSem.ClaimJoined
import GoSem.ClaimMapViews
import Derived.JoinedTies
import Derived.KernelRfl
namespace Go.Proofs.Ytgbhcanfjmefiaa
/- THE CELL 'sum', in the pinned program and in every row, IS THE sha256 OF THE DUMP (.gsa) THAT YtgbhcanfjmefiaaProg.lean LOADS. Nothing in Lean hashes anything: it is a label: what it is worth is what the hold of that sum in a sandbox is worth. -/
noncomputable def Try.pinned : Pinned := { name := "ytgbhcanfjmefiaa", sum := "f678d7fd13e02f66abc9ec03f73ef01537c4787ecfbe93e86fcda11f4b416fef", checked := Try.checked }
namespace Rows
def none {H : Type} : Left H := { results := [], args := [] }

/-- 'toolchestlaw02.LinesJoins': WHATEVER THE INPUT: true; the input reads as it did. -/
def linesJoinsSpec : ChangeSpec := { name := "linesJoins", fn := fun _ => fun
  | [d] => { results := [.lit (.bool true)], args := [d] }
  | _ => none }
def linesJoinsRow : OpenClaim := { program := "ytgbhcanfjmefiaa", sum := "f678d7fd13e02f66abc9ec03f73ef01537c4787ecfbe93e86fcda11f4b416fef", func := "toolchest/toolchestlaw02.LinesJoins", spec := "linesJoins", inPlace := ["internal/abi.NoEscape"], apart := false }
def LinesJoinsSaid : Prop := linesJoinsRow.holds Try.pinned (OpenSpec.ofChange linesJoinsSpec)

/-- ITS FALSE NEIGHBOUR: 'it returns false'. Refute it at one input. -/
def linesJoinsWrong : ChangeSpec := { name := "linesJoins", fn := fun _ => fun
  | [d] => { results := [.lit (.bool false)], args := [d] }
  | _ => none }
def LinesJoinsWrongFalsely : Prop := linesJoinsRow.holds Try.pinned (OpenSpec.ofChange linesJoinsWrong)

/-- 'toolchestlaw02.LinesCuts': WHATEVER THE INPUT: true; the input reads as it did. -/
def linesCutsSpec : ChangeSpec := { name := "linesCuts", fn := fun _ => fun
  | [d1, d2] => { results := [.lit (.bool true)], args := [d1, d2] }
  | _ => none }
def linesCutsRow : OpenClaim := { program := "ytgbhcanfjmefiaa", sum := "f678d7fd13e02f66abc9ec03f73ef01537c4787ecfbe93e86fcda11f4b416fef", func := "toolchest/toolchestlaw02.LinesCuts", spec := "linesCuts", inPlace := ["internal/bytealg.IndexByteString"], unfollowed := true, recurses := true, apart := false }
def LinesCutsSaid : Prop := linesCutsRow.holds Try.pinned (OpenSpec.ofChange linesCutsSpec)

/-- ITS FALSE NEIGHBOUR: 'it returns false'. Refute it at one input. -/
def linesCutsWrong : ChangeSpec := { name := "linesCuts", fn := fun _ => fun
  | [d1, d2] => { results := [.lit (.bool false)], args := [d1, d2] }
  | _ => none }
def LinesCutsWrongFalsely : Prop := linesCutsRow.holds Try.pinned (OpenSpec.ofChange linesCutsWrong)

/-- 'toolchestlaw02.LinesCounts': WHATEVER THE INPUT: true; the input reads as it did. -/
def linesCountsSpec : ChangeSpec := { name := "linesCounts", fn := fun _ => fun
  | [d] => { results := [.lit (.bool true)], args := [d] }
  | _ => none }
def linesCountsRow : OpenClaim := { program := "ytgbhcanfjmefiaa", sum := "f678d7fd13e02f66abc9ec03f73ef01537c4787ecfbe93e86fcda11f4b416fef", func := "toolchest/toolchestlaw02.LinesCounts", spec := "linesCounts", inPlace := ["internal/bytealg.CountString", "internal/bytealg.IndexByteString", "internal/bytealg.IndexString"], unfollowed := true, recurses := true, named := ["internal/bytealg.MaxLen"], apart := false }
def LinesCountsSaid : Prop := linesCountsRow.holds Try.pinned (OpenSpec.ofChange linesCountsSpec)

/-- ITS FALSE NEIGHBOUR: 'it returns false'. Refute it at one input. -/
def linesCountsWrong : ChangeSpec := { name := "linesCounts", fn := fun _ => fun
  | [d] => { results := [.lit (.bool false)], args := [d] }
  | _ => none }
def LinesCountsWrongFalsely : Prop := linesCountsRow.holds Try.pinned (OpenSpec.ofChange linesCountsWrong)

/-- 'toolchestlaw02.LinesFields': WHATEVER THE INPUT: true; the input reads as it did. -/
def linesFieldsSpec : ChangeSpec := { name := "linesFields", fn := fun _ => fun
  | [d1, d2] => { results := [.lit (.bool true)], args := [d1, d2] }
  | _ => none }
def linesFieldsRow : OpenClaim := { program := "ytgbhcanfjmefiaa", sum := "f678d7fd13e02f66abc9ec03f73ef01537c4787ecfbe93e86fcda11f4b416fef", func := "toolchest/toolchestlaw02.LinesFields", spec := "linesFields", inPlace := ["internal/bytealg.CountString", "internal/bytealg.IndexByteString", "internal/bytealg.IndexString"], unfollowed := true, recurses := true, named := ["internal/bytealg.MaxLen"], apart := false }
def LinesFieldsSaid : Prop := linesFieldsRow.holds Try.pinned (OpenSpec.ofChange linesFieldsSpec)

/-- ITS FALSE NEIGHBOUR: 'it returns false'. Refute it at one input. -/
def linesFieldsWrong : ChangeSpec := { name := "linesFields", fn := fun _ => fun
  | [d1, d2] => { results := [.lit (.bool false)], args := [d1, d2] }
  | _ => none }
def LinesFieldsWrongFalsely : Prop := linesFieldsRow.holds Try.pinned (OpenSpec.ofChange linesFieldsWrong)

/-- 'toolchestlaw02.LinesAdds': WHATEVER THE INPUT: true; the input reads as it did. -/
def linesAddsSpec : ChangeSpec := { name := "linesAdds", fn := fun _ => fun
  | [d1, d2] => { results := [.lit (.bool true)], args := [d1, d2] }
  | _ => none }
def linesAddsRow : OpenClaim := { program := "ytgbhcanfjmefiaa", sum := "f678d7fd13e02f66abc9ec03f73ef01537c4787ecfbe93e86fcda11f4b416fef", func := "toolchest/toolchestlaw02.LinesAdds", spec := "linesAdds", inPlace := ["internal/bytealg.CountString", "internal/bytealg.IndexByteString", "internal/bytealg.IndexString"], unfollowed := true, recurses := true, named := ["internal/bytealg.MaxLen"], apart := false }
def LinesAddsSaid : Prop := linesAddsRow.holds Try.pinned (OpenSpec.ofChange linesAddsSpec)

/-- ITS FALSE NEIGHBOUR: 'it returns false'. Refute it at one input. -/
def linesAddsWrong : ChangeSpec := { name := "linesAdds", fn := fun _ => fun
  | [d1, d2] => { results := [.lit (.bool false)], args := [d1, d2] }
  | _ => none }
def LinesAddsWrongFalsely : Prop := linesAddsRow.holds Try.pinned (OpenSpec.ofChange linesAddsWrong)

/-- 'toolchestlaw02.LinesWords': WHATEVER THE INPUT: true; the input reads as it did. -/
def linesWordsSpec : ChangeSpec := { name := "linesWords", fn := fun _ => fun
  | [d] => { results := [.lit (.bool true)], args := [d] }
  | _ => none }
def linesWordsRow : OpenClaim := { program := "ytgbhcanfjmefiaa", sum := "f678d7fd13e02f66abc9ec03f73ef01537c4787ecfbe93e86fcda11f4b416fef", func := "toolchest/toolchestlaw02.LinesWords", spec := "linesWords", inPlace := ["internal/bytealg.CountString", "internal/bytealg.IndexByteString", "internal/bytealg.IndexString"], unfollowed := true, recurses := true, named := ["internal/bytealg.MaxLen"], apart := false }
def LinesWordsSaid : Prop := linesWordsRow.holds Try.pinned (OpenSpec.ofChange linesWordsSpec)

/-- ITS FALSE NEIGHBOUR: 'it returns false'. Refute it at one input. -/
def linesWordsWrong : ChangeSpec := { name := "linesWords", fn := fun _ => fun
  | [d] => { results := [.lit (.bool false)], args := [d] }
  | _ => none }
def LinesWordsWrongFalsely : Prop := linesWordsRow.holds Try.pinned (OpenSpec.ofChange linesWordsWrong)

/-- 'toolchestlaw02.LinesHalves': WHATEVER THE INPUT: true; the input reads as it did. -/
def linesHalvesSpec : ChangeSpec := { name := "linesHalves", fn := fun _ => fun
  | [d1, d2] => { results := [.lit (.bool true)], args := [d1, d2] }
  | _ => none }
def linesHalvesRow : OpenClaim := { program := "ytgbhcanfjmefiaa", sum := "f678d7fd13e02f66abc9ec03f73ef01537c4787ecfbe93e86fcda11f4b416fef", func := "toolchest/toolchestlaw02.LinesHalves", spec := "linesHalves", inPlace := ["internal/bytealg.CountString", "internal/bytealg.IndexByteString", "internal/bytealg.IndexString"], unfollowed := true, recurses := true, named := ["internal/bytealg.MaxLen"], apart := false }
def LinesHalvesSaid : Prop := linesHalvesRow.holds Try.pinned (OpenSpec.ofChange linesHalvesSpec)

/-- ITS FALSE NEIGHBOUR: 'it returns false'. Refute it at one input. -/
def linesHalvesWrong : ChangeSpec := { name := "linesHalves", fn := fun _ => fun
  | [d1, d2] => { results := [.lit (.bool false)], args := [d1, d2] }
  | _ => none }
def LinesHalvesWrongFalsely : Prop := linesHalvesRow.holds Try.pinned (OpenSpec.ofChange linesHalvesWrong)

/-- 'toolchestlaw02.LinesBack': WHATEVER THE INPUT: true; the input reads as it did. -/
def linesBackSpec : ChangeSpec := { name := "linesBack", fn := fun _ => fun
  | [d] => { results := [.lit (.bool true)], args := [d] }
  | _ => none }
def linesBackRow : OpenClaim := { program := "ytgbhcanfjmefiaa", sum := "f678d7fd13e02f66abc9ec03f73ef01537c4787ecfbe93e86fcda11f4b416fef", func := "toolchest/toolchestlaw02.LinesBack", spec := "linesBack", inPlace := ["internal/bytealg.CountString", "internal/bytealg.IndexByteString", "internal/bytealg.IndexString", "internal/abi.NoEscape"], unfollowed := true, recurses := true, named := ["internal/bytealg.MaxLen"], apart := false }
def LinesBackSaid : Prop := linesBackRow.holds Try.pinned (OpenSpec.ofChange linesBackSpec)

/-- ITS FALSE NEIGHBOUR: 'it returns false'. Refute it at one input. -/
def linesBackWrong : ChangeSpec := { name := "linesBack", fn := fun _ => fun
  | [d] => { results := [.lit (.bool false)], args := [d] }
  | _ => none }
def LinesBackWrongFalsely : Prop := linesBackRow.holds Try.pinned (OpenSpec.ofChange linesBackWrong)

/-- 'toolchestlaw02.LinesTexts': WHATEVER THE INPUT: true; the input reads as it did. -/
def linesTextsSpec : ChangeSpec := { name := "linesTexts", fn := fun _ => fun
  | [d] => { results := [.lit (.bool true)], args := [d] }
  | _ => none }
def linesTextsRow : OpenClaim := { program := "ytgbhcanfjmefiaa", sum := "f678d7fd13e02f66abc9ec03f73ef01537c4787ecfbe93e86fcda11f4b416fef", func := "toolchest/toolchestlaw02.LinesTexts", spec := "linesTexts", inPlace := ["internal/bytealg.CountString", "internal/bytealg.IndexByteString", "internal/bytealg.IndexString", "internal/abi.NoEscape"], unfollowed := true, recurses := true, named := ["internal/bytealg.MaxLen"], apart := false }
def LinesTextsSaid : Prop := linesTextsRow.holds Try.pinned (OpenSpec.ofChange linesTextsSpec)

/-- ITS FALSE NEIGHBOUR: 'it returns false'. Refute it at one input. -/
def linesTextsWrong : ChangeSpec := { name := "linesTexts", fn := fun _ => fun
  | [d] => { results := [.lit (.bool false)], args := [d] }
  | _ => none }
def LinesTextsWrongFalsely : Prop := linesTextsRow.holds Try.pinned (OpenSpec.ofChange linesTextsWrong)

/- THE SECOND FORM. 'bulk': how many values and letters a reading holds, each counted each time it is reached (what is shared counts as often as it is met; a slice's spare places count too). A statement '..UptoSaid' is the law's where the arguments, and the package variables that the reading takes, are together of bulk at most 1048576: NARROWER than '..Said'. Prove '..Said' where nothing that the law and all that it calls make is longer than what came in: it says more and counts as full. Else prove '..UptoSaid'. A law counts once. -/
mutual
def uptoBulk {H : Type} : DataW H → Nat
  | .lit (.string bytes) => bytes.length + 1
  | .lit _ => 1
  | .nil => 1
  | .ptr d => uptoBulk d + 1
  | .slice elems spare => uptoBulkAll elems + uptoBulkAll spare + 1
  | .agg parts => uptoBulkAll parts + 1
  | .iface _ d => uptoBulk d + 1
  | .map entries => uptoBulkEntries entries + 1
  | .held _ => 1
def uptoBulkAll {H : Type} : List (DataW H) → Nat
  | [] => 0
  | d :: r => uptoBulk d + uptoBulkAll r
def uptoBulkEntries {H : Type} : List (Lit × DataW H) → Nat
  | [] => 0
  | x :: r => uptoBulkEntry x + uptoBulkEntries r
def uptoBulkEntry {H : Type} : Lit × DataW H → Nat
  | (.string bytes, d) => bytes.length + uptoBulk d + 1
  | (_, d) => uptoBulk d + 1
 end
def uptoSmall : (H : Type) → List (DataW H) → Bool := fun _ ds => decide (uptoBulkAll ds ≤ 1048576)
def OpenSpec.upto (s : _root_.Go.ChangeSpec) : _root_.Go.OpenSpec := { _root_.Go.OpenSpec.ofChange s with cond := some uptoSmall }

/-- 'toolchestlaw02.LinesJoins', WHERE WHAT IT READS IS OF BULK AT MOST 1048576: true; the input reads as it did. -/
def linesJoinsUptoRow : OpenClaim := { program := "ytgbhcanfjmefiaa", sum := "f678d7fd13e02f66abc9ec03f73ef01537c4787ecfbe93e86fcda11f4b416fef", func := "toolchest/toolchestlaw02.LinesJoins", spec := "linesJoins", inPlace := ["internal/abi.NoEscape"], apart := false, narrowed := true }
def LinesJoinsUptoSaid : Prop := linesJoinsUptoRow.holds Try.pinned (OpenSpec.upto linesJoinsSpec)

/-- 'toolchestlaw02.LinesCuts', WHERE WHAT IT READS IS OF BULK AT MOST 1048576: true; the input reads as it did. -/
def linesCutsUptoRow : OpenClaim := { program := "ytgbhcanfjmefiaa", sum := "f678d7fd13e02f66abc9ec03f73ef01537c4787ecfbe93e86fcda11f4b416fef", func := "toolchest/toolchestlaw02.LinesCuts", spec := "linesCuts", inPlace := ["internal/bytealg.IndexByteString"], unfollowed := true, recurses := true, apart := false, narrowed := true }
def LinesCutsUptoSaid : Prop := linesCutsUptoRow.holds Try.pinned (OpenSpec.upto linesCutsSpec)

/-- 'toolchestlaw02.LinesCounts', WHERE WHAT IT READS IS OF BULK AT MOST 1048576: true; the input reads as it did. -/
def linesCountsUptoRow : OpenClaim := { program := "ytgbhcanfjmefiaa", sum := "f678d7fd13e02f66abc9ec03f73ef01537c4787ecfbe93e86fcda11f4b416fef", func := "toolchest/toolchestlaw02.LinesCounts", spec := "linesCounts", inPlace := ["internal/bytealg.CountString", "internal/bytealg.IndexByteString", "internal/bytealg.IndexString"], unfollowed := true, recurses := true, named := ["internal/bytealg.MaxLen"], apart := false, narrowed := true }
def LinesCountsUptoSaid : Prop := linesCountsUptoRow.holds Try.pinned (OpenSpec.upto linesCountsSpec)

/-- 'toolchestlaw02.LinesFields', WHERE WHAT IT READS IS OF BULK AT MOST 1048576: true; the input reads as it did. -/
def linesFieldsUptoRow : OpenClaim := { program := "ytgbhcanfjmefiaa", sum := "f678d7fd13e02f66abc9ec03f73ef01537c4787ecfbe93e86fcda11f4b416fef", func := "toolchest/toolchestlaw02.LinesFields", spec := "linesFields", inPlace := ["internal/bytealg.CountString", "internal/bytealg.IndexByteString", "internal/bytealg.IndexString"], unfollowed := true, recurses := true, named := ["internal/bytealg.MaxLen"], apart := false, narrowed := true }
def LinesFieldsUptoSaid : Prop := linesFieldsUptoRow.holds Try.pinned (OpenSpec.upto linesFieldsSpec)

/-- 'toolchestlaw02.LinesAdds', WHERE WHAT IT READS IS OF BULK AT MOST 1048576: true; the input reads as it did. -/
def linesAddsUptoRow : OpenClaim := { program := "ytgbhcanfjmefiaa", sum := "f678d7fd13e02f66abc9ec03f73ef01537c4787ecfbe93e86fcda11f4b416fef", func := "toolchest/toolchestlaw02.LinesAdds", spec := "linesAdds", inPlace := ["internal/bytealg.CountString", "internal/bytealg.IndexByteString", "internal/bytealg.IndexString"], unfollowed := true, recurses := true, named := ["internal/bytealg.MaxLen"], apart := false, narrowed := true }
def LinesAddsUptoSaid : Prop := linesAddsUptoRow.holds Try.pinned (OpenSpec.upto linesAddsSpec)

/-- 'toolchestlaw02.LinesWords', WHERE WHAT IT READS IS OF BULK AT MOST 1048576: true; the input reads as it did. -/
def linesWordsUptoRow : OpenClaim := { program := "ytgbhcanfjmefiaa", sum := "f678d7fd13e02f66abc9ec03f73ef01537c4787ecfbe93e86fcda11f4b416fef", func := "toolchest/toolchestlaw02.LinesWords", spec := "linesWords", inPlace := ["internal/bytealg.CountString", "internal/bytealg.IndexByteString", "internal/bytealg.IndexString"], unfollowed := true, recurses := true, named := ["internal/bytealg.MaxLen"], apart := false, narrowed := true }
def LinesWordsUptoSaid : Prop := linesWordsUptoRow.holds Try.pinned (OpenSpec.upto linesWordsSpec)

/-- 'toolchestlaw02.LinesHalves', WHERE WHAT IT READS IS OF BULK AT MOST 1048576: true; the input reads as it did. -/
def linesHalvesUptoRow : OpenClaim := { program := "ytgbhcanfjmefiaa", sum := "f678d7fd13e02f66abc9ec03f73ef01537c4787ecfbe93e86fcda11f4b416fef", func := "toolchest/toolchestlaw02.LinesHalves", spec := "linesHalves", inPlace := ["internal/bytealg.CountString", "internal/bytealg.IndexByteString", "internal/bytealg.IndexString"], unfollowed := true, recurses := true, named := ["internal/bytealg.MaxLen"], apart := false, narrowed := true }
def LinesHalvesUptoSaid : Prop := linesHalvesUptoRow.holds Try.pinned (OpenSpec.upto linesHalvesSpec)

/-- 'toolchestlaw02.LinesBack', WHERE WHAT IT READS IS OF BULK AT MOST 1048576: true; the input reads as it did. -/
def linesBackUptoRow : OpenClaim := { program := "ytgbhcanfjmefiaa", sum := "f678d7fd13e02f66abc9ec03f73ef01537c4787ecfbe93e86fcda11f4b416fef", func := "toolchest/toolchestlaw02.LinesBack", spec := "linesBack", inPlace := ["internal/bytealg.CountString", "internal/bytealg.IndexByteString", "internal/bytealg.IndexString", "internal/abi.NoEscape"], unfollowed := true, recurses := true, named := ["internal/bytealg.MaxLen"], apart := false, narrowed := true }
def LinesBackUptoSaid : Prop := linesBackUptoRow.holds Try.pinned (OpenSpec.upto linesBackSpec)

/-- 'toolchestlaw02.LinesTexts', WHERE WHAT IT READS IS OF BULK AT MOST 1048576: true; the input reads as it did. -/
def linesTextsUptoRow : OpenClaim := { program := "ytgbhcanfjmefiaa", sum := "f678d7fd13e02f66abc9ec03f73ef01537c4787ecfbe93e86fcda11f4b416fef", func := "toolchest/toolchestlaw02.LinesTexts", spec := "linesTexts", inPlace := ["internal/bytealg.CountString", "internal/bytealg.IndexByteString", "internal/bytealg.IndexString", "internal/abi.NoEscape"], unfollowed := true, recurses := true, named := ["internal/bytealg.MaxLen"], apart := false, narrowed := true }
def LinesTextsUptoSaid : Prop := linesTextsUptoRow.holds Try.pinned (OpenSpec.upto linesTextsSpec)

end Rows
end Go.Proofs.Ytgbhcanfjmefiaa

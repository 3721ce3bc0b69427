/-
  NARROWER THAN 'FOR EVERY INPUT', by the rows' own cells (each row's printed sentence says how): ViewsPastes: laid · ViewsSums: laid · ViewsAlone: laid · ViewsTurns: laid · ViewsKeys: laid · ViewsRest: laid · ViewsSumOne: laid · ViewsDumped: laid · ViewsSame: laid.
  DERIVED. THE GIVEN ROWS OF THIS SEAT. 9 by the template 'for every input the law returns true; each argument reads behind the call as it read before'; 0 by the template 'total and deterministic' (their statements: YthkaekeelokajaaDoorTotals.lean).
  GIVEN WITH THE SEED: the statements are not yours to turn. If you find one false, say at which input.
  Laid BY PROGRAM, IN A SANDBOX (cutbox-rows.mjs): the forced cells as the released guide's own fill.sh prints them over the translation 32e72c381977a9cd… (all of the seat's roots in one cut). By AI agents, Wed Nov 11 2026. No macro, syntax, notation, axiom, sorry.
-/
import Derived.Test.YthkaekeelokajaaDoorChecked
import GoSem.Claim
import GoSem.ClaimJoined
import GoSem.ClaimMapViews
import Derived.JoinedTies
import Derived.KernelRfl
namespace Go.Proofs.YthkaekeelokajaaDoor
/- THE CELL 'sum', in the pinned program and in every row, IS THE sha256 OF THE DUMP (.gsa) THAT YthkaekeelokajaaDoorProg.lean LOADS. Nothing in Lean hashes anything: it is a label: what it is worth is what the hold of that sum in a sandbox is worth. -/
noncomputable def Tryd.pinned : Pinned := { name := "ythkaekeelokajaadoor", sum := "32e72c381977a9cdbbf0eaa7d9b505e412cdf7db477e460f55ee7febdce98ea1", checked := Tryd.checked }
namespace Rows
def none {H : Type} : Left H := { results := [], args := [] }

/- WHAT THE LISTED PACKAGE-LEVEL VARIABLES READ AS WHEN THE CALL BEGINS. Each datum BY PROGRAM (the guide's laid-datum.mjs) off the statement by which the dump's own 'gosem.cut.vars' lays the variable. In a bare row this is a premise. The card (YthkaekeelokajaaDoorCards.lean) ties it to the program's text. -/
def laid_math_bits_deBruijn32tab {H : Type} : DataW H := .agg [.lit (.int .u8 0), .lit (.int .u8 1), .lit (.int .u8 28), .lit (.int .u8 2), .lit (.int .u8 29), .lit (.int .u8 14), .lit (.int .u8 24), .lit (.int .u8 3), .lit (.int .u8 30), .lit (.int .u8 22), .lit (.int .u8 20), .lit (.int .u8 15), .lit (.int .u8 25), .lit (.int .u8 17), .lit (.int .u8 4), .lit (.int .u8 8), .lit (.int .u8 31), .lit (.int .u8 27), .lit (.int .u8 13), .lit (.int .u8 23), .lit (.int .u8 21), .lit (.int .u8 19), .lit (.int .u8 16), .lit (.int .u8 7), .lit (.int .u8 26), .lit (.int .u8 12), .lit (.int .u8 18), .lit (.int .u8 6), .lit (.int .u8 11), .lit (.int .u8 5), .lit (.int .u8 10), .lit (.int .u8 9)]
def laid_math_bits_deBruijn64tab {H : Type} : DataW H := .agg [.lit (.int .u8 0), .lit (.int .u8 1), .lit (.int .u8 56), .lit (.int .u8 2), .lit (.int .u8 57), .lit (.int .u8 49), .lit (.int .u8 28), .lit (.int .u8 3), .lit (.int .u8 61), .lit (.int .u8 58), .lit (.int .u8 42), .lit (.int .u8 50), .lit (.int .u8 38), .lit (.int .u8 29), .lit (.int .u8 17), .lit (.int .u8 4), .lit (.int .u8 62), .lit (.int .u8 47), .lit (.int .u8 59), .lit (.int .u8 36), .lit (.int .u8 45), .lit (.int .u8 43), .lit (.int .u8 51), .lit (.int .u8 22), .lit (.int .u8 53), .lit (.int .u8 39), .lit (.int .u8 33), .lit (.int .u8 30), .lit (.int .u8 24), .lit (.int .u8 18), .lit (.int .u8 12), .lit (.int .u8 5), .lit (.int .u8 63), .lit (.int .u8 55), .lit (.int .u8 48), .lit (.int .u8 27), .lit (.int .u8 60), .lit (.int .u8 41), .lit (.int .u8 37), .lit (.int .u8 16), .lit (.int .u8 46), .lit (.int .u8 35), .lit (.int .u8 44), .lit (.int .u8 21), .lit (.int .u8 52), .lit (.int .u8 32), .lit (.int .u8 23), .lit (.int .u8 11), .lit (.int .u8 54), .lit (.int .u8 26), .lit (.int .u8 40), .lit (.int .u8 15), .lit (.int .u8 34), .lit (.int .u8 20), .lit (.int .u8 31), .lit (.int .u8 10), .lit (.int .u8 25), .lit (.int .u8 14), .lit (.int .u8 19), .lit (.int .u8 9), .lit (.int .u8 13), .lit (.int .u8 8), .lit (.int .u8 7), .lit (.int .u8 6)]
def laid_internal_strconv_uint64pow10 {H : Type} : DataW H := .agg [.lit (.int .u64 1), .lit (.int .u64 10), .lit (.int .u64 100), .lit (.int .u64 1000), .lit (.int .u64 10000), .lit (.int .u64 100000), .lit (.int .u64 1000000), .lit (.int .u64 10000000), .lit (.int .u64 100000000), .lit (.int .u64 1000000000), .lit (.int .u64 10000000000), .lit (.int .u64 100000000000), .lit (.int .u64 1000000000000), .lit (.int .u64 10000000000000), .lit (.int .u64 100000000000000), .lit (.int .u64 1000000000000000), .lit (.int .u64 10000000000000000), .lit (.int .u64 100000000000000000), .lit (.int .u64 1000000000000000000), .lit (.int .u64 10000000000000000000)]

/-- 'toolchestlaw08.ViewsPastes': WHATEVER THE INPUT: true; the input reads as it did. -/
def viewsPastesSpec : ChangeSpec := { name := "viewsPastes", fn := fun _ => fun
  | [d1, d2] => { results := [.lit (.bool true)], args := [d1, d2] }
  | _ => none }
def viewsPastesRow : OpenClaim := { program := "ythkaekeelokajaadoor", sum := "32e72c381977a9cdbbf0eaa7d9b505e412cdf7db477e460f55ee7febdce98ea1", func := "toolchest/toolchestlaw08.ViewsPastes", spec := "viewsPastes", inPlace := ["internal/abi.NoEscape"], named := ["internal/strconv.uint64pow10", "math/bits.deBruijn32tab", "math/bits.deBruijn64tab"], apart := false, laid := [("math/bits.deBruijn32tab", laid_math_bits_deBruijn32tab), ("math/bits.deBruijn64tab", laid_math_bits_deBruijn64tab), ("internal/strconv.uint64pow10", laid_internal_strconv_uint64pow10)] }
def ViewsPastesSaid : Prop := viewsPastesRow.holds Tryd.pinned (OpenSpec.ofChange viewsPastesSpec)

/-- ITS FALSE NEIGHBOUR: 'it returns false'. Refute it at one input. -/
def viewsPastesWrong : ChangeSpec := { name := "viewsPastes", fn := fun _ => fun
  | [d1, d2] => { results := [.lit (.bool false)], args := [d1, d2] }
  | _ => none }
def ViewsPastesWrongFalsely : Prop := viewsPastesRow.holds Tryd.pinned (OpenSpec.ofChange viewsPastesWrong)

/-- 'toolchestlaw08.ViewsSums': WHATEVER THE INPUT: true; the input reads as it did. -/
def viewsSumsSpec : ChangeSpec := { name := "viewsSums", fn := fun _ => fun
  | [d] => { results := [.lit (.bool true)], args := [d] }
  | _ => none }
def viewsSumsRow : OpenClaim := { program := "ythkaekeelokajaadoor", sum := "32e72c381977a9cdbbf0eaa7d9b505e412cdf7db477e460f55ee7febdce98ea1", func := "toolchest/toolchestlaw08.ViewsSums", spec := "viewsSums", inPlace := ["internal/abi.NoEscape", "internal/bytealg.MakeNoZero"], unfollowed := true, recurses := true, named := ["internal/strconv.uint64pow10", "math/bits.deBruijn32tab", "math/bits.deBruijn64tab"], apart := false, laid := [("math/bits.deBruijn32tab", laid_math_bits_deBruijn32tab), ("math/bits.deBruijn64tab", laid_math_bits_deBruijn64tab), ("internal/strconv.uint64pow10", laid_internal_strconv_uint64pow10)] }
def ViewsSumsSaid : Prop := viewsSumsRow.holds Tryd.pinned (OpenSpec.ofChange viewsSumsSpec)

/-- ITS FALSE NEIGHBOUR: 'it returns false'. Refute it at one input. -/
def viewsSumsWrong : ChangeSpec := { name := "viewsSums", fn := fun _ => fun
  | [d] => { results := [.lit (.bool false)], args := [d] }
  | _ => none }
def ViewsSumsWrongFalsely : Prop := viewsSumsRow.holds Tryd.pinned (OpenSpec.ofChange viewsSumsWrong)

/-- 'toolchestlaw08.ViewsAlone': WHATEVER THE INPUT: true; the input reads as it did. -/
def viewsAloneSpec : ChangeSpec := { name := "viewsAlone", fn := fun _ => fun
  | [d1, d2, d3] => { results := [.lit (.bool true)], args := [d1, d2, d3] }
  | _ => none }
def viewsAloneRow : OpenClaim := { program := "ythkaekeelokajaadoor", sum := "32e72c381977a9cdbbf0eaa7d9b505e412cdf7db477e460f55ee7febdce98ea1", func := "toolchest/toolchestlaw08.ViewsAlone", spec := "viewsAlone", inPlace := ["internal/bytealg.CountString", "internal/bytealg.IndexByteString", "internal/bytealg.IndexString", "internal/abi.NoEscape", "internal/bytealg.abigen_runtime_cmpstring", "internal/bytealg.MakeNoZero"], unfollowed := true, recurses := true, named := ["internal/bytealg.MaxLen", "internal/strconv.uint64pow10", "math/bits.deBruijn32tab", "math/bits.deBruijn64tab"], apart := false, laid := [("math/bits.deBruijn32tab", laid_math_bits_deBruijn32tab), ("math/bits.deBruijn64tab", laid_math_bits_deBruijn64tab), ("internal/strconv.uint64pow10", laid_internal_strconv_uint64pow10)] }
def ViewsAloneSaid : Prop := viewsAloneRow.holds Tryd.pinned (OpenSpec.ofChange viewsAloneSpec)

/-- ITS FALSE NEIGHBOUR: 'it returns false'. Refute it at one input. -/
def viewsAloneWrong : ChangeSpec := { name := "viewsAlone", fn := fun _ => fun
  | [d1, d2, d3] => { results := [.lit (.bool false)], args := [d1, d2, d3] }
  | _ => none }
def ViewsAloneWrongFalsely : Prop := viewsAloneRow.holds Tryd.pinned (OpenSpec.ofChange viewsAloneWrong)

/-- 'toolchestlaw08.ViewsTurns': WHATEVER THE INPUT: true; the input reads as it did. -/
def viewsTurnsSpec : ChangeSpec := { name := "viewsTurns", fn := fun _ => fun
  | [d1, d2] => { results := [.lit (.bool true)], args := [d1, d2] }
  | _ => none }
def viewsTurnsRow : OpenClaim := { program := "ythkaekeelokajaadoor", sum := "32e72c381977a9cdbbf0eaa7d9b505e412cdf7db477e460f55ee7febdce98ea1", func := "toolchest/toolchestlaw08.ViewsTurns", spec := "viewsTurns", inPlace := ["internal/bytealg.CountString", "internal/bytealg.IndexByteString", "internal/bytealg.IndexString", "internal/abi.NoEscape", "internal/bytealg.abigen_runtime_cmpstring", "internal/bytealg.MakeNoZero"], unfollowed := true, recurses := true, named := ["internal/bytealg.MaxLen", "internal/strconv.uint64pow10", "math/bits.deBruijn32tab", "math/bits.deBruijn64tab"], apart := false, laid := [("math/bits.deBruijn32tab", laid_math_bits_deBruijn32tab), ("math/bits.deBruijn64tab", laid_math_bits_deBruijn64tab), ("internal/strconv.uint64pow10", laid_internal_strconv_uint64pow10)] }
def ViewsTurnsSaid : Prop := viewsTurnsRow.holds Tryd.pinned (OpenSpec.ofChange viewsTurnsSpec)

/-- ITS FALSE NEIGHBOUR: 'it returns false'. Refute it at one input. -/
def viewsTurnsWrong : ChangeSpec := { name := "viewsTurns", fn := fun _ => fun
  | [d1, d2] => { results := [.lit (.bool false)], args := [d1, d2] }
  | _ => none }
def ViewsTurnsWrongFalsely : Prop := viewsTurnsRow.holds Tryd.pinned (OpenSpec.ofChange viewsTurnsWrong)

/-- 'toolchestlaw08.ViewsKeys': WHATEVER THE INPUT: true; the input reads as it did. -/
def viewsKeysSpec : ChangeSpec := { name := "viewsKeys", fn := fun _ => fun
  | [d] => { results := [.lit (.bool true)], args := [d] }
  | _ => none }
def viewsKeysRow : OpenClaim := { program := "ythkaekeelokajaadoor", sum := "32e72c381977a9cdbbf0eaa7d9b505e412cdf7db477e460f55ee7febdce98ea1", func := "toolchest/toolchestlaw08.ViewsKeys", spec := "viewsKeys", inPlace := ["internal/bytealg.CountString", "internal/bytealg.IndexByteString", "internal/bytealg.IndexString", "internal/abi.NoEscape", "internal/bytealg.abigen_runtime_cmpstring", "internal/bytealg.MakeNoZero"], unfollowed := true, recurses := true, named := ["internal/bytealg.MaxLen", "internal/strconv.uint64pow10", "math/bits.deBruijn32tab", "math/bits.deBruijn64tab"], apart := false, laid := [("math/bits.deBruijn32tab", laid_math_bits_deBruijn32tab), ("math/bits.deBruijn64tab", laid_math_bits_deBruijn64tab), ("internal/strconv.uint64pow10", laid_internal_strconv_uint64pow10)] }
def ViewsKeysSaid : Prop := viewsKeysRow.holds Tryd.pinned (OpenSpec.ofChange viewsKeysSpec)

/-- ITS FALSE NEIGHBOUR: 'it returns false'. Refute it at one input. -/
def viewsKeysWrong : ChangeSpec := { name := "viewsKeys", fn := fun _ => fun
  | [d] => { results := [.lit (.bool false)], args := [d] }
  | _ => none }
def ViewsKeysWrongFalsely : Prop := viewsKeysRow.holds Tryd.pinned (OpenSpec.ofChange viewsKeysWrong)

/-- 'toolchestlaw08.ViewsRest': WHATEVER THE INPUT: true; the input reads as it did. -/
def viewsRestSpec : ChangeSpec := { name := "viewsRest", fn := fun _ => fun
  | [d1, d2, d3] => { results := [.lit (.bool true)], args := [d1, d2, d3] }
  | _ => none }
def viewsRestRow : OpenClaim := { program := "ythkaekeelokajaadoor", sum := "32e72c381977a9cdbbf0eaa7d9b505e412cdf7db477e460f55ee7febdce98ea1", func := "toolchest/toolchestlaw08.ViewsRest", spec := "viewsRest", inPlace := ["internal/bytealg.CountString", "internal/bytealg.IndexByteString", "internal/bytealg.IndexString", "internal/abi.NoEscape", "internal/bytealg.abigen_runtime_cmpstring", "internal/bytealg.MakeNoZero"], unfollowed := true, recurses := true, named := ["internal/bytealg.MaxLen", "internal/strconv.uint64pow10", "math/bits.deBruijn32tab", "math/bits.deBruijn64tab"], apart := false, laid := [("math/bits.deBruijn32tab", laid_math_bits_deBruijn32tab), ("math/bits.deBruijn64tab", laid_math_bits_deBruijn64tab), ("internal/strconv.uint64pow10", laid_internal_strconv_uint64pow10)] }
def ViewsRestSaid : Prop := viewsRestRow.holds Tryd.pinned (OpenSpec.ofChange viewsRestSpec)

/-- ITS FALSE NEIGHBOUR: 'it returns false'. Refute it at one input. -/
def viewsRestWrong : ChangeSpec := { name := "viewsRest", fn := fun _ => fun
  | [d1, d2, d3] => { results := [.lit (.bool false)], args := [d1, d2, d3] }
  | _ => none }
def ViewsRestWrongFalsely : Prop := viewsRestRow.holds Tryd.pinned (OpenSpec.ofChange viewsRestWrong)

/-- 'toolchestlaw08.ViewsSumOne': WHATEVER THE INPUT: true; the input reads as it did. -/
def viewsSumOneSpec : ChangeSpec := { name := "viewsSumOne", fn := fun _ => fun
  | [d1, d2, d3] => { results := [.lit (.bool true)], args := [d1, d2, d3] }
  | _ => none }
def viewsSumOneRow : OpenClaim := { program := "ythkaekeelokajaadoor", sum := "32e72c381977a9cdbbf0eaa7d9b505e412cdf7db477e460f55ee7febdce98ea1", func := "toolchest/toolchestlaw08.ViewsSumOne", spec := "viewsSumOne", inPlace := ["internal/bytealg.CountString", "internal/bytealg.IndexByteString", "internal/bytealg.IndexString", "internal/abi.NoEscape", "internal/bytealg.abigen_runtime_cmpstring", "internal/bytealg.MakeNoZero"], unfollowed := true, recurses := true, named := ["internal/bytealg.MaxLen", "internal/strconv.uint64pow10", "math/bits.deBruijn32tab", "math/bits.deBruijn64tab"], apart := false, laid := [("math/bits.deBruijn32tab", laid_math_bits_deBruijn32tab), ("math/bits.deBruijn64tab", laid_math_bits_deBruijn64tab), ("internal/strconv.uint64pow10", laid_internal_strconv_uint64pow10)] }
def ViewsSumOneSaid : Prop := viewsSumOneRow.holds Tryd.pinned (OpenSpec.ofChange viewsSumOneSpec)

/-- ITS FALSE NEIGHBOUR: 'it returns false'. Refute it at one input. -/
def viewsSumOneWrong : ChangeSpec := { name := "viewsSumOne", fn := fun _ => fun
  | [d1, d2, d3] => { results := [.lit (.bool false)], args := [d1, d2, d3] }
  | _ => none }
def ViewsSumOneWrongFalsely : Prop := viewsSumOneRow.holds Tryd.pinned (OpenSpec.ofChange viewsSumOneWrong)

/-- 'toolchestlaw08.ViewsDumped': WHATEVER THE INPUT: true; the input reads as it did. -/
def viewsDumpedSpec : ChangeSpec := { name := "viewsDumped", fn := fun _ => fun
  | [d] => { results := [.lit (.bool true)], args := [d] }
  | _ => none }
def viewsDumpedRow : OpenClaim := { program := "ythkaekeelokajaadoor", sum := "32e72c381977a9cdbbf0eaa7d9b505e412cdf7db477e460f55ee7febdce98ea1", func := "toolchest/toolchestlaw08.ViewsDumped", spec := "viewsDumped", inPlace := ["internal/bytealg.CountString", "internal/bytealg.IndexByteString", "internal/bytealg.IndexString", "internal/abi.NoEscape", "internal/bytealg.abigen_runtime_cmpstring", "internal/bytealg.MakeNoZero"], unfollowed := true, recurses := true, named := ["internal/bytealg.MaxLen", "internal/strconv.uint64pow10", "math/bits.deBruijn32tab", "math/bits.deBruijn64tab"], apart := false, laid := [("math/bits.deBruijn32tab", laid_math_bits_deBruijn32tab), ("math/bits.deBruijn64tab", laid_math_bits_deBruijn64tab), ("internal/strconv.uint64pow10", laid_internal_strconv_uint64pow10)] }
def ViewsDumpedSaid : Prop := viewsDumpedRow.holds Tryd.pinned (OpenSpec.ofChange viewsDumpedSpec)

/-- ITS FALSE NEIGHBOUR: 'it returns false'. Refute it at one input. -/
def viewsDumpedWrong : ChangeSpec := { name := "viewsDumped", fn := fun _ => fun
  | [d] => { results := [.lit (.bool false)], args := [d] }
  | _ => none }
def ViewsDumpedWrongFalsely : Prop := viewsDumpedRow.holds Tryd.pinned (OpenSpec.ofChange viewsDumpedWrong)

/-- 'toolchestlaw08.ViewsSame': WHATEVER THE INPUT: true; the input reads as it did. -/
def viewsSameSpec : ChangeSpec := { name := "viewsSame", fn := fun _ => fun
  | [d1, d2] => { results := [.lit (.bool true)], args := [d1, d2] }
  | _ => none }
def viewsSameRow : OpenClaim := { program := "ythkaekeelokajaadoor", sum := "32e72c381977a9cdbbf0eaa7d9b505e412cdf7db477e460f55ee7febdce98ea1", func := "toolchest/toolchestlaw08.ViewsSame", spec := "viewsSame", inPlace := ["internal/bytealg.CountString", "internal/bytealg.IndexByteString", "internal/bytealg.IndexString", "internal/abi.NoEscape", "internal/bytealg.abigen_runtime_cmpstring", "internal/bytealg.MakeNoZero"], unfollowed := true, recurses := true, named := ["internal/bytealg.MaxLen", "internal/strconv.uint64pow10", "math/bits.deBruijn32tab", "math/bits.deBruijn64tab"], apart := false, laid := [("math/bits.deBruijn32tab", laid_math_bits_deBruijn32tab), ("math/bits.deBruijn64tab", laid_math_bits_deBruijn64tab), ("internal/strconv.uint64pow10", laid_internal_strconv_uint64pow10)] }
def ViewsSameSaid : Prop := viewsSameRow.holds Tryd.pinned (OpenSpec.ofChange viewsSameSpec)

/-- ITS FALSE NEIGHBOUR: 'it returns false'. Refute it at one input. -/
def viewsSameWrong : ChangeSpec := { name := "viewsSame", fn := fun _ => fun
  | [d1, d2] => { results := [.lit (.bool false)], args := [d1, d2] }
  | _ => none }
def ViewsSameWrongFalsely : Prop := viewsSameRow.holds Tryd.pinned (OpenSpec.ofChange viewsSameWrong)

/- THE SECOND FORM. 'bulk': how many values and letters a reading holds, each counted each time it is reached (what is shared counts as often as it is met; a slice's spare places count too). A statement '..UptoSaid' is the law's where the arguments, and the package variables that the reading takes, are together of bulk at most 1048576: NARROWER than '..Said'. Prove '..Said' where nothing that the law and all that it calls make is longer than what came in: it says more and counts as full. Else prove '..UptoSaid'. A law counts once. -/
mutual
def uptoBulk {H : Type} : DataW H → Nat
  | .lit (.string bytes) => bytes.length + 1
  | .lit _ => 1
  | .nil => 1
  | .ptr d => uptoBulk d + 1
  | .slice elems spare => uptoBulkAll elems + uptoBulkAll spare + 1
  | .agg parts => uptoBulkAll parts + 1
  | .iface _ d => uptoBulk d + 1
  | .map entries => uptoBulkEntries entries + 1
  | .held _ => 1
def uptoBulkAll {H : Type} : List (DataW H) → Nat
  | [] => 0
  | d :: r => uptoBulk d + uptoBulkAll r
def uptoBulkEntries {H : Type} : List (Lit × DataW H) → Nat
  | [] => 0
  | x :: r => uptoBulkEntry x + uptoBulkEntries r
def uptoBulkEntry {H : Type} : Lit × DataW H → Nat
  | (.string bytes, d) => bytes.length + uptoBulk d + 1
  | (_, d) => uptoBulk d + 1
 end
def uptoSmall : (H : Type) → List (DataW H) → Bool := fun _ ds => decide (uptoBulkAll ds ≤ 1048576)
def OpenSpec.upto (s : _root_.Go.ChangeSpec) : _root_.Go.OpenSpec := { _root_.Go.OpenSpec.ofChange s with cond := some uptoSmall }

/-- 'toolchestlaw08.ViewsPastes', WHERE WHAT IT READS IS OF BULK AT MOST 1048576: true; the input reads as it did. -/
def viewsPastesUptoRow : OpenClaim := { program := "ythkaekeelokajaadoor", sum := "32e72c381977a9cdbbf0eaa7d9b505e412cdf7db477e460f55ee7febdce98ea1", func := "toolchest/toolchestlaw08.ViewsPastes", spec := "viewsPastes", inPlace := ["internal/abi.NoEscape"], named := ["internal/strconv.uint64pow10", "math/bits.deBruijn32tab", "math/bits.deBruijn64tab"], apart := false, laid := [("math/bits.deBruijn32tab", laid_math_bits_deBruijn32tab), ("math/bits.deBruijn64tab", laid_math_bits_deBruijn64tab), ("internal/strconv.uint64pow10", laid_internal_strconv_uint64pow10)], narrowed := true }
def ViewsPastesUptoSaid : Prop := viewsPastesUptoRow.holds Tryd.pinned (OpenSpec.upto viewsPastesSpec)

/-- 'toolchestlaw08.ViewsSums', WHERE WHAT IT READS IS OF BULK AT MOST 1048576: true; the input reads as it did. -/
def viewsSumsUptoRow : OpenClaim := { program := "ythkaekeelokajaadoor", sum := "32e72c381977a9cdbbf0eaa7d9b505e412cdf7db477e460f55ee7febdce98ea1", func := "toolchest/toolchestlaw08.ViewsSums", spec := "viewsSums", inPlace := ["internal/abi.NoEscape", "internal/bytealg.MakeNoZero"], unfollowed := true, recurses := true, named := ["internal/strconv.uint64pow10", "math/bits.deBruijn32tab", "math/bits.deBruijn64tab"], apart := false, laid := [("math/bits.deBruijn32tab", laid_math_bits_deBruijn32tab), ("math/bits.deBruijn64tab", laid_math_bits_deBruijn64tab), ("internal/strconv.uint64pow10", laid_internal_strconv_uint64pow10)], narrowed := true }
def ViewsSumsUptoSaid : Prop := viewsSumsUptoRow.holds Tryd.pinned (OpenSpec.upto viewsSumsSpec)

/-- 'toolchestlaw08.ViewsAlone', WHERE WHAT IT READS IS OF BULK AT MOST 1048576: true; the input reads as it did. -/
def viewsAloneUptoRow : OpenClaim := { program := "ythkaekeelokajaadoor", sum := "32e72c381977a9cdbbf0eaa7d9b505e412cdf7db477e460f55ee7febdce98ea1", func := "toolchest/toolchestlaw08.ViewsAlone", spec := "viewsAlone", inPlace := ["internal/bytealg.CountString", "internal/bytealg.IndexByteString", "internal/bytealg.IndexString", "internal/abi.NoEscape", "internal/bytealg.abigen_runtime_cmpstring", "internal/bytealg.MakeNoZero"], unfollowed := true, recurses := true, named := ["internal/bytealg.MaxLen", "internal/strconv.uint64pow10", "math/bits.deBruijn32tab", "math/bits.deBruijn64tab"], apart := false, laid := [("math/bits.deBruijn32tab", laid_math_bits_deBruijn32tab), ("math/bits.deBruijn64tab", laid_math_bits_deBruijn64tab), ("internal/strconv.uint64pow10", laid_internal_strconv_uint64pow10)], narrowed := true }
def ViewsAloneUptoSaid : Prop := viewsAloneUptoRow.holds Tryd.pinned (OpenSpec.upto viewsAloneSpec)

/-- 'toolchestlaw08.ViewsTurns', WHERE WHAT IT READS IS OF BULK AT MOST 1048576: true; the input reads as it did. -/
def viewsTurnsUptoRow : OpenClaim := { program := "ythkaekeelokajaadoor", sum := "32e72c381977a9cdbbf0eaa7d9b505e412cdf7db477e460f55ee7febdce98ea1", func := "toolchest/toolchestlaw08.ViewsTurns", spec := "viewsTurns", inPlace := ["internal/bytealg.CountString", "internal/bytealg.IndexByteString", "internal/bytealg.IndexString", "internal/abi.NoEscape", "internal/bytealg.abigen_runtime_cmpstring", "internal/bytealg.MakeNoZero"], unfollowed := true, recurses := true, named := ["internal/bytealg.MaxLen", "internal/strconv.uint64pow10", "math/bits.deBruijn32tab", "math/bits.deBruijn64tab"], apart := false, laid := [("math/bits.deBruijn32tab", laid_math_bits_deBruijn32tab), ("math/bits.deBruijn64tab", laid_math_bits_deBruijn64tab), ("internal/strconv.uint64pow10", laid_internal_strconv_uint64pow10)], narrowed := true }
def ViewsTurnsUptoSaid : Prop := viewsTurnsUptoRow.holds Tryd.pinned (OpenSpec.upto viewsTurnsSpec)

/-- 'toolchestlaw08.ViewsKeys', WHERE WHAT IT READS IS OF BULK AT MOST 1048576: true; the input reads as it did. -/
def viewsKeysUptoRow : OpenClaim := { program := "ythkaekeelokajaadoor", sum := "32e72c381977a9cdbbf0eaa7d9b505e412cdf7db477e460f55ee7febdce98ea1", func := "toolchest/toolchestlaw08.ViewsKeys", spec := "viewsKeys", inPlace := ["internal/bytealg.CountString", "internal/bytealg.IndexByteString", "internal/bytealg.IndexString", "internal/abi.NoEscape", "internal/bytealg.abigen_runtime_cmpstring", "internal/bytealg.MakeNoZero"], unfollowed := true, recurses := true, named := ["internal/bytealg.MaxLen", "internal/strconv.uint64pow10", "math/bits.deBruijn32tab", "math/bits.deBruijn64tab"], apart := false, laid := [("math/bits.deBruijn32tab", laid_math_bits_deBruijn32tab), ("math/bits.deBruijn64tab", laid_math_bits_deBruijn64tab), ("internal/strconv.uint64pow10", laid_internal_strconv_uint64pow10)], narrowed := true }
def ViewsKeysUptoSaid : Prop := viewsKeysUptoRow.holds Tryd.pinned (OpenSpec.upto viewsKeysSpec)

/-- 'toolchestlaw08.ViewsRest', WHERE WHAT IT READS IS OF BULK AT MOST 1048576: true; the input reads as it did. -/
def viewsRestUptoRow : OpenClaim := { program := "ythkaekeelokajaadoor", sum := "32e72c381977a9cdbbf0eaa7d9b505e412cdf7db477e460f55ee7febdce98ea1", func := "toolchest/toolchestlaw08.ViewsRest", spec := "viewsRest", inPlace := ["internal/bytealg.CountString", "internal/bytealg.IndexByteString", "internal/bytealg.IndexString", "internal/abi.NoEscape", "internal/bytealg.abigen_runtime_cmpstring", "internal/bytealg.MakeNoZero"], unfollowed := true, recurses := true, named := ["internal/bytealg.MaxLen", "internal/strconv.uint64pow10", "math/bits.deBruijn32tab", "math/bits.deBruijn64tab"], apart := false, laid := [("math/bits.deBruijn32tab", laid_math_bits_deBruijn32tab), ("math/bits.deBruijn64tab", laid_math_bits_deBruijn64tab), ("internal/strconv.uint64pow10", laid_internal_strconv_uint64pow10)], narrowed := true }
def ViewsRestUptoSaid : Prop := viewsRestUptoRow.holds Tryd.pinned (OpenSpec.upto viewsRestSpec)

/-- 'toolchestlaw08.ViewsSumOne', WHERE WHAT IT READS IS OF BULK AT MOST 1048576: true; the input reads as it did. -/
def viewsSumOneUptoRow : OpenClaim := { program := "ythkaekeelokajaadoor", sum := "32e72c381977a9cdbbf0eaa7d9b505e412cdf7db477e460f55ee7febdce98ea1", func := "toolchest/toolchestlaw08.ViewsSumOne", spec := "viewsSumOne", inPlace := ["internal/bytealg.CountString", "internal/bytealg.IndexByteString", "internal/bytealg.IndexString", "internal/abi.NoEscape", "internal/bytealg.abigen_runtime_cmpstring", "internal/bytealg.MakeNoZero"], unfollowed := true, recurses := true, named := ["internal/bytealg.MaxLen", "internal/strconv.uint64pow10", "math/bits.deBruijn32tab", "math/bits.deBruijn64tab"], apart := false, laid := [("math/bits.deBruijn32tab", laid_math_bits_deBruijn32tab), ("math/bits.deBruijn64tab", laid_math_bits_deBruijn64tab), ("internal/strconv.uint64pow10", laid_internal_strconv_uint64pow10)], narrowed := true }
def ViewsSumOneUptoSaid : Prop := viewsSumOneUptoRow.holds Tryd.pinned (OpenSpec.upto viewsSumOneSpec)

/-- 'toolchestlaw08.ViewsDumped', WHERE WHAT IT READS IS OF BULK AT MOST 1048576: true; the input reads as it did. -/
def viewsDumpedUptoRow : OpenClaim := { program := "ythkaekeelokajaadoor", sum := "32e72c381977a9cdbbf0eaa7d9b505e412cdf7db477e460f55ee7febdce98ea1", func := "toolchest/toolchestlaw08.ViewsDumped", spec := "viewsDumped", inPlace := ["internal/bytealg.CountString", "internal/bytealg.IndexByteString", "internal/bytealg.IndexString", "internal/abi.NoEscape", "internal/bytealg.abigen_runtime_cmpstring", "internal/bytealg.MakeNoZero"], unfollowed := true, recurses := true, named := ["internal/bytealg.MaxLen", "internal/strconv.uint64pow10", "math/bits.deBruijn32tab", "math/bits.deBruijn64tab"], apart := false, laid := [("math/bits.deBruijn32tab", laid_math_bits_deBruijn32tab), ("math/bits.deBruijn64tab", laid_math_bits_deBruijn64tab), ("internal/strconv.uint64pow10", laid_internal_strconv_uint64pow10)], narrowed := true }
def ViewsDumpedUptoSaid : Prop := viewsDumpedUptoRow.holds Tryd.pinned (OpenSpec.upto viewsDumpedSpec)

/-- 'toolchestlaw08.ViewsSame', WHERE WHAT IT READS IS OF BULK AT MOST 1048576: true; the input reads as it did. -/
def viewsSameUptoRow : OpenClaim := { program := "ythkaekeelokajaadoor", sum := "32e72c381977a9cdbbf0eaa7d9b505e412cdf7db477e460f55ee7febdce98ea1", func := "toolchest/toolchestlaw08.ViewsSame", spec := "viewsSame", inPlace := ["internal/bytealg.CountString", "internal/bytealg.IndexByteString", "internal/bytealg.IndexString", "internal/abi.NoEscape", "internal/bytealg.abigen_runtime_cmpstring", "internal/bytealg.MakeNoZero"], unfollowed := true, recurses := true, named := ["internal/bytealg.MaxLen", "internal/strconv.uint64pow10", "math/bits.deBruijn32tab", "math/bits.deBruijn64tab"], apart := false, laid := [("math/bits.deBruijn32tab", laid_math_bits_deBruijn32tab), ("math/bits.deBruijn64tab", laid_math_bits_deBruijn64tab), ("internal/strconv.uint64pow10", laid_internal_strconv_uint64pow10)], narrowed := true }
def ViewsSameUptoSaid : Prop := viewsSameUptoRow.holds Tryd.pinned (OpenSpec.upto viewsSameSpec)

end Rows
end Go.Proofs.YthkaekeelokajaaDoor

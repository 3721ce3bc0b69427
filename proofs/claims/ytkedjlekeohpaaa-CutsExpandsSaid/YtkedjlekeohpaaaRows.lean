/-
  No cell of these rows narrows 'for every input' (looked for: loops, veiled, ifaces, maps, wideKeys, modest, calm, conditions, laid).
  DERIVED. THE GIVEN ROWS OF THIS SEAT. 2 by the template 'for every input the law returns true; each argument reads behind the call as it read before'; 0 by the template 'total and deterministic' (their statements: YtkedjlekeohpaaaTotals.lean).
  GIVEN WITH THE SEED: the statements are not yours to turn. If you find one false, say at which input.
  Laid BY PROGRAM, IN A SANDBOX (cutbox-rows.mjs): the forced cells as the released guide's own fill.sh prints them over the translation 9e801255d7a37ebd… (all of the seat's roots in one cut). By AI agents, Wed Nov 11 2026. No macro, syntax, notation, axiom, sorry.
-/
import Derived.Test.YtkedjlekeohpaaaChecked
import GoSem.Claim
import GoSem.ClaimJoined
import GoSem.ClaimMapViews
import Derived.JoinedTies
import Derived.KernelRfl
namespace Go.Proofs.Ytkedjlekeohpaaa
/- THE CELL 'sum', in the pinned program and in every row, IS THE sha256 OF THE DUMP (.gsa) THAT YtkedjlekeohpaaaProg.lean LOADS. Nothing in Lean hashes anything: it is a label: what it is worth is what the hold of that sum in a sandbox is worth. -/
noncomputable def Try.pinned : Pinned := { name := "ytkedjlekeohpaaa", sum := "9e801255d7a37ebd5af11b42708b1c1a4d2d910231d8eae5289d8b865bd839ca", checked := Try.checked }
namespace Rows
def none {H : Type} : Left H := { results := [], args := [] }

/-- 'toolchestlaw07.CutsBytes': WHATEVER THE INPUT: true; the input reads as it did. -/
def cutsBytesSpec : ChangeSpec := { name := "cutsBytes", fn := fun _ => fun
  | [d1, d2] => { results := [.lit (.bool true)], args := [d1, d2] }
  | _ => none }
def cutsBytesRow : OpenClaim := { program := "ytkedjlekeohpaaa", sum := "9e801255d7a37ebd5af11b42708b1c1a4d2d910231d8eae5289d8b865bd839ca", func := "toolchest/toolchestlaw07.CutsBytes", spec := "cutsBytes", inPlace := ["internal/abi.NoEscape"], unfollowed := true, recurses := true, apart := false }
def CutsBytesSaid : Prop := cutsBytesRow.holds Try.pinned (OpenSpec.ofChange cutsBytesSpec)

/-- ITS FALSE NEIGHBOUR: 'it returns false'. Refute it at one input. -/
def cutsBytesWrong : ChangeSpec := { name := "cutsBytes", fn := fun _ => fun
  | [d1, d2] => { results := [.lit (.bool false)], args := [d1, d2] }
  | _ => none }
def CutsBytesWrongFalsely : Prop := cutsBytesRow.holds Try.pinned (OpenSpec.ofChange cutsBytesWrong)

/-- 'toolchestlaw07.CutsExpands': WHATEVER THE INPUT: true; the input reads as it did. -/
def cutsExpandsSpec : ChangeSpec := { name := "cutsExpands", fn := fun _ => fun
  | [d1, d2] => { results := [.lit (.bool true)], args := [d1, d2] }
  | _ => none }
def cutsExpandsRow : OpenClaim := { program := "ytkedjlekeohpaaa", sum := "9e801255d7a37ebd5af11b42708b1c1a4d2d910231d8eae5289d8b865bd839ca", func := "toolchest/toolchestlaw07.CutsExpands", spec := "cutsExpands", inPlace := ["internal/abi.NoEscape", "internal/bytealg.MakeNoZero"], apart := false }
def CutsExpandsSaid : Prop := cutsExpandsRow.holds Try.pinned (OpenSpec.ofChange cutsExpandsSpec)

/-- ITS FALSE NEIGHBOUR: 'it returns false'. Refute it at one input. -/
def cutsExpandsWrong : ChangeSpec := { name := "cutsExpands", fn := fun _ => fun
  | [d1, d2] => { results := [.lit (.bool false)], args := [d1, d2] }
  | _ => none }
def CutsExpandsWrongFalsely : Prop := cutsExpandsRow.holds Try.pinned (OpenSpec.ofChange cutsExpandsWrong)

/- THE SECOND FORM. 'bulk': how many values and letters a reading holds, each counted each time it is reached (what is shared counts as often as it is met; a slice's spare places count too). A statement '..UptoSaid' is the law's where the arguments, and the package variables that the reading takes, are together of bulk at most 1048576: NARROWER than '..Said'. Prove '..Said' where nothing that the law and all that it calls make is longer than what came in: it says more and counts as full. Else prove '..UptoSaid'. A law counts once. -/
mutual
def uptoBulk {H : Type} : DataW H → Nat
  | .lit (.string bytes) => bytes.length + 1
  | .lit _ => 1
  | .nil => 1
  | .ptr d => uptoBulk d + 1
  | .slice elems spare => uptoBulkAll elems + uptoBulkAll spare + 1
  | .agg parts => uptoBulkAll parts + 1
  | .iface _ d => uptoBulk d + 1
  | .map entries => uptoBulkEntries entries + 1
  | .held _ => 1
def uptoBulkAll {H : Type} : List (DataW H) → Nat
  | [] => 0
  | d :: r => uptoBulk d + uptoBulkAll r
def uptoBulkEntries {H : Type} : List (Lit × DataW H) → Nat
  | [] => 0
  | x :: r => uptoBulkEntry x + uptoBulkEntries r
def uptoBulkEntry {H : Type} : Lit × DataW H → Nat
  | (.string bytes, d) => bytes.length + uptoBulk d + 1
  | (_, d) => uptoBulk d + 1
 end
def uptoSmall : (H : Type) → List (DataW H) → Bool := fun _ ds => decide (uptoBulkAll ds ≤ 1048576)
def OpenSpec.upto (s : _root_.Go.ChangeSpec) : _root_.Go.OpenSpec := { _root_.Go.OpenSpec.ofChange s with cond := some uptoSmall }

/-- 'toolchestlaw07.CutsBytes', WHERE WHAT IT READS IS OF BULK AT MOST 1048576: true; the input reads as it did. -/
def cutsBytesUptoRow : OpenClaim := { program := "ytkedjlekeohpaaa", sum := "9e801255d7a37ebd5af11b42708b1c1a4d2d910231d8eae5289d8b865bd839ca", func := "toolchest/toolchestlaw07.CutsBytes", spec := "cutsBytes", inPlace := ["internal/abi.NoEscape"], unfollowed := true, recurses := true, apart := false, narrowed := true }
def CutsBytesUptoSaid : Prop := cutsBytesUptoRow.holds Try.pinned (OpenSpec.upto cutsBytesSpec)

/-- 'toolchestlaw07.CutsExpands', WHERE WHAT IT READS IS OF BULK AT MOST 1048576: true; the input reads as it did. -/
def cutsExpandsUptoRow : OpenClaim := { program := "ytkedjlekeohpaaa", sum := "9e801255d7a37ebd5af11b42708b1c1a4d2d910231d8eae5289d8b865bd839ca", func := "toolchest/toolchestlaw07.CutsExpands", spec := "cutsExpands", inPlace := ["internal/abi.NoEscape", "internal/bytealg.MakeNoZero"], apart := false, narrowed := true }
def CutsExpandsUptoSaid : Prop := cutsExpandsUptoRow.holds Try.pinned (OpenSpec.upto cutsExpandsSpec)

end Rows
end Go.Proofs.Ytkedjlekeohpaaa

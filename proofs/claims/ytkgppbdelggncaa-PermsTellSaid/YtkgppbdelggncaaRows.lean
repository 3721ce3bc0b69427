/-
  No cell of these rows narrows 'for every input' (looked for: loops, veiled, ifaces, maps, wideKeys, modest, calm, conditions, laid).
  DERIVED. THE GIVEN ROWS OF THIS SEAT. 5 by the template 'for every input the law returns true; each argument reads behind the call as it read before'; 0 by the template 'total and deterministic' (their statements: YtkgppbdelggncaaTotals.lean).
  GIVEN WITH THE SEED: the statements are not yours to turn. If you find one false, say at which input.
  Laid BY PROGRAM, IN A SANDBOX (cutbox-rows.mjs): the forced cells as the released guide's own fill.sh prints them over the translation d24bbf88f42a1272… (all of the seat's roots in one cut). By AI agents, Wed Nov 11 2026. No macro, syntax, notation, axiom, sorry.
-/
import Derived.Test.YtkgppbdelggncaaChecked
import GoSem.Claim
import GoSem.ClaimJoined
import GoSem.ClaimMapViews
import Derived.JoinedTies
import Derived.KernelRfl
namespace Go.Proofs.Ytkgppbdelggncaa
/- THE CELL 'sum', in the pinned program and in every row, IS THE sha256 OF THE DUMP (.gsa) THAT YtkgppbdelggncaaProg.lean LOADS. Nothing in Lean hashes anything: it is a label: what it is worth is what the hold of that sum in a sandbox is worth. -/
noncomputable def Try.pinned : Pinned := { name := "ytkgppbdelggncaa", sum := "d24bbf88f42a12726d63d7a63ba3fee9d5d6684c573a9fbd2f67a5c0e92dd1c3", checked := Try.checked }
namespace Rows
def none {H : Type} : Left H := { results := [], args := [] }

/-- 'toolchestlaw13.PermsTell': WHATEVER THE INPUT: true; the input reads as it did. -/
def permsTellSpec : ChangeSpec := { name := "permsTell", fn := fun _ => fun
  | [d1, d2, d3] => { results := [.lit (.bool true)], args := [d1, d2, d3] }
  | _ => none }
def permsTellRow : OpenClaim := { program := "ytkgppbdelggncaa", sum := "d24bbf88f42a12726d63d7a63ba3fee9d5d6684c573a9fbd2f67a5c0e92dd1c3", func := "toolchest/toolchestlaw13.PermsTell", spec := "permsTell", apart := false }
def PermsTellSaid : Prop := permsTellRow.holds Try.pinned (OpenSpec.ofChange permsTellSpec)

/-- ITS FALSE NEIGHBOUR: 'it returns false'. Refute it at one input. -/
def permsTellWrong : ChangeSpec := { name := "permsTell", fn := fun _ => fun
  | [d1, d2, d3] => { results := [.lit (.bool false)], args := [d1, d2, d3] }
  | _ => none }
def PermsTellWrongFalsely : Prop := permsTellRow.holds Try.pinned (OpenSpec.ofChange permsTellWrong)

/-- 'toolchestlaw13.PermsEach': WHATEVER THE INPUT: true; the input reads as it did. -/
def permsEachSpec : ChangeSpec := { name := "permsEach", fn := fun _ => fun
  | [d] => { results := [.lit (.bool true)], args := [d] }
  | _ => none }
def permsEachRow : OpenClaim := { program := "ytkgppbdelggncaa", sum := "d24bbf88f42a12726d63d7a63ba3fee9d5d6684c573a9fbd2f67a5c0e92dd1c3", func := "toolchest/toolchestlaw13.PermsEach", spec := "permsEach", apart := false }
def PermsEachSaid : Prop := permsEachRow.holds Try.pinned (OpenSpec.ofChange permsEachSpec)

/-- ITS FALSE NEIGHBOUR: 'it returns false'. Refute it at one input. -/
def permsEachWrong : ChangeSpec := { name := "permsEach", fn := fun _ => fun
  | [d] => { results := [.lit (.bool false)], args := [d] }
  | _ => none }
def PermsEachWrongFalsely : Prop := permsEachRow.holds Try.pinned (OpenSpec.ofChange permsEachWrong)

/-- 'toolchestlaw13.PermsMore': WHATEVER THE INPUT: true; the input reads as it did. -/
def permsMoreSpec : ChangeSpec := { name := "permsMore", fn := fun _ => fun
  | [d] => { results := [.lit (.bool true)], args := [d] }
  | _ => none }
def permsMoreRow : OpenClaim := { program := "ytkgppbdelggncaa", sum := "d24bbf88f42a12726d63d7a63ba3fee9d5d6684c573a9fbd2f67a5c0e92dd1c3", func := "toolchest/toolchestlaw13.PermsMore", spec := "permsMore", apart := false }
def PermsMoreSaid : Prop := permsMoreRow.holds Try.pinned (OpenSpec.ofChange permsMoreSpec)

/-- ITS FALSE NEIGHBOUR: 'it returns false'. Refute it at one input. -/
def permsMoreWrong : ChangeSpec := { name := "permsMore", fn := fun _ => fun
  | [d] => { results := [.lit (.bool false)], args := [d] }
  | _ => none }
def PermsMoreWrongFalsely : Prop := permsMoreRow.holds Try.pinned (OpenSpec.ofChange permsMoreWrong)

/-- 'toolchestlaw13.PermsClass': WHATEVER THE INPUT: true; the input reads as it did. -/
def permsClassSpec : ChangeSpec := { name := "permsClass", fn := fun _ => fun
  | [d] => { results := [.lit (.bool true)], args := [d] }
  | _ => none }
def permsClassRow : OpenClaim := { program := "ytkgppbdelggncaa", sum := "d24bbf88f42a12726d63d7a63ba3fee9d5d6684c573a9fbd2f67a5c0e92dd1c3", func := "toolchest/toolchestlaw13.PermsClass", spec := "permsClass", apart := false }
def PermsClassSaid : Prop := permsClassRow.holds Try.pinned (OpenSpec.ofChange permsClassSpec)

/-- ITS FALSE NEIGHBOUR: 'it returns false'. Refute it at one input. -/
def permsClassWrong : ChangeSpec := { name := "permsClass", fn := fun _ => fun
  | [d] => { results := [.lit (.bool false)], args := [d] }
  | _ => none }
def PermsClassWrongFalsely : Prop := permsClassRow.holds Try.pinned (OpenSpec.ofChange permsClassWrong)

/-- 'toolchestlaw13.PermsChecks': WHATEVER THE INPUT: true; the input reads as it did. -/
def permsChecksSpec : ChangeSpec := { name := "permsChecks", fn := fun _ => fun
  | [d1, d2] => { results := [.lit (.bool true)], args := [d1, d2] }
  | _ => none }
def permsChecksRow : OpenClaim := { program := "ytkgppbdelggncaa", sum := "d24bbf88f42a12726d63d7a63ba3fee9d5d6684c573a9fbd2f67a5c0e92dd1c3", func := "toolchest/toolchestlaw13.PermsChecks", spec := "permsChecks", inPlace := ["internal/bytealg.IndexByteString", "internal/bytealg.IndexString"], unfollowed := true, recurses := true, named := ["internal/bytealg.MaxLen"], apart := false }
def PermsChecksSaid : Prop := permsChecksRow.holds Try.pinned (OpenSpec.ofChange permsChecksSpec)

/-- ITS FALSE NEIGHBOUR: 'it returns false'. Refute it at one input. -/
def permsChecksWrong : ChangeSpec := { name := "permsChecks", fn := fun _ => fun
  | [d1, d2] => { results := [.lit (.bool false)], args := [d1, d2] }
  | _ => none }
def PermsChecksWrongFalsely : Prop := permsChecksRow.holds Try.pinned (OpenSpec.ofChange permsChecksWrong)

/- THE SECOND FORM. 'bulk': how many values and letters a reading holds, each counted each time it is reached (what is shared counts as often as it is met; a slice's spare places count too). A statement '..UptoSaid' is the law's where the arguments, and the package variables that the reading takes, are together of bulk at most 1048576: NARROWER than '..Said'. Prove '..Said' where nothing that the law and all that it calls make is longer than what came in: it says more and counts as full. Else prove '..UptoSaid'. A law counts once. -/
mutual
def uptoBulk {H : Type} : DataW H → Nat
  | .lit (.string bytes) => bytes.length + 1
  | .lit _ => 1
  | .nil => 1
  | .ptr d => uptoBulk d + 1
  | .slice elems spare => uptoBulkAll elems + uptoBulkAll spare + 1
  | .agg parts => uptoBulkAll parts + 1
  | .iface _ d => uptoBulk d + 1
  | .map entries => uptoBulkEntries entries + 1
  | .held _ => 1
def uptoBulkAll {H : Type} : List (DataW H) → Nat
  | [] => 0
  | d :: r => uptoBulk d + uptoBulkAll r
def uptoBulkEntries {H : Type} : List (Lit × DataW H) → Nat
  | [] => 0
  | x :: r => uptoBulkEntry x + uptoBulkEntries r
def uptoBulkEntry {H : Type} : Lit × DataW H → Nat
  | (.string bytes, d) => bytes.length + uptoBulk d + 1
  | (_, d) => uptoBulk d + 1
 end
def uptoSmall : (H : Type) → List (DataW H) → Bool := fun _ ds => decide (uptoBulkAll ds ≤ 1048576)
def OpenSpec.upto (s : _root_.Go.ChangeSpec) : _root_.Go.OpenSpec := { _root_.Go.OpenSpec.ofChange s with cond := some uptoSmall }

/-- 'toolchestlaw13.PermsTell', WHERE WHAT IT READS IS OF BULK AT MOST 1048576: true; the input reads as it did. -/
def permsTellUptoRow : OpenClaim := { program := "ytkgppbdelggncaa", sum := "d24bbf88f42a12726d63d7a63ba3fee9d5d6684c573a9fbd2f67a5c0e92dd1c3", func := "toolchest/toolchestlaw13.PermsTell", spec := "permsTell", apart := false, narrowed := true }
def PermsTellUptoSaid : Prop := permsTellUptoRow.holds Try.pinned (OpenSpec.upto permsTellSpec)

/-- 'toolchestlaw13.PermsEach', WHERE WHAT IT READS IS OF BULK AT MOST 1048576: true; the input reads as it did. -/
def permsEachUptoRow : OpenClaim := { program := "ytkgppbdelggncaa", sum := "d24bbf88f42a12726d63d7a63ba3fee9d5d6684c573a9fbd2f67a5c0e92dd1c3", func := "toolchest/toolchestlaw13.PermsEach", spec := "permsEach", apart := false, narrowed := true }
def PermsEachUptoSaid : Prop := permsEachUptoRow.holds Try.pinned (OpenSpec.upto permsEachSpec)

/-- 'toolchestlaw13.PermsMore', WHERE WHAT IT READS IS OF BULK AT MOST 1048576: true; the input reads as it did. -/
def permsMoreUptoRow : OpenClaim := { program := "ytkgppbdelggncaa", sum := "d24bbf88f42a12726d63d7a63ba3fee9d5d6684c573a9fbd2f67a5c0e92dd1c3", func := "toolchest/toolchestlaw13.PermsMore", spec := "permsMore", apart := false, narrowed := true }
def PermsMoreUptoSaid : Prop := permsMoreUptoRow.holds Try.pinned (OpenSpec.upto permsMoreSpec)

/-- 'toolchestlaw13.PermsClass', WHERE WHAT IT READS IS OF BULK AT MOST 1048576: true; the input reads as it did. -/
def permsClassUptoRow : OpenClaim := { program := "ytkgppbdelggncaa", sum := "d24bbf88f42a12726d63d7a63ba3fee9d5d6684c573a9fbd2f67a5c0e92dd1c3", func := "toolchest/toolchestlaw13.PermsClass", spec := "permsClass", apart := false, narrowed := true }
def PermsClassUptoSaid : Prop := permsClassUptoRow.holds Try.pinned (OpenSpec.upto permsClassSpec)

/-- 'toolchestlaw13.PermsChecks', WHERE WHAT IT READS IS OF BULK AT MOST 1048576: true; the input reads as it did. -/
def permsChecksUptoRow : OpenClaim := { program := "ytkgppbdelggncaa", sum := "d24bbf88f42a12726d63d7a63ba3fee9d5d6684c573a9fbd2f67a5c0e92dd1c3", func := "toolchest/toolchestlaw13.PermsChecks", spec := "permsChecks", inPlace := ["internal/bytealg.IndexByteString", "internal/bytealg.IndexString"], unfollowed := true, recurses := true, named := ["internal/bytealg.MaxLen"], apart := false, narrowed := true }
def PermsChecksUptoSaid : Prop := permsChecksUptoRow.holds Try.pinned (OpenSpec.upto permsChecksSpec)

end Rows
end Go.Proofs.Ytkgppbdelggncaa

/- The answers that the document fixes; what a comparison answers, by one row. -/
import Derived.Test.YtbndinaiclkajaaDoorQx17
import Derived.Test.YtbndinaiclkajaaDoorKComp
set_option linter.unusedVariables false
namespace Go.Proofs.YtbndinaiclkajaaDoor.K
open Go.RowKit Go.Proofs.YtbndinaiclkajaaDoor.H Go.Proofs.YtbndinaiclkajaaDoorW.PrintWords
set_option maxRecDepth 100000 in
theorem alive8 : Q.toolchestlaw05_alive.f 8 = some true := by kernel_rfl
set_option maxRecDepth 100000 in
theorem alive7 : Q.toolchestlaw05_alive.f 7 = some true := by kernel_rfl
theorem alive_k : ∃ k, Q.toolchestlaw05_alive.f (k + 1) = some true ∧ Q.toolchestlaw05_alive.f k = some true := ⟨7, alive8, alive7⟩
theorem byte_ok {a : Int} (h : (Lit.int .u8 a).wf = true) : 0 ≤ a ∧ a ≤ 255 := by
  simpa [Lit.wf, IntKind.min, IntKind.max, IntKind.signed, IntKind.bits] using h
theorem comp_f {nu fo bl re : Bool} {f t c : Int} {a b : ByteArray} (h : 0 ≤ c ∧ c ≤ 255) (ha : a.size ≤ 4294967280) (hb : b.size ≤ 4294967280) :
    Q.keys_Compare.f nu fo bl re f t c a b = some (cmpO nu fo bl re f t (Q.u8 c) a.data.toList b.data.toList) := by
  unfold Q.keys_Compare.f
  rw [if_pos ⟨h, ha, hb⟩]
theorem key_f {nu fo bl re : Bool} {f t c : Int} {a : ByteArray} (h : 0 ≤ c ∧ c ≤ 255) (ha : a.size ≤ 4294967280) :
    Q.keys_Key.f nu fo bl re f t c a = some (bs (keyO f t (Q.u8 c) a.data.toList)) := by
  unfold Q.keys_Key.f
  rw [if_pos ⟨h, ha⟩]
theorem one_neg {n : Int} (h : n = -1 ∨ n = 0 ∨ n = 1) : wrap64 (-n) = -n := by
  rcases h with h | h | h <;> rw [h] <;> (unfold wrap64; omega)
end Go.Proofs.YtbndinaiclkajaaDoor.K

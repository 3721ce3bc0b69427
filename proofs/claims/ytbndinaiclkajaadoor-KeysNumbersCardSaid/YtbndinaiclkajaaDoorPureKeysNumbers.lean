/- KeysNumbers. -/
import Derived.Test.YtbndinaiclkajaaDoorKRefNum
set_option linter.unusedVariables false
namespace Go.Proofs.YtbndinaiclkajaaDoor.Pure
open Go.RowKit Go.Proofs.YtbndinaiclkajaaDoor.H Go.Proofs.YtbndinaiclkajaaDoorW.PrintWords Go.Proofs.YtbndinaiclkajaaDoor.K
theorem beyond_two (n m : Int) (h0 : 0 ≤ n) (h1 : n ≤ 4611686018427387) (g0 : 0 ≤ m) (g1 : m ≤ 4611686018427387) : Q.toolchestlaw01_Beyond.f 3 [n, m] = some (decide (n + m > 1048576)) := by
  have w1 : wrap64 n = n := by unfold wrap64; omega
  have w2 : wrap64 1 = 1 := by unfold wrap64; omega
  have w3 : wrap64 (n + m) = n + m := by unfold wrap64; omega
  have w4 : wrap64 2 = 2 := by unfold wrap64; omega
  simp [Q.toolchestlaw01_Beyond.f, Q.toolchestlaw01_Beyond.l0, rd, w1, w2, w3, w4]
  by_cases h : 1048576 < n
  · simp [h]; omega
  · simp [h]
    by_cases g : 1048576 < n + m <;> simp [g]
theorem KeysNumbers : Q.toolchestlaw05_KeysNumbers.Pure := by
  intro a b ha hb
  refine ⟨4, ?_⟩
  unfold Q.toolchestlaw05_KeysNumbers.f
  rw [(Q.toolchestlaw01_Beyond.mono _ 3) _ (beyond_two _ _ (by omega) (by omega) (by omega) (by omega)), Option.bind_some]
  split
  · rfl
  · rw [Q.number_f 0 a b (by omega) (by omega), Option.bind_some, refNumber_f a b (by omega) (by omega), Option.bind_some, beq_self_eq_true]
theorem KeysNumbers_walk (a0 : ByteArray) (a1 : ByteArray) (W : World) (ok0 : a0.size ≤ 140737488351232) (ok1 : a1.size ≤ 140737488351232) :
    Calls Tryd.prog 4 #[.string a0, .string a1] W fun e W' => e = .returned (.bool true) ∧ Below W.heap.size W W' :=
  Q.toolchestlaw05_KeysNumbers.calls _ a0 a1 true W (KeysNumbers a0 a1 ok0 ok1).choose_spec
end Go.Proofs.YtbndinaiclkajaaDoor.Pure

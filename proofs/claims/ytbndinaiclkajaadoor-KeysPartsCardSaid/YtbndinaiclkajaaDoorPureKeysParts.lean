/- KeysParts. -/
import Derived.Test.YtbndinaiclkajaaDoorQx14
import Derived.Test.YtbndinaiclkajaaDoorKRefKey
set_option linter.unusedVariables false
namespace Go.Proofs.YtbndinaiclkajaaDoor.Pure
open Go.RowKit Go.Proofs.YtbndinaiclkajaaDoor.H Go.Proofs.YtbndinaiclkajaaDoorW.PrintWords Go.Proofs.YtbndinaiclkajaaDoor.K
theorem byte_in {a : Int} (h : (Lit.int .u8 a).wf = true) : 0 ≤ a ∧ a ≤ 255 := by
  simpa [Lit.wf, IntKind.min, IntKind.max, IntKind.signed, IntKind.bits] using h
theorem parts_law (nu fo bl re : Bool) (f t c : Int) (s : ByteArray) (hc : 0 ≤ c ∧ c ≤ 255) : ∃ k, Q.toolchestlaw05_KeysParts.f k nu fo bl re f t c s = some true := by
  by_cases hs : (s.size : Int) > 20000
  · refine ⟨0, ?_⟩
    unfold Q.toolchestlaw05_KeysParts.f
    rw [if_pos hs]
  · obtain ⟨k, hk⟩ := refKey_f nu fo bl re f t c hc s (by omega)
    refine ⟨k, ?_⟩
    unfold Q.toolchestlaw05_KeysParts.f Q.keys_Key.f
    rw [if_neg hs, if_pos ⟨hc, by omega⟩, Option.bind_some, hk, Option.bind_some, beq_self_eq_true]
theorem KeysParts_walk (a0_0 : Bool) (a0_1 : Bool) (a0_2 : Bool) (a0_3 : Bool) (a0_4 : Int) (a0_5 : Int) (a0_6 : Int) (a1 : ByteArray) (W : World) (ok0_4 : (Lit.int .i64 a0_4).wf = true) (ok0_5 : (Lit.int .i64 a0_5).wf = true) (ok0_6 : (Lit.int .u8 a0_6).wf = true) (ok1 : a1.size ≤ 140737488351232) :
    Calls Tryd.prog 3 #[.agg #[.bool a0_0, .bool a0_1, .bool a0_2, .bool a0_3, .int .i64 a0_4, .int .i64 a0_5, .int .u8 a0_6], .string a1] W fun e W' => e = .returned (.bool true) ∧ Below W.heap.size W W' :=
  Q.toolchestlaw05_KeysParts.calls _ a0_0 a0_1 a0_2 a0_3 a0_4 a0_5 a0_6 a1 true W (parts_law _ _ _ _ _ _ _ _ (byte_in ok0_6)).choose_spec
end Go.Proofs.YtbndinaiclkajaaDoor.Pure

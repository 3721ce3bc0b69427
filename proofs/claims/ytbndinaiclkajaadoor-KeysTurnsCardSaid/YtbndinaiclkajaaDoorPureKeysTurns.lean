/- KeysTurns. -/
import Derived.Test.YtbndinaiclkajaaDoorQx18
import Derived.Test.YtbndinaiclkajaaDoorKAlive
set_option linter.unusedVariables false
namespace Go.Proofs.YtbndinaiclkajaaDoor.Pure
open Go.RowKit Go.Proofs.YtbndinaiclkajaaDoor.H Go.Proofs.YtbndinaiclkajaaDoorW.PrintWords Go.Proofs.YtbndinaiclkajaaDoor.K
theorem turns_f (nu fo bl re : Bool) (f t c : Int) (a b : ByteArray) (hc : 0 ≤ c ∧ c ≤ 255) : ∃ k, Q.toolchestlaw05_KeysTurns.f k nu fo bl re f t c a b = some true := by
  obtain ⟨k, alive8, alive7⟩ := alive_k
  refine ⟨k + 1, ?_⟩
  unfold Q.toolchestlaw05_KeysTurns.f
  rw [alive8, Option.bind_some, if_pos rfl]
  by_cases ha : (a.size : Int) > 20000
  · rw [if_pos ha]
    rw [Q.toolchestlaw05_KeysTurns.j0]
    rw [if_pos rfl, alive7]; rfl
  · rw [if_neg ha]
    by_cases hb : (b.size : Int) > 20000
    · rw [Q.toolchestlaw05_KeysTurns.j0]
      rw [if_pos (decide_eq_true hb), alive7]; rfl
    · rw [Q.toolchestlaw05_KeysTurns.j0]
      have o := Ord.cmpO nu fo bl re f t (Q.u8 c)
      have h1 := o.one a.data.toList b.data.toList
      have h2 := o.back a.data.toList b.data.toList
      have h3 := (Ord.cmpO nu fo bl (!re) f t (Q.u8 c)).self a.data.toList
      have h4 := cmpO_turn nu fo bl re f t (Q.u8 c) a.data.toList b.data.toList
      rw [if_neg (by simpa using hb), comp_f hc (by omega) (by omega), Option.bind_some, comp_f hc (by omega) (by omega), Option.bind_some, h2,
        one_neg (by omega), if_pos (by omega), if_pos (by omega), if_pos (by omega), comp_f hc (by omega) (by omega), Option.bind_some, h4, one_neg h1, if_pos rfl,
        comp_f hc (by omega) (by omega), Option.bind_some, h3]
      rfl
theorem KeysTurns_walk (a0_0 : Bool) (a0_1 : Bool) (a0_2 : Bool) (a0_3 : Bool) (a0_4 : Int) (a0_5 : Int) (a0_6 : Int) (a1 : ByteArray) (a2 : ByteArray) (W : World) (ok0_4 : (Lit.int .i64 a0_4).wf = true) (ok0_5 : (Lit.int .i64 a0_5).wf = true) (ok0_6 : (Lit.int .u8 a0_6).wf = true) (ok1 : a1.size ≤ 140737488351232) (ok2 : a2.size ≤ 140737488351232) :
    Calls Tryd.prog 6 #[.agg #[.bool a0_0, .bool a0_1, .bool a0_2, .bool a0_3, .int .i64 a0_4, .int .i64 a0_5, .int .u8 a0_6], .string a1, .string a2] W fun e W' => e = .returned (.bool true) ∧ Below W.heap.size W W' :=
  Q.toolchestlaw05_KeysTurns.calls _ a0_0 a0_1 a0_2 a0_3 a0_4 a0_5 a0_6 a1 a2 true W (turns_f _ _ _ _ _ _ _ _ _ (byte_ok ok0_6)).choose_spec
end Go.Proofs.YtbndinaiclkajaaDoor.Pure

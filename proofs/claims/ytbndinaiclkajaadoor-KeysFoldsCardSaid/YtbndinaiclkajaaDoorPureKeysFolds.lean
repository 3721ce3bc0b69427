/- KeysFolds. -/
import Derived.Test.YtbndinaiclkajaaDoorQx20
import Derived.Test.YtbndinaiclkajaaDoorKAlive
import Derived.Test.YtbndinaiclkajaaDoorKFit
set_option linter.unusedVariables false
namespace Go.Proofs.YtbndinaiclkajaaDoor.Pure
open Go.RowKit Go.Proofs.YtbndinaiclkajaaDoor.H Go.Proofs.YtbndinaiclkajaaDoorW.PrintWords Go.Proofs.YtbndinaiclkajaaDoor.K
theorem up_size (a : ByteArray) : (bs (upL a.data.toList)).size = a.size := by rw [bs_size, upL_len, ← Lib.size_eq]
theorem u8_out {c : Int} (h : 0 ≤ c ∧ c ≤ 255) {m n : UInt8} (h1 : ¬ ((m.toNat : Int) ≤ c ∧ c ≤ (n.toNat : Int))) : ¬ (m ≤ Q.u8 c ∧ Q.u8 c ≤ n) := by
  intro ⟨e1, e2⟩
  rw [UInt8.le_iff_toNat_le] at e1 e2
  have := Q.u8_nat h
  omega
theorem folds_f (nu fo bl re : Bool) (f t c : Int) (a b : ByteArray) (hc : 0 ≤ c ∧ c ≤ 255) : ∃ k, Q.toolchestlaw05_KeysFolds.f k nu fo bl re f t c a b = some true := by
  obtain ⟨k, alive8, alive7⟩ := alive_k
  refine ⟨k + 1, ?_⟩
  have hT : Q.toolchestlaw05_KeysFolds.j0 (k + 1) a b true nu fo bl re f t c = some true := by
    rw [Q.toolchestlaw05_KeysFolds.j0, if_pos rfl, alive7]; rfl
  unfold Q.toolchestlaw05_KeysFolds.f
  rw [alive8, Option.bind_some, if_pos rfl]
  by_cases ha : (a.size : Int) > 20000
  · rw [if_pos ha]; exact hT
  · rw [if_neg ha]
    by_cases hb : (b.size : Int) > 20000
    · rw [if_pos hb]; exact hT
    · rw [if_neg hb]
      have hF : ¬ (65 ≤ c ∧ c ≤ 90) → ¬ (97 ≤ c ∧ c ≤ 122) → Q.toolchestlaw05_KeysFolds.j0 (k + 1) a b false nu fo bl re f t c = some true := by
        intro g1 g2
        have u1 : ¬ ((65 : UInt8) ≤ Q.u8 c ∧ Q.u8 c ≤ 90) := u8_out hc g1
        have u2 : ¬ ((97 : UInt8) ≤ Q.u8 c ∧ Q.u8 c ≤ 122) := u8_out hc g2
        have hA : Q.toolchestlaw05_upper.f a = some (bs (upL a.data.toList)) := by unfold Q.toolchestlaw05_upper.f; rw [if_pos (by omega)]
        have hB : Q.toolchestlaw05_upper.f b = some (bs (upL b.data.toList)) := by unfold Q.toolchestlaw05_upper.f; rw [if_pos (by omega)]
        have sa := up_size a
        have sb := up_size b
        obtain ⟨e1, e2⟩ := cmpO_folds nu bl re f t (Q.u8 c) u1 u2 a.data.toList b.data.toList
        rw [Q.toolchestlaw05_KeysFolds.j0, if_neg (by decide), comp_f hc (by omega) (by omega), Option.bind_some, hA, Option.bind_some, hB, Option.bind_some,
          comp_f hc (by omega) (by omega), Option.bind_some, bs_toList, bs_toList, e1, if_pos rfl, Option.bind_some, Option.bind_some, comp_f hc (by omega) (by omega), Option.bind_some, bs_toList, bs_toList, e2, beq_self_eq_true]
      by_cases h65 : c ≥ 65
      · rw [if_pos h65]
        by_cases h90 : c ≤ 90
        · rw [if_pos h90]; exact hT
        · rw [if_neg h90]
          by_cases h97 : c ≥ 97
          · rw [if_pos h97]
            by_cases h122 : c ≤ 122
            · rw [decide_eq_true h122]; exact hT
            · rw [decide_eq_false h122]; exact hF (by omega) (by omega)
          · rw [if_neg h97]; exact hF (by omega) (by omega)
      · rw [if_neg h65, if_neg (by omega)]; exact hF (by omega) (by omega)
theorem KeysFolds_walk (a0_0 : Bool) (a0_1 : Bool) (a0_2 : Bool) (a0_3 : Bool) (a0_4 : Int) (a0_5 : Int) (a0_6 : Int) (a1 : ByteArray) (a2 : ByteArray) (W : World) (ok0_4 : (Lit.int .i64 a0_4).wf = true) (ok0_5 : (Lit.int .i64 a0_5).wf = true) (ok0_6 : (Lit.int .u8 a0_6).wf = true) (ok1 : a1.size ≤ 140737488351232) (ok2 : a2.size ≤ 140737488351232) :
    Calls Tryd.prog 10 #[.agg #[.bool a0_0, .bool a0_1, .bool a0_2, .bool a0_3, .int .i64 a0_4, .int .i64 a0_5, .int .u8 a0_6], .string a1, .string a2] W fun e W' => e = .returned (.bool true) ∧ Below W.heap.size W W' :=
  Q.toolchestlaw05_KeysFolds.calls _ a0_0 a0_1 a0_2 a0_3 a0_4 a0_5 a0_6 a1 a2 true W (folds_f _ _ _ _ _ _ _ _ _ (byte_ok ok0_6)).choose_spec
end Go.Proofs.YtbndinaiclkajaaDoor.Pure

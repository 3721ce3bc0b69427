/- LinesAdds: the plain law. -/
import Derived.Test.YtgbhcanfjmefiaaQx14
import Derived.Test.YtgbhcanfjmefiaaAlive
set_option linter.unusedVariables false
set_option linter.unusedSimpArgs false
namespace Go.Proofs.Ytgbhcanfjmefiaa.Pure
open Go.RowKit Go.Proofs.Ytgbhcanfjmefiaa.Q Go.Proofs.YtgbhcanfjmefiaaW.PrintWords Go.Proofs.YtgbhcanfjmefiaaW.PrintLast Go.Proofs.Ytgbhcanfjmefiaa.S

theorem words_len (p : UInt8 → Bool) (l : List UInt8) : wordsL p l ≤ l.length := by
  refine parts_ind p (C := fun l => wordsL p l ≤ l.length) ?_ ?_ l
  · intro l hl
    unfold wordsL splitL
    rw [splitL_one p l hl]
    cases l <;> simp
  · intro l c r hl hc ih
    rw [words_app p l r c hc]
    have : wordsL p l ≤ l.length := by
      unfold wordsL splitL
      rw [splitL_one p l hl]
      cases l <;> simp
    simp only [List.length_append, List.length_cons]
    exact Nat.le_trans (Nat.add_le_add this ih) (Nat.le_of_lt (by rw [← Nat.add_assoc]; exact Nat.lt_succ_self _))
theorem LinesAdds : toolchestlaw02_LinesAdds.Pure := by
  intro a0 a1 h0 h1
  refine ⟨41, ?_⟩
  unfold toolchestlaw02_LinesAdds.f
  rw [alive_ge 41 (by decide), Option.bind_some, if_pos rfl, beyond2_ge 41 _ _ (by decide) (by omega) (by omega) (by omega) (by omega), Option.bind_some]
  simp only [toolchestlaw02_LinesAdds.j0]
  by_cases hb : (a0.size : Int) + (a1.size : Int) > 1048576
  · rw [if_pos (decide_eq_true hb), alive_ge 40 (by decide), Option.bind_some]
  · have n0 : a0.size ≤ 1048576 := by omega
    have n1 : a1.size ≤ 1048576 := by omega
    have hz : ((a0 ++ (⟨#[10]⟩ : ByteArray)) ++ a1).data.toList = a0.data.toList ++ 10 :: a1.data.toList := by
      simp [ByteArray.data_append]
    have hz1 : (a0 ++ (⟨#[10]⟩ : ByteArray)).size = a0.size + 1 := by rw [ByteArray.size_append]; rfl
    have hz2 : ((a0 ++ (⟨#[10]⟩ : ByteArray)) ++ a1).size = a0.size + 1 + a1.size := by rw [ByteArray.size_append, hz1]
    rw [if_neg (by simpa using hb), count_f a0 (by omega), Option.bind_some, count_f a1 (by omega), Option.bind_some, if_pos (by omega), if_pos (by rw [hz1]; omega), count_f _ (by rw [hz2]; omega), Option.bind_some, hz]
    have hl0 : a0.data.toList.length ≤ 1048576 := by rw [← Lib.size_eq]; exact n0
    have hl1 : a1.data.toList.length ≤ 1048576 := by rw [← Lib.size_eq]; exact n1
    generalize a0.data.toList = x at *
    generalize a1.data.toList = y at *
    clear hz hz1 hz2 hb h0 h1 n0 n1
    have c0 : x.count 10 ≤ x.length := List.count_le_length
    have c1 : y.count 10 ≤ y.length := List.count_le_length
    have d0 := words_len idleB x
    have d1 := words_len idleB y
    have e1 : (x ++ 10 :: y).count 10 = x.count 10 + y.count 10 + 1 := by rw [List.count_append, List.count_cons_self]; rfl
    have e2 := words_app idleB x y 10 rfl
    have e3 : (x ++ 10 :: y).length = x.length + y.length + 1 := by rw [List.length_append, List.length_cons]; rfl
    have e4 : longL (splitL isNl (x ++ 10 :: y)) = max (longL (splitL isNl x)) (longL (splitL isNl y)) := by rw [splitL_app isNl x y 10 rfl, longL_app]
    rw [e1, e2, e3, e4]
    clear e1 e2 e3 e4
    generalize x.count 10 = k0 at *
    generalize y.count 10 = k1 at *
    generalize wordsL idleB x = m0 at *
    generalize wordsL idleB y = m1 at *
    generalize x.length = z0 at *
    generalize y.length = z1 at *
    simp only
    rw [wrap_add k0 k1 (by omega), wrap_one (k0 + k1) (by omega), wrap_add m0 m1 (by omega), wrap_add z0 z1 (by omega), wrap_one (z0 + z1) (by omega), mx_of, if_pos rfl, if_pos rfl, if_pos rfl, beq_self_eq_true]
end Go.Proofs.Ytgbhcanfjmefiaa.Pure

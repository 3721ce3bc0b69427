/- What ref05.Number and ref05.bytes answer. -/
import Derived.Test.YtpgpnijdimehlaaDoorQx8
set_option linter.unusedVariables false
namespace Go.Proofs.YtpgpnijdimehlaaDoor.K
open Go.RowKit Go.Proofs.YtpgpnijdimehlaaDoor.H Go.Proofs.YtpgpnijdimehlaaDoorW.PrintWords
theorem bs_list (l : List UInt8) : (bs l).toList = l := by rw [Lib.toList_data, bs_toList]
theorem bytes_f (a b : ByteArray) : Q.toolchestref05_bytes.f a b = some (cmpB a.data.toList b.data.toList) := by
  unfold Q.toolchestref05_bytes.f cmpB
  rw [Lib.toList_data, Lib.toList_data]
  split
  · rfl
  · split <;> rfl
theorem cmpB_nz {a b : List UInt8} (h : ¬ a = b) : ¬ cmpB a b = 0 := by
  unfold cmpB
  intro e
  by_cases h1 : Op.bytesLess a b = true
  · rw [if_pos h1] at e; omega
  · rw [if_neg h1] at e
    by_cases h2 : Op.bytesLess b a = true
    · rw [if_pos h2] at e; omega
    · exact h (less_total a b (by simpa using h1) (by simpa using h2))
theorem cmpB_self (a : List UInt8) : cmpB a a = 0 := by unfold cmpB; rw [less_irrefl]; rfl
theorem mul_wrap {x y : Int} (hx : x = -1 ∨ x = 0 ∨ x = 1) (hy : y = -1 ∨ y = 0 ∨ y = 1) : wrap64 (x * y) = y * x := by
  rcases hx with h | h | h <;> rcases hy with g | g | g <;> rw [h, g] <;> (unfold wrap64; omega)
theorem cmpB_one (a b : List UInt8) : cmpB a b = -1 ∨ cmpB a b = 0 ∨ cmpB a b = 1 := by
  unfold cmpB; split
  · exact .inl rfl
  · split
    · exact .inr (.inr rfl)
    · exact .inr (.inl rfl)
theorem refNumber_f (a b : ByteArray) (ha : a.size ≤ 4611686018427387) (hb : b.size ≤ 4611686018427387) : Q.toolchestref05_Number.f a b = some (numC a.data.toList b.data.toList) := by
  unfold Q.toolchestref05_Number.f Q.toolchestref05_Of.f
  rw [if_pos ha, if_pos hb, Option.bind_some, Option.bind_some]
  have hsx := numL_sign a.data.toList
  have hsy := numL_sign b.data.toList
  unfold numC
  generalize numL a.data.toList = x at hsx ⊢
  generalize numL b.data.toList = y at hsy ⊢
  dsimp only
  rw [bs_list, bs_list, bytes_f, bytes_f, bs_toList, bs_toList, bs_toList, bs_toList, bs_size, bs_size]
  unfold cmpN cmpW
  by_cases h1 : x.sign = y.sign
  · rw [if_pos h1, show cmpI x.sign y.sign = 0 by rw [h1]; unfold cmpI; simp]
    unfold orC
    rw [if_pos rfl]
    by_cases h2 : (x.whole.length : Int) = (y.whole.length : Int)
    · rw [if_pos h2, show cmpI (x.whole.length : Int) (y.whole.length : Int) = 0 by rw [h2]; unfold cmpI; simp, if_pos rfl]
      by_cases h3 : x.whole = y.whole
      · rw [if_pos h3, Option.bind_some, mul_wrap (cmpB_one _ _) hsx, if_pos (by rw [h3]; exact cmpB_self _)]
      · rw [if_neg h3, Option.bind_some, mul_wrap (cmpB_one _ _) hsx, if_neg (cmpB_nz h3)]
    · rw [if_neg h2]
      have hne : ¬ cmpI (x.whole.length : Int) (y.whole.length : Int) = 0 := by
        unfold cmpI; split
        · decide
        · split
          · decide
          · omega
      rw [if_neg hne]
      by_cases h4 : (x.whole.length : Int) < (y.whole.length : Int)
      · rw [if_pos h4, mul_wrap (.inl rfl) hsx]
        unfold cmpI; rw [if_pos h4]
      · rw [if_neg h4, mul_wrap (.inr (.inr rfl)) hsx]
        unfold cmpI; rw [if_neg h4, if_pos (by omega)]
  · rw [if_neg h1]
    have hne : ¬ cmpI x.sign y.sign = 0 := by
      unfold cmpI; split
      · decide
      · split
        · decide
        · omega
    unfold orC
    rw [if_neg hne]
    unfold cmpI
    by_cases h4 : x.sign < y.sign
    · rw [if_pos h4, if_pos h4]
    · rw [if_neg h4, if_neg h4, if_pos (by omega)]
end Go.Proofs.YtpgpnijdimehlaaDoor.K

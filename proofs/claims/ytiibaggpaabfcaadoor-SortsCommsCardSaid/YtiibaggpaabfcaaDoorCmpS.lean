/- cmp.Compare of texts. -/
import Derived.Test.YtiibaggpaabfcaaDoorShelf
import Derived.Test.YtiibaggpaabfcaaDoorHelp
set_option linter.unusedVariables false
set_option linter.unusedSimpArgs false
namespace Go.Proofs.YtiibaggpaabfcaaDoor.K
open Go.RowKit Go.Proofs Go.Proofs.YtiibaggpaabfcaaDoorW.PrintWords Go.Proofs.YtiibaggpaabfcaaDoor.H

def cmpB (a b : List UInt8) : Int := if Op.bytesLess a b = true then -1 else if Op.bytesLess b a = true then 1 else 0
theorem less_irrefl : ∀ a : List UInt8, Op.bytesLess a a = false
  | [] => rfl
  | a :: x => by
    have := less_irrefl x
    simp [Op.bytesLess, this]
theorem less_total : ∀ a b : List UInt8, Op.bytesLess a b = false → Op.bytesLess b a = false → a = b
  | [], [] => fun _ _ => rfl
  | _ :: _, [] => fun _ h => by simp [Op.bytesLess] at h
  | [], _ :: _ => fun h _ => by simp [Op.bytesLess] at h
  | a :: x, b :: y => fun h k => by
    simp only [Op.bytesLess, Bool.or_eq_false_iff, decide_eq_false_iff_not, Bool.and_eq_false_iff, beq_eq_false_iff_ne] at h k
    have e : a = b := by
      rcases UInt8.lt_or_eq_of_le (UInt8.not_lt.1 h.1) with h' | h'
      · exact absurd h' k.1
      · exact h'.symm
    subst e
    rcases h.2 with h2 | h2
    · exact absurd rfl h2
    · rcases k.2 with k2 | k2
      · exact absurd rfl k2
      · rw [less_total x y h2 k2]
theorem str_gtr (t : TypeId) (a b : ByteArray) : binOp .gtr t (.string a) (.string b) = pure (.bool !(Op.bytesLess a.toList b.toList || a.toList == b.toList)) := by simp [binOp, Op.stringOp]
attribute [local go_sem] str_gtr
set_option maxHeartbeats 1000000 in
theorem compareS_walk (a b : ByteArray) (w : World) :
    Calls Tryd.prog 19 #[.string a, .string b] w fun e w' => e = .returned (.int .i64 (cmpB a.data.toList b.data.toList)) ∧ w' = w := by
  have hs : ∀ x : ByteArray, (!(x.toList == x.toList)) = false := by intro x; simp
  unfold cmpB
  rw [← Lib.toList_data, ← Lib.toList_data]
  cases h1 : Op.bytesLess a.toList b.toList with
  | true =>
    go_enter Tryd.func19, Tryd.ntmps19
    go_wp2
    go_ret
    exact ⟨rfl, rfl⟩
  | false =>
    cases h2 : Op.bytesLess b.toList a.toList with
    | true =>
      have h3 : (a.toList == b.toList) = false := by
        rw [beq_eq_false_iff_ne]
        intro e
        rw [e, less_irrefl] at h2; cases h2
      go_enter Tryd.func19, Tryd.ntmps19
      go_wp2
      go_ret
      exact ⟨rfl, rfl⟩
    | false =>
      have h3 : (a.toList == b.toList) = true := by
        rw [beq_iff_eq]
        exact less_total _ _ h1 h2
      go_enter Tryd.func19, Tryd.ntmps19
      go_wp2
      go_ret
      exact ⟨rfl, rfl⟩
end Go.Proofs.YtiibaggpaabfcaaDoor.K

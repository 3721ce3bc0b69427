/- SameTexts says of a list and itself that they are the same. -/
import Derived.Test.YtlicjpbmlmongaaDoorQx3
import Derived.Test.YtlicjpbmlmongaaDoorEvs
set_option linter.unusedVariables false
set_option linter.unusedSimpArgs false
namespace Go.Proofs.YtlicjpbmlmongaaDoor.P
open Go.RowKit Go.Proofs.YtlicjpbmlmongaaDoor.Q Go.Proofs.YtlicjpbmlmongaaDoorW.PrintWords Go.Proofs.YtlicjpbmlmongaaDoorW.PrintLast

theorem same_loop (l : List ByteArray) (hl : l.length ≤ 2000000) : ∀ (d i : Nat), i + d = l.length → Ev (fun k => toolchestlaw01_SameTexts.l0 k l l (i : Int)) true := by
  intro d
  induction d with
  | zero =>
    intro i hi
    refine Ev.now fun k => ?_
    simp only [toolchestlaw01_SameTexts.l0]
    rw [if_neg (not_nat_lt (by omega))]
  | succ d ih =>
    intro i hi
    have hlt : i < l.length := by omega
    have hw := wrap_one i (by omega)
    refine (ih (i + 1) (by omega)).step fun k hk => ?_
    simp only [toolchestlaw01_SameTexts.l0]
    rw [if_pos (nat_lt hlt), if_pos (nat_nn i), if_pos (nat_lt hlt), if_pos trivial, hw]
    exact hk
theorem same_self (l : List ByteArray) (hl : l.length ≤ 2000000) : Ev (fun k => toolchestlaw01_SameTexts.f k l l) true := by
  obtain ⟨k0, hk⟩ := same_loop l hl l.length 0 (Nat.zero_add _)
  refine ⟨k0, fun k h => ?_⟩
  show toolchestlaw01_SameTexts.f k l l = some true
  unfold toolchestlaw01_SameTexts.f
  rw [if_pos rfl]
  exact hk k h
end Go.Proofs.YtlicjpbmlmongaaDoor.P

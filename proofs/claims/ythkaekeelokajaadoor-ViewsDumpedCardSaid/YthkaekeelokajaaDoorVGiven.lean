/- What the printed walks take of the library: how often a byte stands in a text. -/
import Derived.Test.YthkaekeelokajaaDoorShelf
import Derived.Test.YthkaekeelokajaaDoorWMore
set_option linter.unusedVariables false
namespace Go.Proofs.YthkaekeelokajaaDoor.Q
open Go.RowKit Go.Proofs.YthkaekeelokajaaDoorW.PrintWords

def strings_Count.f (a0 : ByteArray) (a1 : ByteArray) : Option (Int) := match a1.data.toList with
  | [c] => some ((Lib.countByte a0.data.toList c : Nat) : Int)
  | _ => none
theorem strings_Count.calls (a0 : ByteArray) (a1 : ByteArray) (r : Int) (w : World) (h : strings_Count.f a0 a1 = some r) :
    Calls Tryd.prog 95 #[.string a0, .string a1] w fun e w' => e = .returned (.int .i64 r) ∧ Below w.heap.size w w' := by
  unfold strings_Count.f at h
  split at h
  · rename_i c hc
    obtain rfl : a1 = ⟨#[c]⟩ := by
      obtain ⟨⟨l⟩⟩ := a1
      simp at hc
      subst hc; rfl
    obtain rfl := Option.some.inj h
    exact (Tryd.strings_Count_one a0 c w).mono fun e w' ⟨h1, h2⟩ => ⟨h1, h2 ▸ Below.refl _ _⟩
  · cases h
end Go.Proofs.YthkaekeelokajaaDoor.Q

/- strings.Repeat of a blank. -/
import Derived.Test.YtkedjlekeohpaaaGreatDoorShelf
import Derived.Test.YtkedjlekeohpaaaGreatDoorHelp
set_option linter.unusedVariables false
set_option linter.unusedSimpArgs false
namespace Go.Proofs.YtkedjlekeohpaaaGreatDoor.C
open Go.RowKit Go.Proofs Go.Proofs.YtkedjlekeohpaaaGreatDoor.H Go.Proofs.YtkedjlekeohpaaaGreatDoorW.PrintWords

theorem rep_list : ∀ c, Lib.repeatL [(32 : UInt8)] c = List.replicate c 32
  | 0 => rfl
  | c + 1 => by
    show [(32 : UInt8)] ++ Lib.repeatL [32] c = _
    rw [rep_list c]; rfl
/-- So many blanks. -/
def spaces (c : Nat) : ByteArray := ⟨(List.replicate c (32 : UInt8)).toArray⟩
theorem spaces_size (c : Nat) : (spaces c).size = c := by rw [Lib.size_eq]; simp [spaces]
theorem rep_calls (x : Int) (c : Nat) (hx : x = (c : Int)) (w : World) (hc : c ≤ 1000000) : Calls Tryz.prog 17 #[.string ⟨#[32]⟩, .int .i64 x] w fun e w' => e = .returned (.string (spaces c)) ∧ Below w.heap.size w w' := by
  subst hx
  refine (Tryz.strings_Repeat ⟨#[32]⟩ c w (by omega) (by show 1 * c ≤ _; omega)).mono ?_
  rintro e w' ⟨rfl, hb⟩
  refine ⟨?_, hb⟩
  show Ending.returned (Value.string ⟨(Lib.repeatL [32] c).toArray⟩) = _
  rw [rep_list]; rfl
end Go.Proofs.YtkedjlekeohpaaaGreatDoor.C

/- What the printed walks take of the functions that were walked by hand. -/
import Derived.Test.YtgbhcanfjmefiaaDoorFields
set_option linter.unusedVariables false
set_option linter.unusedSimpArgs false
namespace Go.Proofs.YtgbhcanfjmefiaaDoor.Q
open Go.RowKit Go.Proofs.YtgbhcanfjmefiaaDoorW.PrintWords Go.Proofs.YtgbhcanfjmefiaaDoor.H Go.Proofs.YtgbhcanfjmefiaaDoor.S

def lines_Split.f (a0 : ByteArray) : Option (List ByteArray × Bool) := if a0.size ≤ 8796093022000 then some (splitOf a0) else none
theorem lines_Split.calls (a0 : ByteArray) (r1 : List ByteArray) (r2 : Bool) (w : World) (h : lines_Split.f a0 = some (r1, r2)) :
    Calls Tryd.prog 5 #[.string a0] w fun e w' => ∃ v0_ : Value, e = .returned (.tuple #[v0_, .bool r2]) ∧ Kd.R Kd.string 9 w' w.heap.size (fun _ => True) v0_ r1 ∧ Below w.heap.size w w' := by
  unfold lines_Split.f at h
  split at h
  · rename_i hl
    have h' := Option.some.inj h
    have e1 : (splitOf a0).1 = r1 := by rw [h']
    have e2 : (splitOf a0).2 = r2 := by rw [h']
    subst e1 e2
    exact (split_calls a0 hl w).mono fun e w' ⟨v, h1, h2, h3⟩ => ⟨v, h1, R_of_own h2, h3⟩
  · cases h
def lines_Fields.f (a0 : ByteArray) (a1 : Int) : Option (List ByteArray) := if a0.size ≤ 8796093022000 then some (fieldsOf a0 a1) else none
theorem lines_Fields.calls (a0 : ByteArray) (a1 : Int) (r : List ByteArray) (w : World) (h : lines_Fields.f a0 a1 = some r) :
    Calls Tryd.prog 6 #[.string a0, .int .u8 a1] w fun e w' => ∃ v0_ : Value, e = .returned (v0_) ∧ Kd.R Kd.string 9 w' w.heap.size (fun _ => True) v0_ r ∧ Below w.heap.size w w' := by
  unfold lines_Fields.f at h
  split at h
  · rename_i hl
    have h' := Option.some.inj h
    subst h'
    exact (callsIn_wide.1 (fields_in Fence.wide 10 trivial trivial trivial trivial trivial trivial trivial rfl (by omega) a0 a1 hl w)).mono fun e w' ⟨v, h1, h2, h3⟩ => ⟨v, h1, R_of_own h2, h3⟩
  · cases h
end Go.Proofs.YtgbhcanfjmefiaaDoor.Q

/- What the printed walks take of the functions that were walked by hand. -/
import Derived.Test.YtgbhcanfjmefiaaFields
set_option linter.unusedVariables false
set_option linter.unusedSimpArgs false
namespace Go.Proofs.Ytgbhcanfjmefiaa.Q
open Go.RowKit Go.Proofs.YtgbhcanfjmefiaaW.PrintWords Go.Proofs.Ytgbhcanfjmefiaa.H Go.Proofs.Ytgbhcanfjmefiaa.S

def lines_Split.f (a0 : ByteArray) : Option (List ByteArray × Bool) := if a0.size ≤ 8796093022000 then some (splitOf a0) else none
theorem lines_Split.calls (a0 : ByteArray) (r1 : List ByteArray) (r2 : Bool) (w : World) (h : lines_Split.f a0 = some (r1, r2)) :
    Calls Try.prog 30 #[.string a0] w fun e w' => ∃ v0_ : Value, e = .returned (.tuple #[v0_, .bool r2]) ∧ Kd.R Kd.string 9 w' w.heap.size (fun _ => True) v0_ r1 ∧ Below w.heap.size w w' := by
  unfold lines_Split.f at h
  split at h
  · rename_i hl
    have h' := Option.some.inj h
    have e1 : (splitOf a0).1 = r1 := by rw [h']
    have e2 : (splitOf a0).2 = r2 := by rw [h']
    subst e1 e2
    exact (split_calls a0 hl w).mono fun e w' ⟨v, h1, h2, h3⟩ => ⟨v, h1, R_of_own h2, h3⟩
  · cases h
def lines_Count.f (a0 : ByteArray) : Option (Int × Int × Int × Int) := if a0.size ≤ 8796093022000 then some ((Lib.countByte a0.data.toList 10 : Nat), ((runsOf (fun b => idleI (b.toNat : Int)) a0).length : Nat), (a0.size : Nat), longestOf (splitOf a0).1) else none
theorem lines_Count.calls (a0 : ByteArray) (r1 : Int) (r2 : Int) (r3 : Int) (r4 : Int) (w : World) (h : lines_Count.f a0 = some (r1, r2, r3, r4)) :
    Calls Try.prog 26 #[.string a0] w fun e w' => e = .returned (.tuple #[.int .i64 r1, .int .i64 r2, .int .i64 r3, .int .i64 r4]) ∧ Below w.heap.size w w' := by
  unfold lines_Count.f at h
  split at h
  · rename_i hl
    have h' := Option.some.inj h
    simp only [Prod.mk.injEq] at h'
    obtain ⟨rfl, rfl, rfl, rfl⟩ := h'
    exact count_walk a0 hl w
  · cases h
def lines_Fields.f (a0 : ByteArray) (a1 : Int) : Option (List ByteArray) := if a0.size ≤ 8796093022000 then some (fieldsOf a0 a1) else none
theorem lines_Fields.calls (a0 : ByteArray) (a1 : Int) (r : List ByteArray) (w : World) (h : lines_Fields.f a0 a1 = some r) :
    Calls Try.prog 29 #[.string a0, .int .u8 a1] w fun e w' => ∃ v0_ : Value, e = .returned (v0_) ∧ Kd.R Kd.string 9 w' w.heap.size (fun _ => True) v0_ r ∧ Below w.heap.size w w' := by
  unfold lines_Fields.f at h
  split at h
  · rename_i hl
    have h' := Option.some.inj h
    subst h'
    exact (callsIn_wide.1 (fields_in Fence.wide 10 trivial trivial trivial trivial trivial trivial trivial rfl (by omega) a0 a1 hl w)).mono fun e w' ⟨v, h1, h2, h3⟩ => ⟨v, h1, R_of_own h2, h3⟩
  · cases h
def strings_IndexByte.f (a0 : ByteArray) (a1 : Int) : Option (Int) := some (Lib.indexByte a0.data.toList a1.toNat.toUInt8)
theorem strings_IndexByte.calls (a0 : ByteArray) (a1 : Int) (r : Int) (w : World) (h : strings_IndexByte.f a0 a1 = some r) :
    Calls Try.prog 45 #[.string a0, .int .u8 a1] w fun e w' => e = .returned (.int .i64 r) ∧ Below w.heap.size w w' := by
  obtain rfl := Option.some.inj h
  exact (Try.strings_IndexByte a0 a1 w).mono fun e w' ⟨h1, h2⟩ => ⟨h1, h2 ▸ Below.refl _ _⟩
end Go.Proofs.Ytgbhcanfjmefiaa.Q

/- alive tells true, and Beyond with more rounds than it needs. -/
import Derived.Test.YtgbhcanfjmefiaaQx13
import Derived.Test.YtgbhcanfjmefiaaPlain
import Derived.Test.YtgbhcanfjmefiaaSizes
import Derived.KernelRfl
set_option linter.unusedVariables false
set_option linter.unusedSimpArgs false
namespace Go.Proofs.Ytgbhcanfjmefiaa.Pure
open Go.RowKit Go.Proofs.Ytgbhcanfjmefiaa.Q Go.Proofs.YtgbhcanfjmefiaaW.PrintWords Go.Proofs.YtgbhcanfjmefiaaW.PrintLast Go.Proofs.Ytgbhcanfjmefiaa.S

theorem alive_at : toolchestlaw02_alive.f 40 = some true := by kernel_rfl
theorem alive_more (j : Nat) : toolchestlaw02_alive.f (40 + j) = some true := by
  induction j with
  | zero => exact alive_at
  | succ j ih => exact (toolchestlaw02_alive.mono (40 + j)) _ ih
theorem alive_ge (k : Nat) (h : 40 ≤ k) : toolchestlaw02_alive.f k = some true := by
  obtain ⟨j, rfl⟩ : ∃ j, k = 40 + j := ⟨k - 40, by omega⟩
  exact alive_more j
theorem beyond_ge (k : Nat) (n : Int) (hk : 2 ≤ k) (h0 : 0 ≤ n) (h1 : n ≤ 4611686018427387904) : toolchestlaw01_Beyond.f k [n] = some (decide (n > 1048576)) := by
  obtain ⟨j, rfl⟩ : ∃ j, k = 2 + j := ⟨k - 2, by omega⟩
  clear hk
  induction j with
  | zero => exact beyond_one n h0 h1
  | succ j ih => exact (toolchestlaw01_Beyond.mono [n] (2 + j)) _ ih
theorem beyond2_ge (k : Nat) (n m : Int) (hk : 3 ≤ k) (h0 : 0 ≤ n) (h1 : n ≤ 4611686018427387) (g0 : 0 ≤ m) (g1 : m ≤ 4611686018427387) : toolchestlaw01_Beyond.f k [n, m] = some (decide (n + m > 1048576)) := by
  obtain ⟨j, rfl⟩ : ∃ j, k = 3 + j := ⟨k - 3, by omega⟩
  clear hk
  induction j with
  | zero => exact beyond_two n m h0 h1 g0 g1
  | succ j ih => exact (toolchestlaw01_Beyond.mono [n, m] (3 + j)) _ ih
theorem cz_of (i : Nat) : ((i : Int) = 0) ↔ i = 0 := by omega
theorem mx_of (a b : Nat) : mx (a : Int) (b : Int) = ((max a b : Nat) : Int) := by unfold mx; omega
theorem wrap_add (a b : Nat) (h : a + b ≤ 4000000000) : wrap64 ((a : Int) + (b : Int)) = ((a + b : Nat) : Int) := by unfold wrap64; omega
theorem wrap_one (a : Nat) (h : a ≤ 4000000000) : wrap64 ((a : Int) + 1) = ((a + 1 : Nat) : Int) := by unfold wrap64; omega
def idleB (b : UInt8) : Bool := idleI (b.toNat : Int)
/-- What Count tells, over lists of bytes. -/
theorem count_f (s : ByteArray) (hs : s.size ≤ 8796093022000) : lines_Count.f s = some (((s.data.toList.count 10 : Nat) : Int), ((wordsL idleB s.data.toList : Nat) : Int), ((s.data.toList.length : Nat) : Int), ((longL (splitL isNl s.data.toList) : Nat) : Int)) := by
  unfold lines_Count.f
  have e1 : Lib.countByte s.data.toList 10 = s.data.toList.count 10 := rfl
  have e2 : (runsOf (fun b => idleI (b.toNat : Int)) s).length = wordsL idleB s.data.toList := by rw [runsOf_spl, List.length_map]; rfl
  have e4 : longestOf (splitOf s).1 = (longL (splitL isNl s.data.toList) : Int) := by rw [splitOf_lines, longest_bs, long_lines]
  rw [if_pos hs, e1, e2, e4, ← Lib.size_eq]
theorem split_f (s : ByteArray) (hs : s.size ≤ 8796093022000) : lines_Split.f s = some ((linesL s.data.toList).map bs, (splitOf s).2) := by
  unfold lines_Split.f
  rw [if_pos hs, ← splitOf_lines]
end Go.Proofs.Ytgbhcanfjmefiaa.Pure

/- What TextsSize and Beyond tell of a list of texts: over numbers alone (TextsSize alone). -/
import Derived.Test.YtlicjpbmlmongaaDoorQx2

set_option linter.unusedVariables false
set_option linter.unusedSimpArgs false
namespace Go.Proofs.YtlicjpbmlmongaaDoor.Q
open Go.RowKit Go.Proofs.YtlicjpbmlmongaaDoorW.PrintWords Go.Proofs.YtlicjpbmlmongaaDoorW.PrintLast

/-- How much texts have in them. -/
def textsN (l : List ByteArray) : Nat := l.length + (l.map (·.size)).sum

theorem textsSize_loop (l : List ByteArray) (hl : ∀ s ∈ l, s.size ≤ 140737488351232) (hn : l.length ≤ 140737488351232) (d : Nat) : ∀ (k i : Nat) (n : Int), i + d = l.length → d < k → 0 ≤ n → n ≤ 140737488351232 + 1048576 → (i = 0 → n = l.length) →
    ∃ r, toolchestlaw01_TextsSize.l0 k l n i = some r ∧ 0 ≤ r ∧ r ≤ 140737488351232 + 1048576 ∧ (r ≤ 1048576 → r = n + (((l.drop i).map (·.size)).sum : Nat)) := by
  induction d with
  | zero =>
    intro k i n hi hk h0 h1 h2
    obtain ⟨k, rfl⟩ : ∃ m, k = m + 1 := ⟨k - 1, by omega⟩
    refine ⟨n, ?_, h0, h1, fun _ => ?_⟩
    · simp only [toolchestlaw01_TextsSize.l0]; rw [if_neg (by omega)]
    · rw [List.drop_of_length_le (by omega)]; simp
  | succ d ih =>
    intro k i n hi hk h0 h1 h2
    obtain ⟨k, rfl⟩ : ∃ m, k = m + 1 := ⟨k - 1, by omega⟩
    simp only [toolchestlaw01_TextsSize.l0]
    rw [if_pos (by omega)]
    by_cases hc : n ≤ 1048576
    · rw [if_pos hc, if_pos (by omega)]
      have hlt : i < l.length := by omega
      have hs := hl l[i] (List.getElem_mem hlt)
      have e : rdOf ByteArray.empty l (i : Int) = l[i] := by simp [rdOf, List.getD_eq_getElem?_getD, List.getElem?_eq_getElem hlt]
      have w1 : wrap64 (n + (l[i].size : Int)) = n + l[i].size := by unfold wrap64; omega
      have w2 : wrap64 ((i : Int) + 1) = ((i + 1 : Nat) : Int) := by unfold wrap64; omega
      rw [e, w1, w2]
      obtain ⟨r, hr, r0, r1, r2⟩ := ih k (i + 1) (n + l[i].size) (by omega) (by omega) (by omega) (by omega) (by omega)
      refine ⟨r, hr, r0, r1, fun h => ?_⟩
      rw [r2 h, List.drop_eq_getElem_cons hlt, List.map_cons, List.sum_cons]
      omega
    · rw [if_neg hc]
      exact ⟨n, rfl, h0, h1, fun h => absurd h hc⟩

theorem textsSize_tells (l : List ByteArray) (hl : ∀ s ∈ l, s.size ≤ 140737488351232) (hn : l.length ≤ 140737488351232) :
    ∃ r, toolchestlaw01_TextsSize.f (l.length + 1) l = some r ∧ 0 ≤ r ∧ r ≤ 140737488351232 + 1048576 ∧ (r ≤ 1048576 → r = (textsN l : Int)) := by
  obtain ⟨r, hr, r0, r1, r2⟩ := textsSize_loop l hl hn l.length (l.length + 1) 0 l.length (by omega) (by omega) (by omega) (by omega) (by omega)
  exact ⟨r, hr, r0, r1, fun h => by rw [r2 h]; simp [textsN]⟩

end Go.Proofs.YtlicjpbmlmongaaDoor.Q

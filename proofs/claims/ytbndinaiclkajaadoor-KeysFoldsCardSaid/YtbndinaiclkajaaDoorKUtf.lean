/- What a rune that is no ASCII one has read: bytes from 128 on. -/
import Derived.Laws.RangeAny
import Derived.Lib.IndexAny
set_option linter.unusedVariables false
set_option linter.unusedSimpArgs false
namespace Go.Proofs.YtbndinaiclkajaaDoor.K

theorem get_pos (s : ByteArray) (j : Nat) (h : j < s.size) : s.get! j = s[j]'h := by
  simp [ByteArray.get!, getElem!_pos, h]
  rfl
theorem decode_bytes (s : ByteArray) (pos : Nat) (h : pos < s.size) (ha : 128 ≤ (s[pos]'h).toNat) :
    pos + (Utf8.decode s pos).2 ≤ s.size ∧ ∀ j, pos ≤ j → j < pos + (Utf8.decode s pos).2 → 128 ≤ (s.get! j).toNat := by
  have hn : ¬ (s[pos]'h).toNat < 128 := by omega
  have h0 : 128 ≤ (s.get! pos).toNat := by rw [get_pos s pos h]; exact ha
  have one : pos + 1 ≤ s.size ∧ ∀ j, pos ≤ j → j < pos + 1 → 128 ≤ (s.get! j).toNat := by
    refine ⟨by omega, fun j h1 h2 => ?_⟩
    obtain rfl : j = pos := by omega
    exact h0
  have cont : ∀ k, (decide (pos + k < s.size) && (s.get! (pos + k)).toNat / 64 == 2) = true → pos + k < s.size ∧ 128 ≤ (s.get! (pos + k)).toNat := by
    intro k hk
    simp only [Bool.and_eq_true, decide_eq_true_eq, beq_iff_eq] at hk
    omega
  simp only [Utf8.decode, get_at s pos h, hn, if_false]
  split
  · rename_i h1
    rw [Bool.and_eq_true] at h1
    have c1 := cont 1 h1.2
    split
    · refine ⟨by show pos + 2 ≤ _; omega, fun j h2 h3 => ?_⟩
      have h3' : j < pos + 2 := h3
      rcases (show j = pos ∨ j = pos + 1 by omega) with rfl | rfl
      · exact h0
      · exact c1.2
    · exact one
  · split
    · rename_i h1
      simp only [Bool.and_eq_true] at h1
      have c1 := cont 1 (by simpa only [Bool.and_eq_true] using h1.1.2)
      have c2 := cont 2 (by simpa only [Bool.and_eq_true] using h1.2)
      split
      · refine ⟨by show pos + 3 ≤ _; omega, fun j h2 h3 => ?_⟩
        have h3' : j < pos + 3 := h3
        rcases (show j = pos ∨ j = pos + 1 ∨ j = pos + 2 by omega) with rfl | rfl | rfl
        · exact h0
        · exact c1.2
        · exact c2.2
      · exact one
    · split
      · rename_i h1
        simp only [Bool.and_eq_true] at h1
        have c1 := cont 1 (by simpa only [Bool.and_eq_true] using h1.1.1.2)
        have c2 := cont 2 (by simpa only [Bool.and_eq_true] using h1.1.2)
        have c3 := cont 3 (by simpa only [Bool.and_eq_true] using h1.2)
        split
        · refine ⟨by show pos + 4 ≤ _; omega, fun j h2 h3 => ?_⟩
          have h3' : j < pos + 4 := h3
          rcases (show j = pos ∨ j = pos + 1 ∨ j = pos + 2 ∨ j = pos + 3 by omega) with rfl | rfl | rfl | rfl
          · exact h0
          · exact c1.2
          · exact c2.2
          · exact c3.2
        · exact one
      · exact one
/-- None of the bytes of such a rune is an ASCII one that is looked for. -/
theorem noAny_rune (s : ByteArray) (chars : List UInt8) (hc : ∀ c ∈ chars, c.toNat < 128) (pos : Nat) (h : pos < s.size) (ha : 128 ≤ (s[pos]'h).toNat) (hn : Lib.NoAny s.data.toList chars pos) :
    Lib.NoAny s.data.toList chars (pos + (Utf8.decode s pos).2) := by
  intro j b hj hb
  by_cases h1 : j < pos
  · exact hn j b h1 hb
  · have hlt := (List.getElem?_eq_some_iff.1 hb).1
    have hjs : j < s.size := by rw [Array.length_toList] at hlt; exact hlt
    have h2 := (decode_bytes s pos h ha).2 j (by omega) hj
    rw [get_pos s j hjs] at h2
    have e : s[j] = b := (List.getElem?_eq_some_iff.1 hb).2
    rw [e] at h2
    cases hcb : chars.contains b
    · rfl
    · have := hc b (List.contains_iff_mem.1 hcb)
      omega
end Go.Proofs.YtbndinaiclkajaaDoor.K

/- Rounds that suffice, untold how many; bytes of lines. -/
import Derived.Test.YtgbhcanfjmefiaaAlive
import Derived.Test.YtgbhcanfjmefiaaWMore
set_option linter.unusedVariables false
set_option linter.unusedSimpArgs false
namespace Go.Proofs.Ytgbhcanfjmefiaa.Pure
open Go.RowKit Go.Proofs.YtgbhcanfjmefiaaW.PrintWords Go.Proofs.YtgbhcanfjmefiaaW.PrintLast Go.Proofs.Ytgbhcanfjmefiaa.S

/-- With rounds enough, g tells r. -/
def Ev {α : Type} (g : Nat → Option α) (r : α) : Prop := ∃ k0, ∀ k, k0 ≤ k → g k = some r
theorem Ev.step {α : Type} {g G : Nat → Option α} {r : α} (h : Ev g r) (hg : ∀ k, g k = some r → G (k + 1) = some r) : Ev G r := by
  obtain ⟨k0, hk⟩ := h
  refine ⟨k0 + 1, fun k hk1 => ?_⟩
  obtain ⟨j, rfl⟩ : ∃ j, k = j + 1 := ⟨k - 1, by omega⟩
  exact hg j (hk j (by omega))
theorem Ev.now {α : Type} {G : Nat → Option α} {r : α} (hg : ∀ k, G (k + 1) = some r) : Ev G r := by
  refine ⟨1, fun k hk1 => ?_⟩
  obtain ⟨j, rfl⟩ : ∃ j, k = j + 1 := ⟨k - 1, by omega⟩
  exact hg j
theorem Ev.and {α β : Type} {g : Nat → Option α} {h : Nat → Option β} {r : α} {s : β} (x : Ev g r) (y : Ev h s) : ∃ k0, ∀ k, k0 ≤ k → g k = some r ∧ h k = some s := by
  obtain ⟨a, ha⟩ := x
  obtain ⟨b, hb⟩ := y
  exact ⟨max a b, fun k hk => ⟨ha k (by omega), hb k (by omega)⟩⟩

theorem rdOf_at (l : List ByteArray) (i : Nat) (h : i < l.length) : rdOf ByteArray.empty l (i : Int) = l[i] := by simp [rdOf, List.getD_eq_getElem?_getD, List.getElem?_eq_getElem h]
theorem bt_list (s : ByteArray) (i : Nat) (h : i < s.data.toList.length) : bt s (i : Int) = ((s.data.toList[i]).toNat : Int) := by
  have h' : i < s.size := by rw [Lib.size_eq]; exact h
  unfold bt
  rw [dif_pos (by simpa using h')]
  rfl
theorem nat_lt {a b : Nat} (h : a < b) : (a : Int) < (b : Int) := by omega
theorem not_nat_lt {a b : Nat} (h : ¬ a < b) : ¬ (a : Int) < (b : Int) := by omega
theorem nat_nn (a : Nat) : (0 : Int) ≤ (a : Int) := by omega

theorem splitL_len (p : UInt8 → Bool) (l : List UInt8) : (splitL p l).length ≤ l.length + 1 := by
  refine parts_ind p (C := fun l => (splitL p l).length ≤ l.length + 1) ?_ ?_ l
  · intro l hl
    unfold splitL
    rw [splitL_one p l hl]
    simp
  · intro l c r hl hc ih
    rw [splitL_app p l r c hc]
    have : (splitL p l).length = 1 := by unfold splitL; rw [splitL_one p l hl]; rfl
    simp only [List.length_append, List.length_cons, this]
    omega
theorem linesL_len (l : List UInt8) : (linesL l).length ≤ l.length + 1 := by
  unfold linesL
  split
  · simp
  · refine Nat.le_trans (splitL_len _ _) ?_
    have : (Lib.trimSuffix l [10]).length ≤ l.length := by unfold Lib.trimSuffix; split <;> simp
    omega
theorem linesL_none (l x : List UInt8) (h : x ∈ linesL l) : ∀ c ∈ x, isNl c = false := by
  unfold linesL at h
  split at h
  · cases h
  · exact splitL_none _ _ x h
theorem splitL_le (p : UInt8 → Bool) (l : List UInt8) : ∀ x ∈ splitL p l, x.length ≤ l.length := by
  refine parts_ind p (C := fun l => ∀ x ∈ splitL p l, x.length ≤ l.length) ?_ ?_ l
  · intro l hl x hx
    unfold splitL at hx
    rw [splitL_one p l hl] at hx
    simp at hx
    rw [hx]; exact Nat.le_refl _
  · intro l c r hl hc ih x hx
    rw [splitL_app p l r c hc] at hx
    rcases List.mem_append.1 hx with h | h
    · unfold splitL at h
      rw [splitL_one p l hl] at h
      simp at h
      rw [h]; simp
    · have := ih x h
      simp only [List.length_append, List.length_cons]
      omega
theorem linesL_le (l : List UInt8) : ∀ x ∈ linesL l, x.length ≤ l.length := by
  intro x hx
  unfold linesL at hx
  split at hx
  · cases hx
  · have h1 := splitL_le _ _ x hx
    have : (Lib.trimSuffix l [10]).length ≤ l.length := by unfold Lib.trimSuffix; split <;> simp
    omega
/-- Lines, each with its end. -/
def endsL (ls : List (List UInt8)) : List UInt8 := ls.flatMap fun x => x ++ [10]
theorem ends_split (l : List UInt8) : endsL (splitL isNl l) = l ++ [10] := by
  refine parts_ind isNl (C := fun l => endsL (splitL isNl l) = l ++ [10]) ?_ ?_ l
  · intro l hl
    unfold splitL
    rw [splitL_one isNl l hl]
    simp [endsL]
  · intro l c r hl hc ih
    rw [splitL_app isNl l r c hc]
    have e : endsL (splitL isNl l ++ splitL isNl r) = endsL (splitL isNl l) ++ endsL (splitL isNl r) := by unfold endsL; rw [List.flatMap_append]
    have e2 : endsL (splitL isNl l) = l ++ [10] := by unfold splitL; rw [splitL_one isNl l hl]; simp [endsL]
    rw [e, ih, e2, (isNl_iff c).1 hc]
    simp
theorem ends_lines (l : List UInt8) : endsL (linesL l) = if l = [] then [] else if Lib.hasSuffix l [10] = true then l else l ++ [10] := by
  unfold linesL
  by_cases h : l = []
  · rw [if_pos h, if_pos h]; rfl
  · rw [if_neg h, if_neg h, ends_split]
    rcases ends_or l with ⟨b, rfl⟩ | h2
    · rw [trim_nl, if_pos (suffix_nl b)]
    · rw [(trim_other l h2).1, if_neg (by rw [(trim_other l h2).2]; decide)]
theorem linesL_nil (l : List UInt8) : linesL l = [] ↔ l = [] := by
  unfold linesL
  by_cases h : l = []
  · simp [h]
  · rw [if_neg h]; exact ⟨fun e => absurd e (splitL_ne _ _), fun e => absurd e h⟩
end Go.Proofs.Ytgbhcanfjmefiaa.Pure

/- Rounds that suffice, untold how many; small words on numbers and bytes. -/
import Derived.Test.YtlicjpbmlmongaaDoorHelp
import Derived.Test.YtlicjpbmlmongaaDoorWMore
import Derived.Lib.Strings
set_option linter.unusedVariables false
set_option linter.unusedSimpArgs false
namespace Go.Proofs.YtlicjpbmlmongaaDoor.P
open Go.RowKit Go.Proofs.YtlicjpbmlmongaaDoorW.PrintWords Go.Proofs.YtlicjpbmlmongaaDoorW.PrintLast

/-- With rounds enough, g tells r. -/
def Ev {α : Type} (g : Nat → Option α) (r : α) : Prop := ∃ k0, ∀ k, k0 ≤ k → g k = some r
theorem Ev.step {α : Type} {g G : Nat → Option α} {r : α} (h : Ev g r) (hg : ∀ k, g k = some r → G (k + 1) = some r) : Ev G r := by
  obtain ⟨k0, hk⟩ := h
  refine ⟨k0 + 1, fun k hk1 => ?_⟩
  obtain ⟨j, rfl⟩ : ∃ j, k = j + 1 := ⟨k - 1, by omega⟩
  exact hg j (hk j (by omega))
theorem Ev.step2 {α : Type} {g G : Nat → Option α} {r : α} (h : Ev g r) (hg : ∀ k, g k = some r → G (k + 2) = some r) : Ev G r := by
  obtain ⟨k0, hk⟩ := h
  refine ⟨k0 + 2, fun k hk1 => ?_⟩
  obtain ⟨j, rfl⟩ : ∃ j, k = j + 2 := ⟨k - 2, by omega⟩
  exact hg j (hk j (by omega))
theorem Ev.next {α β : Type} {g : Nat → Option α} {G : Nat → Option β} {r : α} {s : β} (h : Ev g r) (hg : ∀ k, g k = some r → G (k + 1) = some s) : Ev G s := by
  obtain ⟨k0, hk⟩ := h
  refine ⟨k0 + 1, fun k hk1 => ?_⟩
  obtain ⟨j, rfl⟩ : ∃ j, k = j + 1 := ⟨k - 1, by omega⟩
  exact hg j (hk j (by omega))
theorem Ev.now {α : Type} {G : Nat → Option α} {r : α} (hg : ∀ k, G (k + 1) = some r) : Ev G r := by
  refine ⟨1, fun k hk1 => ?_⟩
  obtain ⟨j, rfl⟩ : ∃ j, k = j + 1 := ⟨k - 1, by omega⟩
  exact hg j
theorem Ev.const {α : Type} {v : Option α} {r : α} (h : v = some r) : Ev (fun _ => v) r := ⟨0, fun _ _ => h⟩
theorem Ev.map {α β : Type} {g : Nat → Option α} {G : Nat → Option β} {r : α} {s : β} (h : Ev g r) (hg : ∀ k, g k = some r → G k = some s) : Ev G s := by
  obtain ⟨k0, hk⟩ := h
  exact ⟨k0, fun k hk1 => hg k (hk k hk1)⟩
theorem Ev.and {α β : Type} {g : Nat → Option α} {h : Nat → Option β} {r : α} {s : β} (x : Ev g r) (y : Ev h s) : ∃ k0, ∀ k, k0 ≤ k → g k = some r ∧ h k = some s := by
  obtain ⟨a, ha⟩ := x
  obtain ⟨b, hb⟩ := y
  exact ⟨max a b, fun k hk => ⟨ha k (by omega), hb k (by omega)⟩⟩
theorem Ev.at_ {α : Type} {g : Nat → Option α} {r : α} (x : Ev g r) : ∃ k, g k = some r := by obtain ⟨a, ha⟩ := x; exact ⟨a, ha a (Nat.le_refl _)⟩
theorem rdOf_at (l : List ByteArray) (i : Nat) (h : i < l.length) : rdOf ByteArray.empty l (i : Int) = l[i] := by simp [rdOf, List.getD_eq_getElem?_getD, List.getElem?_eq_getElem h]
theorem bt_list (s : ByteArray) (i : Nat) (h : i < s.data.toList.length) : bt s (i : Int) = ((s.data.toList[i]).toNat : Int) := by
  have h' : i < s.size := by rw [Lib.size_eq]; exact h
  unfold bt
  rw [dif_pos (by simpa using h')]
  rfl
theorem bt_arr (s : ByteArray) (i : Nat) (h : i < s.size) : bt s (i : Int) = (s[i].toNat : Int) := by
  unfold bt
  rw [dif_pos (by simpa using h)]
  rfl
theorem nat_lt {a b : Nat} (h : a < b) : (a : Int) < (b : Int) := by omega
theorem nat_le {a b : Nat} (h : a ≤ b) : (a : Int) ≤ (b : Int) := by omega
theorem not_nat_lt {a b : Nat} (h : ¬ a < b) : ¬ (a : Int) < (b : Int) := by omega
theorem not_nat_le {a b : Nat} (h : ¬ a ≤ b) : ¬ (a : Int) ≤ (b : Int) := by omega
theorem nat_nn (a : Nat) : (0 : Int) ≤ (a : Int) := by omega
theorem wrap_one (a : Nat) (h : a ≤ 4000000000000000) : wrap64 ((a : Int) + 1) = ((a + 1 : Nat) : Int) := by unfold wrap64; omega
theorem wrap_add (a b : Nat) (h : a + b ≤ 4000000000000000) : wrap64 ((a : Int) + (b : Int)) = ((a + b : Nat) : Int) := by unfold wrap64; omega
theorem wrap_sub (a b : Nat) (h : b ≤ a) (ha : a ≤ 4000000000000000) : wrap64 ((a : Int) - (b : Int)) = ((a - b : Nat) : Int) := by unfold wrap64; omega
end Go.Proofs.YtlicjpbmlmongaaDoor.P

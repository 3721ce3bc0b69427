/- Bytes of a text, turned one by one: upper, and a key as it is compared. -/
import Derived.Test.YtaekgfmcelckoaaDoorKGiven
import Derived.Test.YtaekgfmcelckoaaDoorConv
import Derived.Laws.IdiomStrings
import Derived.Deep.QuietTactic
import Derived.BigQuiet
set_option linter.unusedVariables false
set_option linter.unusedSimpArgs false
namespace Go.Proofs.YtaekgfmcelckoaaDoor.K
open Go.RowKit Go.Proofs.YtaekgfmcelckoaaDoor.H Go.Proofs.YtaekgfmcelckoaaDoorW.PrintWords

/-- Block g bears the bytes l, and they may be written. -/
def RowB (W : World) (g : Nat) (l : List UInt8) : Prop := ∀ j (hj : j < l.length), W.cell? ⟨g, j, none⟩ = some (.int .u8 (l[j].toNat : Int)) ∧ W.frozen? ⟨g, j, none⟩ = false
theorem RowB.set {W : World} {g : Nat} {l : List UInt8} (h : RowB W g l) (k : Nat) (hk : k < l.length) (c : UInt8) : RowB (W.setCell ⟨g, k, none⟩ (.int .u8 (c.toNat : Int))) g (l.set k c) := by
  intro j hj
  rw [List.length_set] at hj
  refine ⟨?_, by rw [World.frozen?_setCell]; exact (h j hj).2⟩
  rw [List.getElem_set]
  by_cases e : k = j
  · subst e
    rw [if_pos rfl]
    exact World.cell?_setCell_same' _ _ _ (by rw [(h k hj).1]; rfl)
  · rw [if_neg e]
    rw [World.cell?_setCell_other (h := fun e' => e (by injection e'))]
    exact (h j hj).1
theorem rowB_bytes (W : World) (e : TypeId) (s : ByteArray) : RowB (Lib.bytesWorld W e s) W.heap.size s.data.toList := by
  intro j hj
  have hjs : j < s.size := by rw [Array.length_toList] at hj; exact hj
  refine ⟨?_, ?_⟩
  · rw [Lib.bytesWorld_cell W e s j hjs]
    congr 3
    rw [List.getD_eq_getElem?_getD, List.getElem?_eq_getElem hj]; rfl
  · have h1 := Lib.bytesWorld_at_new W e s
    have h2 : s.size ≤ (Lib.bytesCells W e s).size := by unfold Lib.bytesCells; rw [Array.size_append, Array.size_map]; exact Nat.le_add_right _ _
    unfold World.frozen?
    rw [h1]
    simp
    omega
theorem rowB_bytes_at (W : World) (e : TypeId) (s : ByteArray) (g : Nat) (hg : W.heap.size = g) : RowB (Lib.bytesWorld W e s) g s.data.toList := hg ▸ rowB_bytes W e s
def foldC (fo : Bool) (c : UInt8) : UInt8 := if fo = true then upC c else c
/-- The bytes of which the first k are turned. -/
def turned (f : UInt8 → UInt8) (l : List UInt8) (k : Nat) : List UInt8 := (l.take k).map f ++ l.drop k
theorem turned_zero (f : UInt8 → UInt8) (l : List UInt8) : turned f l 0 = l := by simp [turned]
theorem turned_len (f : UInt8 → UInt8) (l : List UInt8) (k : Nat) : (turned f l k).length = l.length := by simp [turned]; omega
theorem turned_all (f : UInt8 → UInt8) (l : List UInt8) : turned f l l.length = l.map f := by simp [turned]
theorem turned_at (f : UInt8 → UInt8) (l : List UInt8) (k : Nat) (h : k < l.length) : (turned f l k)[k]'(by rw [turned_len]; exact h) = l[k] := by
  unfold turned
  rw [List.getElem_append_right (by simp; omega)]
  simp
  congr 1
  omega
theorem turned_set (f : UInt8 → UInt8) (l : List UInt8) (k : Nat) (h : k < l.length) : (turned f l k).set k (f l[k]) = turned f l (k + 1) := by
  unfold turned
  have h1 : ((l.take k).map f).length = k := by simp; omega
  rw [List.set_append_right _ _ (by omega), h1, Nat.sub_self, List.drop_eq_getElem_cons h, List.set_cons_zero, List.take_succ_eq_append_getElem h, List.map_append, List.append_assoc]
  rfl
theorem turned_same (f : UInt8 → UInt8) (l : List UInt8) (k : Nat) (h : k < l.length) (e : f l[k] = l[k]) : turned f l (k + 1) = turned f l k := by
  unfold turned
  rw [List.take_succ_eq_append_getElem h, List.map_append, List.append_assoc]
  conv => rhs; rw [List.drop_eq_getElem_cons h]
  simp [e]
theorem upC_small (c : UInt8) (h : (97 : Int) ≤ (c.toNat : Int) ∧ (c.toNat : Int) ≤ 122) : ((upC c).toNat : Int) = (c.toNat : Int) - 32 := by
  have h1 : 97 ≤ c ∧ c ≤ 122 := ⟨UInt8.le_iff_toNat_le.2 (by show 97 ≤ c.toNat; omega), UInt8.le_iff_toNat_le.2 (by show c.toNat ≤ 122; omega)⟩
  unfold upC
  rw [if_pos h1, UInt8.toNat_sub_of_le _ _ (UInt8.le_iff_toNat_le.2 (by show 32 ≤ c.toNat; omega))]
  show ((c.toNat - 32 : Nat) : Int) = _
  omega
theorem upC_other (c : UInt8) (h : ¬ ((97 : Int) ≤ (c.toNat : Int) ∧ (c.toNat : Int) ≤ 122)) : upC c = c := by
  unfold upC
  rw [if_neg]
  rintro ⟨a, b⟩
  have h1 := UInt8.le_iff_toNat_le.1 a
  have h2 := UInt8.le_iff_toNat_le.1 b
  apply h
  have h3 : 97 ≤ c.toNat := h1
  have h4 : c.toNat ≤ 122 := h2
  omega

set_option maxHeartbeats 1000000 in
theorem blank_yes (c : UInt8) (w : World) (h : blankC c = true) : Calls Tryd.prog 46 #[.int .u8 (c.toNat : Int)] w fun e w' => e = .returned (.bool true) ∧ w' = w := by
  unfold blankC at h
  rw [Bool.or_eq_true, beq_iff_eq, beq_iff_eq] at h
  rcases h with rfl | rfl
  · go_enter Tryd.func46, Tryd.ntmps46
    go_wp2
    go_ret
    exact ⟨rfl, rfl⟩
  · go_enter Tryd.func46, Tryd.ntmps46
    go_wp2
    go_ret
    exact ⟨rfl, rfl⟩
set_option maxHeartbeats 1000000 in
theorem blank_no (c : UInt8) (w : World) (h : blankC c = false) : Calls Tryd.prog 46 #[.int .u8 (c.toNat : Int)] w fun e w' => e = .returned (.bool false) ∧ w' = w := by
  unfold blankC at h
  rw [Bool.or_eq_false_iff, beq_eq_false_iff_ne, beq_eq_false_iff_ne] at h
  have h1 : ((c.toNat : Int) == 32) = false := beq_eq_false_iff_ne.2 (fun e => h.1 (UInt8.toNat_inj.1 (by show c.toNat = 32; omega)))
  have h2 : ((c.toNat : Int) == 9) = false := beq_eq_false_iff_ne.2 (fun e => h.2 (UInt8.toNat_inj.1 (by show c.toNat = 9; omega)))
  clear h
  go_enter Tryd.func46, Tryd.ntmps46
  go_wp2
  go_ret
  exact ⟨rfl, rfl⟩
theorem dropWhile_at (p : UInt8 → Bool) (l : List UInt8) (k : Nat) (h : ∀ c ∈ l.take k, p c = true) (hn : ∀ c, (l.drop k).head? = some c → p c = false) : l.dropWhile p = l.drop k := by
  have h1 : l = l.take k ++ l.drop k := (List.take_append_drop k l).symm
  conv => lhs; rw [h1]
  have : ∀ (x r : List UInt8), (∀ c ∈ x, p c = true) → (∀ c, r.head? = some c → p c = false) → (x ++ r).dropWhile p = r := by
    intro x r hx hr
    induction x with
    | nil =>
      cases r with
      | nil => rfl
      | cons c r => rw [List.nil_append, List.dropWhile_cons_of_neg]; rw [hr c rfl]; decide
    | cons a x ih => rw [List.cons_append, List.dropWhile_cons_of_pos (hx a (by simp))]; exact ih (fun c hc => hx c (by simp [hc]))
  exact this _ _ h hn
end Go.Proofs.YtaekgfmcelckoaaDoor.K
namespace Go.Proofs.YtaekgfmcelckoaaDoor.Q
open Go.RowKit Go.Proofs.YtaekgfmcelckoaaDoor.H Go.Proofs.YtaekgfmcelckoaaDoorW.PrintWords Go.Proofs.YtaekgfmcelckoaaDoor.K
end Go.Proofs.YtaekgfmcelckoaaDoor.Q

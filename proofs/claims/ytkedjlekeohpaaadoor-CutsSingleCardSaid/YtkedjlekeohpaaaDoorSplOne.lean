/- strings.Split and strings.Contains at one byte: the list of parts. -/
import Derived.Test.YtkedjlekeohpaaaDoorSpl
import Derived.Test.YtkedjlekeohpaaaDoorShelf
import Derived.Lib.SplitLaws
import Derived.ChangeAgain
set_option linter.unusedVariables false
set_option linter.unusedSimpArgs false
namespace Go.Proofs.YtkedjlekeohpaaaDoor.S
open Go.RowKit Go Go.Proofs.YtkedjlekeohpaaaDoor.H

theorem index_none1 (l : List UInt8) (c : UInt8) (h : ∀ d ∈ l, (d == c) = false) : Lib.index l [c] = -1 := by
  induction l with
  | nil => rfl
  | cons d l ih =>
    have hd := h d (by simp)
    have hd' : ([c].isPrefixOf (d :: l)) = false := by
      have : (c == d) = false := by rw [beq_eq_false_iff_ne] at hd ⊢; exact fun e => hd e.symm
      simp [List.isPrefixOf, this]
    unfold Lib.index
    rw [hd', ih (fun x hx => h x (by simp [hx]))]
    rfl
theorem index_at1 (l r : List UInt8) (c : UInt8) (h : ∀ d ∈ l, (d == c) = false) : Lib.index (l ++ c :: r) [c] = (l.length : Int) := by
  induction l with
  | nil =>
    show Lib.index (c :: r) [c] = 0
    unfold Lib.index
    rw [if_pos (by simp [List.isPrefixOf])]
  | cons d l ih =>
    have hd := h d (by simp)
    have hd' : ([c].isPrefixOf (d :: (l ++ c :: r))) = false := by
      have : (c == d) = false := by rw [beq_eq_false_iff_ne] at hd ⊢; exact fun e => hd e.symm
      simp [List.isPrefixOf, this]
    rw [List.cons_append]
    unfold Lib.index
    rw [hd', ih (fun x hx => h x (by simp [hx]))]
    have : (((l.length : Nat) : Int) == -1) = false := by rw [beq_eq_false_iff_ne]; omega
    simp [this]
theorem splitK_one (c : UInt8) (l : List UInt8) : Lib.splitK [c] 0 (Lib.count l [c]) l = splitL (· == c) l := by
  refine parts_ind (· == c) (C := fun l => Lib.splitK [c] 0 (Lib.count l [c]) l = splitL (· == c) l) ?_ ?_ l
  · intro l hl
    rw [Lib.count_miss (index_none1 l c hl)]
    unfold splitL
    rw [splitL_one _ l hl]
    rfl
  · intro l d r hl hd ih
    obtain rfl : d = c := by simpa using hd
    have hi := index_at1 l r d hl
    have hdr : (l ++ d :: r).drop (l.length + 1) = r := by rw [← List.drop_drop]; simp
    rw [Lib.count_hit (by simp) hi, splitL_app (· == d) l r d hd]
    have e : splitL (· == d) l = [l] := by unfold splitL; rw [splitL_one _ l hl]; rfl
    rw [e, Nat.add_comm 1]
    unfold Lib.splitK
    have hne : ¬ (Lib.index (l ++ d :: r) [d] == -1) = true := by rw [hi]; simp <;> omega
    rw [if_neg hne, hi]
    show (l ++ d :: r).take (l.length + 0) :: Lib.splitK [d] 0 (Lib.count ((l ++ d :: r).drop (l.length + 1)) [d]) ((l ++ d :: r).drop (l.length + 1)) = _
    rw [hdr, ih, Nat.add_zero, List.take_left]
    try rfl
/-- The parts of a text at one byte. -/
def partsAt (c : UInt8) (s : ByteArray) : List ByteArray := (splitL (· == c) s.data.toList).map bs
theorem splitB_one (c : UInt8) (s : ByteArray) : Lib.splitB ⟨#[c]⟩ 0 (Lib.countB s ⟨#[c]⟩) s = partsAt c s := by
  have h := Lib.splitB_data ⟨#[c]⟩ 0 (Lib.countB s ⟨#[c]⟩) s
  have e : Lib.splitK [c] 0 (Lib.countB s ⟨#[c]⟩) s.data.toList = splitL (· == c) s.data.toList := splitK_one c s.data.toList
  have h2 : (Lib.splitB ⟨#[c]⟩ 0 (Lib.countB s ⟨#[c]⟩) s).map (·.data.toList) = splitL (· == c) s.data.toList := h.trans e
  unfold partsAt
  rw [← h2, List.map_map]
  conv => lhs; rw [← List.map_id (Lib.splitB ⟨#[c]⟩ 0 (Lib.countB s ⟨#[c]⟩) s)]
  congr 1
  first | done | (funext x; exact (bs_of x).symm)
theorem parts_len (c : UInt8) (s : ByteArray) : Lib.countB s ⟨#[c]⟩ + 1 = (partsAt c s).length := by
  rw [← splitB_one, Lib.splitB_all _ (by show 1 ≤ 1; omega) 0 _ s rfl]
theorem splL_len (p : UInt8 → Bool) (l : List UInt8) : (splitL p l).length ≤ l.length + 1 := by
  refine parts_ind p (C := fun l => (splitL p l).length ≤ l.length + 1) ?_ ?_ l
  · intro l hl; unfold splitL; rw [splitL_one p l hl]; simp
  · intro l c r hl hc ih
    rw [splitL_app p l r c hc, List.length_append]
    have : (splitL p l).length = 1 := by unfold splitL; rw [splitL_one p l hl]; simp
    simp
    omega
theorem parts_le (c : UInt8) (s : ByteArray) : (partsAt c s).length ≤ s.size + 1 := by
  unfold partsAt; rw [List.length_map, Lib.size_eq]; exact splL_len _ _
theorem indexByte_mem (l : List UInt8) (c : UInt8) : decide (0 ≤ Lib.indexByte l c) = decide (c ∈ l) := by
  induction l with
  | nil => rfl
  | cons d l ih =>
    unfold Lib.indexByte
    by_cases h : d == c
    · rw [if_pos h]
      have : d = c := by simpa using h
      subst this; simp
    · rw [if_neg h]
      have hne : ¬ c = d := fun e => h (by simp [e])
      have hge := Lib.indexByte_ge l c
      by_cases h2 : Lib.indexByte l c == -1
      · rw [if_pos h2]
        have : Lib.indexByte l c = -1 := by simpa using h2
        rw [this] at ih
        simp at ih
        simp [hne, ih]
      · rw [if_neg h2]
        have : Lib.indexByte l c ≠ -1 := by simpa using h2
        have h3 : 0 ≤ Lib.indexByte l c := by omega
        simp [h3] at ih
        simp [ih]; omega
theorem shaped_below {w w' : World} (h : w.ShapedOpen Tryd.prog) (hb : Below w.heap.size w w') : w'.ShapedOpen Tryd.prog :=
  h.keptBut (hb.frame (fun _ => False)) (fun _ hp => hp.elim)
theorem contains_calls1 (s : ByteArray) (c : UInt8) (w : World) :
    Calls Tryd.prog 24 #[.string s, .string ⟨#[c]⟩] w fun e w' => e = .returned (.bool (decide (c ∈ s.data.toList))) ∧ w' = w := by
  have h := Tryd.strings_Contains_one s c w
  rw [indexByte_mem] at h
  exact h
theorem split_calls1 (s : ByteArray) (c : UInt8) (w : World) (h : w.ShapedOpen Tryd.prog) (hs : s.size < 4294967281) :
    Calls Tryd.prog 27 #[.string s, .string ⟨#[c]⟩] w fun e w' => e = .returned (.slice (some ⟨w.heap.size, 0, none⟩) (partsAt c s).length (partsAt c s).length) ∧ w' = w.alloc (.cells ((partsAt c s).map Value.string).toArray 9) := by
  have hc := Tryd.strings_Split_shaped s ⟨#[c]⟩ w h hs (by show 1 ≤ 1; omega)
  rw [splitB_one, parts_len] at hc
  exact hc
end Go.Proofs.YtkedjlekeohpaaaDoor.S

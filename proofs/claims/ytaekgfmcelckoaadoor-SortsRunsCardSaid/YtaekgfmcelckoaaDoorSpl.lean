/- A list of bytes, parted at bytes: over lists alone. -/
import Derived.Test.YtaekgfmcelckoaaDoorHelp
import Derived.Lib.Strings
set_option linter.unusedVariables false
set_option linter.unusedSimpArgs false
namespace Go.Proofs.YtaekgfmcelckoaaDoor.S
open Go.RowKit

/-- The parts that have ended, and the one that has begun. -/
def stepL (p : UInt8 → Bool) (r : List (List UInt8) × List UInt8) (c : UInt8) : List (List UInt8) × List UInt8 := if p c then (r.1 ++ [r.2], []) else (r.1, r.2 ++ [c])
def spl (p : UInt8 → Bool) (l : List UInt8) : List (List UInt8) × List UInt8 := l.foldl (stepL p) ([], [])
def splitL (p : UInt8 → Bool) (l : List UInt8) : List (List UInt8) := (spl p l).1 ++ [(spl p l).2]

theorem spl_nil (p : UInt8 → Bool) : spl p [] = ([], []) := rfl
theorem spl_snoc (p : UInt8 → Bool) (l : List UInt8) (c : UInt8) : spl p (l ++ [c]) = stepL p (spl p l) c := by unfold spl; rw [List.foldl_append]; rfl
theorem foldl_step (p : UInt8 → Bool) (b : List UInt8) : ∀ (ini x : List (List UInt8)) (la : List UInt8), b.foldl (stepL p) (ini ++ x, la) = (ini ++ (b.foldl (stepL p) (x, la)).1, (b.foldl (stepL p) (x, la)).2) := by
  induction b with
  | nil => intro ini x la; rfl
  | cons c b ih =>
    intro ini x la
    rw [List.foldl_cons, List.foldl_cons]
    unfold stepL
    split
    · show List.foldl (stepL p) _ b = _
      rw [List.append_assoc]; exact ih _ _ _
    · exact ih _ _ _
theorem spl_app (p : UInt8 → Bool) (a b : List UInt8) (c : UInt8) (h : p c = true) : spl p (a ++ c :: b) = (splitL p a ++ (spl p b).1, (spl p b).2) := by
  have h1 : a ++ c :: b = (a ++ [c]) ++ b := by simp
  rw [h1]
  unfold spl
  rw [List.foldl_append]
  show List.foldl (stepL p) (spl p (a ++ [c])) b = _
  rw [spl_snoc]
  have e : stepL p (spl p a) c = (splitL p a ++ [], []) := by unfold stepL; rw [if_pos h, List.append_nil]; rfl
  rw [e]
  exact foldl_step p b (splitL p a) [] []
theorem splitL_app (p : UInt8 → Bool) (a b : List UInt8) (c : UInt8) (h : p c = true) : splitL p (a ++ c :: b) = splitL p a ++ splitL p b := by
  unfold splitL
  rw [spl_app p a b c h]
  simp [splitL]
theorem splitL_nil (p : UInt8 → Bool) : splitL p [] = [[]] := rfl
theorem splitL_one (p : UInt8 → Bool) (l : List UInt8) (h : ∀ c ∈ l, p c = false) : spl p l = ([], l) := by
  have : ∀ (l la : List UInt8), (∀ c ∈ l, p c = false) → l.foldl (stepL p) ([], la) = ([], la ++ l) := by
    intro l
    induction l with
    | nil => intro la _; simp
    | cons c l ih =>
      intro la hc
      rw [List.foldl_cons]
      have e : stepL p ([], la) c = ([], la ++ [c]) := by unfold stepL; rw [if_neg (by rw [hc c (by simp)]; decide)]
      rw [e, ih _ (fun d hd => hc d (by simp [hd]))]
      simp
  have := this l [] h
  rwa [List.nil_append] at this
/-- Any list of bytes is one part, or one part, the byte that ends it, and more. -/
theorem parts_ind (p : UInt8 → Bool) {C : List UInt8 → Prop} (one : ∀ l, (∀ c ∈ l, p c = false) → C l) (more : ∀ l c r, (∀ d ∈ l, p d = false) → p c = true → C r → C (l ++ c :: r)) : ∀ l, C l := by
  have key : ∀ (r l : List UInt8), (∀ d ∈ l, p d = false) → C (l ++ r) := by
    intro r
    induction r with
    | nil => intro l hl; rw [List.append_nil]; exact one l hl
    | cons c r ih =>
      intro l hl
      cases hc : p c with
      | true => exact more l c r hl hc (ih [] (by simp))
      | false =>
        have := ih (l ++ [c]) (fun d hd => by
          rcases List.mem_append.1 hd with h | h
          · exact hl d h
          · rw [List.mem_singleton.1 h]; exact hc)
        simpa using this
  exact fun l => key l [] (by simp)
theorem splitL_none (p : UInt8 → Bool) (l : List UInt8) : ∀ x ∈ splitL p l, ∀ c ∈ x, p c = false := by
  refine parts_ind p (C := fun l => ∀ x ∈ splitL p l, ∀ c ∈ x, p c = false) ?_ ?_ l
  · intro l hl x hx c hc
    unfold splitL at hx
    rw [splitL_one p l hl] at hx
    simp at hx
    subst hx
    exact hl c hc
  · intro l c r hl hc ih x hx d hd
    rw [splitL_app p l r c hc] at hx
    rcases List.mem_append.1 hx with h | h
    · unfold splitL at h
      rw [splitL_one p l hl] at h
      simp at h
      subst h
      exact hl d hd
    · exact ih x h d hd
theorem splitL_ne (p : UInt8 → Bool) (l : List UInt8) : splitL p l ≠ [] := by unfold splitL; simp
theorem splitL_congr (p q : UInt8 → Bool) (l : List UInt8) (h : ∀ c ∈ l, p c = q c) : spl p l = spl q l := by
  have : ∀ (l : List UInt8) (r : List (List UInt8) × List UInt8), (∀ c ∈ l, p c = q c) → l.foldl (stepL p) r = l.foldl (stepL q) r := by
    intro l
    induction l with
    | nil => intro r _; rfl
    | cons c l ih =>
      intro r hc
      rw [List.foldl_cons, List.foldl_cons]
      have e : stepL p r c = stepL q r c := by unfold stepL; rw [hc c (by simp)]
      rw [e]
      exact ih _ (fun d hd => hc d (by simp [hd]))
  exact this l _ h

/-- Bytes as a text. -/
def bs (l : List UInt8) : ByteArray := ⟨l.toArray⟩
theorem bs_toList (l : List UInt8) : (bs l).data.toList = l := by simp [bs]
theorem bs_size (l : List UInt8) : (bs l).size = l.length := by rw [Lib.size_eq, bs_toList]
theorem bs_of (s : ByteArray) : bs s.data.toList = s := by unfold bs; rw [Array.toArray_toList]
theorem ext_bytes {a b : ByteArray} (h : a.data.toList = b.data.toList) : a = b := by rw [← bs_of a, ← bs_of b, h]
theorem extract_bs (s : ByteArray) (a b : Nat) : s.extract a b = bs ((s.data.toList.drop a).take (b - a)) := by
  apply ext_bytes
  rw [bs_toList, ← Lib.toList_data, Lib.extract_toList]
end Go.Proofs.YtaekgfmcelckoaaDoor.S

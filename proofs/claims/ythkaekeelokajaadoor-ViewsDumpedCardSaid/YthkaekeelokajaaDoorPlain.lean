/- What the parts of a text are, over lists of bytes alone. -/
import Derived.Test.YthkaekeelokajaaDoorFields
set_option linter.unusedVariables false
set_option linter.unusedSimpArgs false
namespace Go.Proofs.YthkaekeelokajaaDoor.S
open Go.RowKit Go.Shelf Go.Proofs.YthkaekeelokajaaDoor.H

/-- The parts that have ended, and the one that has begun. -/
def stepL (p : UInt8 → Bool) (r : List (List UInt8) × List UInt8) (c : UInt8) : List (List UInt8) × List UInt8 := if p c then (r.1 ++ [r.2], []) else (r.1, r.2 ++ [c])
def spl (p : UInt8 → Bool) (l : List UInt8) : List (List UInt8) × List UInt8 := l.foldl (stepL p) ([], [])
def splitL (p : UInt8 → Bool) (l : List UInt8) : List (List UInt8) := (spl p l).1 ++ [(spl p l).2]

theorem spl_nil (p : UInt8 → Bool) : spl p [] = ([], []) := rfl
theorem spl_snoc (p : UInt8 → Bool) (l : List UInt8) (c : UInt8) : spl p (l ++ [c]) = stepL p (spl p l) c := by unfold spl; rw [List.foldl_append]; rfl
theorem foldl_step (p : UInt8 → Bool) (b : List UInt8) : ∀ (ini x : List (List UInt8)) (la : List UInt8), b.foldl (stepL p) (ini ++ x, la) = (ini ++ (b.foldl (stepL p) (x, la)).1, (b.foldl (stepL p) (x, la)).2) := by
  induction b with
  | nil => intro ini x la; rfl
  | cons c b ih =>
    intro ini x la
    rw [List.foldl_cons, List.foldl_cons]
    unfold stepL
    split
    · show List.foldl (stepL p) _ b = _
      rw [List.append_assoc]; exact ih _ _ _
    · exact ih _ _ _
theorem spl_app (p : UInt8 → Bool) (a b : List UInt8) (c : UInt8) (h : p c = true) : spl p (a ++ c :: b) = (splitL p a ++ (spl p b).1, (spl p b).2) := by
  have h1 : a ++ c :: b = (a ++ [c]) ++ b := by simp
  rw [h1]
  unfold spl
  rw [List.foldl_append]
  show List.foldl (stepL p) (spl p (a ++ [c])) b = _
  rw [spl_snoc]
  have e : stepL p (spl p a) c = (splitL p a ++ [], []) := by unfold stepL; rw [if_pos h, List.append_nil]; rfl
  rw [e]
  exact foldl_step p b (splitL p a) [] []
theorem splitL_app (p : UInt8 → Bool) (a b : List UInt8) (c : UInt8) (h : p c = true) : splitL p (a ++ c :: b) = splitL p a ++ splitL p b := by
  unfold splitL
  rw [spl_app p a b c h]
  simp [splitL]
theorem splitL_nil (p : UInt8 → Bool) : splitL p [] = [[]] := rfl
theorem splitL_one (p : UInt8 → Bool) (l : List UInt8) (h : ∀ c ∈ l, p c = false) : spl p l = ([], l) := by
  have : ∀ (l la : List UInt8), (∀ c ∈ l, p c = false) → l.foldl (stepL p) ([], la) = ([], la ++ l) := by
    intro l
    induction l with
    | nil => intro la _; simp
    | cons c l ih =>
      intro la hc
      rw [List.foldl_cons]
      have e : stepL p ([], la) c = ([], la ++ [c]) := by unfold stepL; rw [if_neg (by rw [hc c (by simp)]; decide)]
      rw [e, ih _ (fun d hd => hc d (by simp [hd]))]
      simp
  have := this l [] h
  rwa [List.nil_append] at this
/-- Any list of bytes is one part, or one part, the byte that ends it, and more. -/
theorem parts_ind (p : UInt8 → Bool) {C : List UInt8 → Prop} (one : ∀ l, (∀ c ∈ l, p c = false) → C l) (more : ∀ l c r, (∀ d ∈ l, p d = false) → p c = true → C r → C (l ++ c :: r)) : ∀ l, C l := by
  have key : ∀ (r l : List UInt8), (∀ d ∈ l, p d = false) → C (l ++ r) := by
    intro r
    induction r with
    | nil => intro l hl; rw [List.append_nil]; exact one l hl
    | cons c r ih =>
      intro l hl
      cases hc : p c with
      | true => exact more l c r hl hc (ih [] (by simp))
      | false =>
        have := ih (l ++ [c]) (fun d hd => by
          rcases List.mem_append.1 hd with h | h
          · exact hl d h
          · rw [List.mem_singleton.1 h]; exact hc)
        simpa using this
  exact fun l => key l [] (by simp)
theorem splitL_none (p : UInt8 → Bool) (l : List UInt8) : ∀ x ∈ splitL p l, ∀ c ∈ x, p c = false := by
  refine parts_ind p (C := fun l => ∀ x ∈ splitL p l, ∀ c ∈ x, p c = false) ?_ ?_ l
  · intro l hl x hx c hc
    unfold splitL at hx
    rw [splitL_one p l hl] at hx
    simp at hx
    subst hx
    exact hl c hc
  · intro l c r hl hc ih x hx d hd
    rw [splitL_app p l r c hc] at hx
    rcases List.mem_append.1 hx with h | h
    · unfold splitL at h
      rw [splitL_one p l hl] at h
      simp at h
      subst h
      exact hl d hd
    · exact ih x h d hd
theorem splitL_ne (p : UInt8 → Bool) (l : List UInt8) : splitL p l ≠ [] := by unfold splitL; simp
theorem splitL_congr (p q : UInt8 → Bool) (l : List UInt8) (h : ∀ c ∈ l, p c = q c) : spl p l = spl q l := by
  have : ∀ (l : List UInt8) (r : List (List UInt8) × List UInt8), (∀ c ∈ l, p c = q c) → l.foldl (stepL p) r = l.foldl (stepL q) r := by
    intro l
    induction l with
    | nil => intro r _; rfl
    | cons c l ih =>
      intro r hc
      rw [List.foldl_cons, List.foldl_cons]
      have e : stepL p r c = stepL q r c := by unfold stepL; rw [hc c (by simp)]
      rw [e]
      exact ih _ (fun d hd => hc d (by simp [hd]))
  exact this l _ h

/-- Bytes as a text. -/
def bs (l : List UInt8) : ByteArray := ⟨l.toArray⟩
theorem bs_toList (l : List UInt8) : (bs l).data.toList = l := by simp [bs]
theorem bs_size (l : List UInt8) : (bs l).size = l.length := by rw [Lib.size_eq, bs_toList]
theorem bs_of (s : ByteArray) : bs s.data.toList = s := by unfold bs; rw [Array.toArray_toList]
theorem ext_bytes {a b : ByteArray} (h : a.data.toList = b.data.toList) : a = b := by rw [← bs_of a, ← bs_of b, h]
theorem extract_bs (s : ByteArray) (a b : Nat) : s.extract a b = bs ((s.data.toList.drop a).take (b - a)) := by
  apply ext_bytes
  rw [bs_toList, ← Lib.toList_data, Lib.extract_toList]

theorem partsTo_spl (p : UInt8 → Bool) (s : ByteArray) : ∀ i, i ≤ s.size → (partsTo p s i).1 = (spl p (s.data.toList.take i)).1.map bs ∧ (spl p (s.data.toList.take i)).2 = (s.data.toList.take i).drop (partsTo p s i).2
  | 0, _ => by simp [partsTo, spl_nil]
  | i + 1, hi => by
    obtain ⟨h1, h2⟩ := partsTo_spl p s i (by omega)
    have hlt : i < s.size := by omega
    have hlt' : i < s.data.toList.length := by rw [← Lib.size_eq]; exact hlt
    have htk : s.data.toList.take (i + 1) = s.data.toList.take i ++ [s.data.toList[i]] := List.take_succ_eq_append_getElem hlt'
    have hfr := partsTo_from p s i
    have hg : s.data.toList.getD i 0 = s.data.toList[i] := by rw [List.getD_eq_getElem?_getD, List.getElem?_eq_getElem hlt']; rfl
    rw [htk, spl_snoc]
    unfold stepL
    simp only [partsTo, hg]
    split
    · refine ⟨?_, ?_⟩
      · rw [List.map_append, ← h1]
        simp only [List.map_cons, List.map_nil]
        rw [extract_bs, h2, List.drop_take]
      · simp only
        rw [List.drop_of_length_le (by simp; omega)]
    · refine ⟨h1, ?_⟩
      simp only
      rw [h2, List.drop_append_of_le_length (by rw [List.length_take]; omega)]
theorem partsOf_spl (p : UInt8 → Bool) (s : ByteArray) : partsOf p s = (splitL p s.data.toList).map bs := by
  obtain ⟨h1, h2⟩ := partsTo_spl p s s.size (Nat.le_refl _)
  have e : s.data.toList.take s.size = s.data.toList := by rw [Lib.size_eq, List.take_length]
  rw [e] at h1 h2
  unfold partsOf splitL
  rw [List.map_append, ← h1, h2]
  simp only [List.map_cons, List.map_nil]
  rw [extract_bs]
  congr 3
  rw [List.take_of_length_le (by rw [List.length_drop, ← Lib.size_eq]; omega)]

/-- The words: the parts that have something in them. -/
def wordsL (p : UInt8 → Bool) (l : List UInt8) : Nat := ((splitL p l).filter (fun x => !x.isEmpty)).length
theorem runsOf_spl (p : UInt8 → Bool) (s : ByteArray) : runsOf p s = ((splitL p s.data.toList).filter (fun x => !x.isEmpty)).map bs := by
  unfold runsOf
  rw [partsOf_spl, List.filter_map]
  congr 2
  funext x
  simp [bs_size]
  cases x <;> simp
theorem words_app (p : UInt8 → Bool) (a b : List UInt8) (c : UInt8) (h : p c = true) : wordsL p (a ++ c :: b) = wordsL p a + wordsL p b := by
  unfold wordsL; rw [splitL_app p a b c h, List.filter_append, List.length_append]
/-- The longest part. -/
def longL : List (List UInt8) → Nat
  | [] => 0
  | x :: l => max x.length (longL l)
theorem longL_app (a b : List (List UInt8)) : longL (a ++ b) = max (longL a) (longL b) := by
  induction a with
  | nil => simp [longL]
  | cons x a ih => rw [List.cons_append]; simp only [longL]; rw [ih]; omega
theorem longest_bs (l : List (List UInt8)) : longestOf (l.map bs) = (longL l : Int) := by
  have key : ∀ (l : List (List UInt8)) (m : Nat), (l.map bs).foldl (fun (m : Int) (x : ByteArray) => max m (x.size : Int)) (m : Int) = ((max m (longL l) : Nat) : Int) := by
    intro l
    induction l with
    | nil => intro m; simp [longL]
    | cons x l ih =>
      intro m
      rw [List.map_cons, List.foldl_cons]
      have e : max (m : Int) ((bs x).size : Int) = ((max m x.length : Nat) : Int) := by rw [bs_size]; omega
      rw [e, ih]
      simp only [longL]
      omega
  have := key l 0
  unfold longestOf
  simpa using this

/-- A text's lines. -/
def linesL (l : List UInt8) : List (List UInt8) := if l = [] then [] else splitL isNl (Lib.trimSuffix l [10])
theorem isNl_iff (b : UInt8) : isNl b = true ↔ b = 10 := by
  unfold isNl
  constructor
  · intro h
    have h1 : (b.toNat : Int) = 10 := by simpa using h
    exact UInt8.toNat_inj.1 (by show b.toNat = 10; omega)
  · rintro rfl; rfl
theorem trim_nl (a : List UInt8) : Lib.trimSuffix (a ++ [10]) [10] = a := by
  unfold Lib.trimSuffix Lib.hasSuffix
  have : [10].isSuffixOf (a ++ [(10 : UInt8)]) = true := by rw [List.isSuffixOf_iff_suffix]; exact ⟨a, rfl⟩
  rw [if_pos this]
  simp
theorem trim_other (a : List UInt8) (h : ∀ b, a ≠ b ++ [10]) : Lib.trimSuffix a [10] = a ∧ Lib.hasSuffix a [10] = false := by
  have : [(10 : UInt8)].isSuffixOf a = false := by
    cases hc : [(10 : UInt8)].isSuffixOf a with
    | false => rfl
    | true =>
      obtain ⟨b, hb⟩ := List.isSuffixOf_iff_suffix.1 hc
      exact absurd hb.symm (h b)
  unfold Lib.trimSuffix Lib.hasSuffix
  rw [this]
  exact ⟨rfl, rfl⟩
theorem suffix_nl (a : List UInt8) : Lib.hasSuffix (a ++ [10]) [10] = true := by unfold Lib.hasSuffix; rw [List.isSuffixOf_iff_suffix]; exact ⟨a, rfl⟩
theorem ends_or (a : List UInt8) : (∃ b, a = b ++ [10]) ∨ (∀ b, a ≠ b ++ [10]) := by
  by_cases h : ∃ b, a = b ++ [10]
  · exact .inl h
  · exact .inr fun b e => h ⟨b, e⟩
theorem toList_eq_nil (s : ByteArray) : s.data.toList = [] ↔ s.size = 0 := by rw [Lib.size_eq, List.length_eq_zero_iff]
theorem splitOf_lines (s : ByteArray) : (splitOf s).1 = (linesL s.data.toList).map bs := by
  unfold splitOf linesL
  by_cases h : s.size = 0
  · rw [if_pos h, if_pos ((toList_eq_nil s).2 h)]; rfl
  · rw [if_neg h, if_neg (fun e => h ((toList_eq_nil s).1 e))]
    show partsOf isNl (bareOf s) = _
    rw [partsOf_spl]
    rfl
/-- The longest line is the longest part. -/
theorem long_lines (l : List UInt8) : longL (linesL l) = longL (splitL isNl l) := by
  unfold linesL
  split
  · rename_i h; subst h; rfl
  · rcases ends_or l with ⟨b, rfl⟩ | h
    · rw [trim_nl, splitL_app isNl b [] 10 (by rfl), longL_app, splitL_nil]
      simp [longL]
    · rw [(trim_other l h).1]
end Go.Proofs.YthkaekeelokajaaDoor.S

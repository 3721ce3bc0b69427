/- The reference's Split and Fields tell what lines.Split and lines.Fields tell. -/
import Derived.Test.YtgbhcanfjmefiaaDoorQx1
import Derived.Test.YtgbhcanfjmefiaaDoorQx2
import Derived.Test.YtgbhcanfjmefiaaDoorQx3
import Derived.Test.YtgbhcanfjmefiaaDoorQx4
import Derived.Test.YtgbhcanfjmefiaaDoorPlain
import Derived.Test.YtgbhcanfjmefiaaDoorEvs
set_option linter.unusedVariables false
set_option linter.unusedSimpArgs false
namespace Go.Proofs.YtgbhcanfjmefiaaDoor.P
open Go.RowKit Go.Proofs.YtgbhcanfjmefiaaDoor.Q Go.Proofs.YtgbhcanfjmefiaaDoorW.PrintWords Go.Proofs.YtgbhcanfjmefiaaDoorW.PrintLast Go.Proofs.YtgbhcanfjmefiaaDoor.S

theorem beyond_one (n : Nat) (h1 : n ≤ 4611686018427387904) : Ev (fun k => toolchestlaw01_Beyond.f k [(n : Int)]) (decide (n > 1048576)) := by
  have w1 : wrap64 (n : Int) = n := by unfold wrap64; omega
  have w2 : wrap64 1 = 1 := by unfold wrap64; omega
  refine ⟨2, fun k hk => ?_⟩
  obtain ⟨j, rfl⟩ : ∃ j, k = j + 1 + 1 := ⟨k - 2, by omega⟩
  simp [toolchestlaw01_Beyond.f, toolchestlaw01_Beyond.l0, rd, w1, w2]
  by_cases h : 1048576 < n
  · rw [if_pos (by omega)]; simp [h]
  · rw [if_neg (by omega)]; simp [h]
theorem same_loop (l : List ByteArray) (hl : l.length ≤ 2000000) : ∀ (d i : Nat), i + d = l.length → Ev (fun k => toolchestlaw01_SameTexts.l0 k l l (i : Int)) true := by
  intro d
  induction d with
  | zero =>
    intro i hi
    refine Ev.now fun k => ?_
    simp only [toolchestlaw01_SameTexts.l0]
    rw [if_neg (not_nat_lt (by omega))]
  | succ d ih =>
    intro i hi
    have hlt : i < l.length := by omega
    have hw := wrap_one i (by omega)
    refine (ih (i + 1) (by omega)).step fun k hk => ?_
    simp only [toolchestlaw01_SameTexts.l0]
    rw [if_pos (nat_lt hlt), if_pos (nat_nn i), if_pos (nat_lt hlt), if_pos trivial, hw]
    exact hk
theorem same_self (l : List ByteArray) (hl : l.length ≤ 2000000) : Ev (fun k => toolchestlaw01_SameTexts.f k l l) true := by
  obtain ⟨k0, hk⟩ := same_loop l hl l.length 0 (Nat.zero_add _)
  refine ⟨k0, fun k h => ?_⟩
  show toolchestlaw01_SameTexts.f k l l = some true
  unfold toolchestlaw01_SameTexts.f
  rw [if_pos rfl]
  exact hk k h

/-! ### Split -/
theorem last_of (s : ByteArray) : (spl isNl s.data.toList).2 = s.data.toList.drop (partsTo isNl s s.size).2 ∧ (partsTo isNl s s.size).1 = (spl isNl s.data.toList).1.map bs := by
  obtain ⟨h1, h2⟩ := partsTo_spl isNl s s.size (Nat.le_refl _)
  have e : s.data.toList.take s.size = s.data.toList := by rw [Lib.size_eq, List.take_length]
  rw [e] at h1 h2
  exact ⟨h2, h1⟩
theorem lines_spl (l : List UInt8) : linesL l = (if (spl isNl l).2 = [] then (spl isNl l).1 else (spl isNl l).1 ++ [(spl isNl l).2]) ∧ ((l ≠ [] ∧ Lib.hasSuffix l [10] = true) ↔ (l ≠ [] ∧ (spl isNl l).2 = [])) := by
  rcases ends_or l with ⟨b, rfl⟩ | h
  · have e : spl isNl (b ++ [10]) = (splitL isNl b, []) := by rw [spl_snoc]; unfold stepL; rw [if_pos (by rfl)]; rfl
    rw [e]
    refine ⟨?_, ?_⟩
    · unfold linesL
      rw [if_neg (by simp), trim_nl, if_pos rfl]
    · rw [suffix_nl]; simp
  · by_cases hl : l = []
    · subst hl
      exact ⟨rfl, by simp⟩
    · have hne : (spl isNl l).2 ≠ [] := by
        obtain ⟨b, c, rfl⟩ : ∃ b c, l = b ++ [c] := ⟨l.dropLast, l.getLast hl, (List.dropLast_concat_getLast hl).symm⟩
        have hc : isNl c = false := by
          cases hh : isNl c with
          | false => rfl
          | true => exact absurd (by rw [(isNl_iff c).1 hh]) (h b)
        rw [spl_snoc]; unfold stepL; rw [if_neg (by rw [hc]; decide)]; simp
      refine ⟨?_, ?_⟩
      · unfold linesL
        rw [if_neg hl, if_neg hne, (trim_other l h).1]
        rfl
      · rw [(trim_other l h).2]; simp [hne]
theorem split_loop (s : ByteArray) (hs : s.size ≤ 8796093022000) : ∀ (d i : Nat), i + d = s.size → Ev (fun k => toolchestref02_Split.l0 k s (partsTo isNl s i).1 ((partsTo isNl s i).2 : Int) (i : Int)) (splitOf s) := by
  intro d
  induction d with
  | zero =>
    intro i hi
    obtain rfl : i = s.size := by omega
    have hl := partsTo_len isNl s s.size
    have hf := partsTo_from isNl s s.size
    obtain ⟨g1, g2⟩ := last_of s
    obtain ⟨g3, g4⟩ := lines_spl s.data.toList
    have e1 : (splitOf s).1 = (linesL s.data.toList).map bs := splitOf_lines s
    have e2 : (splitOf s).2 = (if s.size = 0 then false else Lib.hasSuffix s.data.toList [10]) := by unfold splitOf; split <;> rfl
    refine Ev.now fun k => ?_
    simp only [toolchestref02_Split.l0]
    rw [if_neg (not_nat_lt (by omega))]
    have hsz : s.data.toList.length = s.size := (Lib.size_eq s).symm
    by_cases hlt : (partsTo isNl s s.size).2 < s.size
    · have hne : (spl isNl s.data.toList).2 ≠ [] := by
        rw [g1]; intro e
        have := congrArg List.length e
        rw [List.length_drop, hsz] at this
        simp at this
        omega
      rw [if_pos (nat_lt hlt), if_pos (nat_nn _), if_pos (nat_le (by omega)), if_pos (by omega), Int.toNat_natCast]
      congr 1
      refine Prod.ext ?_ ?_
      · show _ = (splitOf s).1
        rw [e1, g3, if_neg hne, List.map_append, g2, g1]
        simp only [List.map_cons, List.map_nil]
        rw [extract_bs, List.take_of_length_le (by rw [List.length_drop, hsz]; exact Nat.le_refl _)]
      · show false = (splitOf s).2
        rw [e2, if_neg (by omega)]
        have hnn : s.data.toList ≠ [] := by intro e; rw [e] at hsz; simp at hsz; omega
        cases hh : Lib.hasSuffix s.data.toList [10] with
        | false => rfl
        | true => exact absurd (g4.1 ⟨hnn, hh⟩).2 hne
    · have he : (spl isNl s.data.toList).2 = [] := by rw [g1]; exact List.drop_of_length_le (by omega)
      rw [if_neg (not_nat_lt hlt)]
      congr 1
      refine Prod.ext ?_ ?_
      · show _ = (splitOf s).1
        rw [e1, g3, if_pos he, g2]
      · show decide ((s.size : Int) > 0) = (splitOf s).2
        rw [e2]
        by_cases h0 : s.size = 0
        · rw [if_pos h0, h0]; rfl
        · rw [if_neg h0]
          have hnn : s.data.toList ≠ [] := by intro e; rw [e] at hsz; simp at hsz; omega
          rw [(g4.2 ⟨hnn, he⟩).2]
          simp; omega
  | succ d ih =>
    intro i hi
    have hlt : i < s.size := by omega
    have hl := partsTo_len isNl s i
    have hf := partsTo_from isNl s i
    have hw := wrap_one i (by omega)
    have hb := bt_arr s i hlt
    cases hx : isNl s[i] with
    | true =>
      have hst := partsTo_yes (p := isNl) hlt hx
      have h10 : bt s (i : Int) = 10 := by rw [hb]; unfold isNl at hx; simpa using hx
      refine (ih (i + 1) (by omega)).step fun k hk => ?_
      simp only [toolchestref02_Split.l0]
      rw [if_pos (nat_lt hlt), if_pos (nat_nn i), if_pos h10, if_pos (nat_nn _), if_pos (nat_le hf), if_pos (nat_le (by omega)), if_pos (by omega), hw, Int.toNat_natCast, Int.toNat_natCast]
      rw [hst] at hk
      exact hk
    | false =>
      have hst := partsTo_no (p := isNl) hlt hx
      have h10 : ¬ bt s (i : Int) = 10 := by rw [hb]; unfold isNl at hx; simpa using hx
      refine (ih (i + 1) (by omega)).step fun k hk => ?_
      simp only [toolchestref02_Split.l0]
      rw [if_pos (nat_lt hlt), if_pos (nat_nn i), if_neg h10, hw]
      rw [hst] at hk
      exact hk
theorem ref_split (s : ByteArray) (hs : s.size ≤ 8796093022000) : Ev (fun k => toolchestref02_Split.f k s) (splitOf s) := split_loop s hs s.size 0 (Nat.zero_add _)

/-! ### Fields -/
theorem blank_f (x : Int) : toolchestref02_Blank.f x = some (blankI x) := by
  unfold toolchestref02_Blank.f blankI
  by_cases h : x = 32
  · simp [h]
  · rw [if_neg h]; simp [h]
theorem extract_size (s : ByteArray) (a b : Nat) (h : b ≤ s.size) : (s.extract a b).size = b - a := by
  rw [extract_bs, bs_size, List.length_take, List.length_drop, ← Lib.size_eq]; omega
theorem runsL_add (l : List ByteArray) (x : ByteArray) (h : x.size ≠ 0) : runsL (l ++ [x]) = runsL l ++ [x] := by rw [runsL_snoc, if_neg h]
theorem runsL_not (l : List ByteArray) (x : ByteArray) (h : x.size = 0) : runsL (l ++ [x]) = runsL l := by rw [runsL_snoc, if_pos h]
/-- by a byte -/
theorem fields_by (s : ByteArray) (c : Int) (hc : ¬ c = 0) (hs : s.size ≤ 8796093022000) : ∀ (d i : Nat), i + d = s.size → Ev (fun k => toolchestref02_Fields.l0 k s c (partsTo (fun b => (b.toNat : Int) == c) s i).1 ((partsTo (fun b => (b.toNat : Int) == c) s i).2 : Int) (i : Int)) (partsOf (fun b => (b.toNat : Int) == c) s) := by
  intro d
  induction d with
  | zero =>
    intro i hi
    obtain rfl : i = s.size := by omega
    have hl := partsTo_len (fun b => (b.toNat : Int) == c) s s.size
    have hf := partsTo_from (fun b => (b.toNat : Int) == c) s s.size
    have hw := wrap_one s.size (by omega)
    refine ⟨3, fun k hk => ?_⟩
    obtain ⟨k, rfl⟩ : ∃ m, k = m + 1 + 1 + 1 := ⟨k - 3, by omega⟩
    show toolchestref02_Fields.l0 (k + 1 + 1 + 1) s c _ _ _ = _
    rw [toolchestref02_Fields.l0, if_pos (Int.le_refl _), if_neg (Int.lt_irrefl _), toolchestref02_Fields.j1, if_neg (by decide), if_neg hc, if_pos (nat_nn _), if_pos (nat_le hf), if_pos (Int.le_refl _), if_pos (by omega), hw, toolchestref02_Fields.l0, if_neg (by omega), Int.toNat_natCast, Int.toNat_natCast]
    rfl
  | succ d ih =>
    intro i hi
    have hlt : i < s.size := by omega
    have hl := partsTo_len (fun b => (b.toNat : Int) == c) s i
    have hf := partsTo_from (fun b => (b.toNat : Int) == c) s i
    have hw := wrap_one i (by omega)
    have hb := bt_arr s i hlt
    cases hx : ((s[i].toNat : Int) == c) with
    | true =>
      have hst := partsTo_yes (p := fun b => (b.toNat : Int) == c) hlt hx
      refine (ih (i + 1) (by omega)).step2 fun k hk => ?_
      show toolchestref02_Fields.l0 (k + 1 + 1) s c _ _ _ = _
      rw [toolchestref02_Fields.l0, if_pos (nat_le (by omega)), if_pos (nat_lt hlt), if_neg hc, if_pos (nat_nn i), hb, show ((s[i].toNat : Int) != c) = false by simp only [bne, hx]; rfl, toolchestref02_Fields.j1, if_neg (by decide), if_neg hc, if_pos (nat_nn _), if_pos (nat_le hf), if_pos (nat_le (by omega)), if_pos (by omega), hw, Int.toNat_natCast, Int.toNat_natCast]
      rw [hst] at hk
      exact hk
    | false =>
      have hst := partsTo_no (p := fun b => (b.toNat : Int) == c) hlt hx
      refine (ih (i + 1) (by omega)).step2 fun k hk => ?_
      show toolchestref02_Fields.l0 (k + 1 + 1) s c _ _ _ = _
      rw [toolchestref02_Fields.l0, if_pos (nat_le (by omega)), if_pos (nat_lt hlt), if_neg hc, if_pos (nat_nn i), hb, show ((s[i].toNat : Int) != c) = true by simp only [bne, hx]; rfl, toolchestref02_Fields.j1, if_pos rfl, hw]
      rw [hst] at hk
      exact hk
/-- by blanks -/
def blankB (b : UInt8) : Bool := blankI (b.toNat : Int)
theorem fields_blank (s : ByteArray) (hs : s.size ≤ 8796093022000) : ∀ (d i : Nat), i + d = s.size → Ev (fun k => toolchestref02_Fields.l0 k s 0 (runsL (partsTo blankB s i).1) ((partsTo blankB s i).2 : Int) (i : Int)) (runsOf blankB s) := by
  intro d
  induction d with
  | zero =>
    intro i hi
    obtain rfl : i = s.size := by omega
    have hl := partsTo_len blankB s s.size
    have hf := partsTo_from blankB s s.size
    have hrl := runsL_len (partsTo blankB s s.size).1
    have hw := wrap_one s.size (by omega)
    have hz := extract_size s (partsTo blankB s s.size).2 s.size (Nat.le_refl _)
    refine ⟨3, fun k hk => ?_⟩
    obtain ⟨k, rfl⟩ : ∃ m, k = m + 1 + 1 + 1 := ⟨k - 3, by omega⟩
    show toolchestref02_Fields.l0 (k + 1 + 1 + 1) s 0 _ _ _ = _
    rw [toolchestref02_Fields.l0, if_pos (Int.le_refl _), if_neg (Int.lt_irrefl _), toolchestref02_Fields.j1, if_neg (by decide), if_pos rfl]
    have er : runsOf blankB s = runsL ((partsTo blankB s s.size).1 ++ [s.extract (partsTo blankB s s.size).2 s.size]) := rfl
    by_cases hg : (partsTo blankB s s.size).2 < s.size
    · rw [if_pos (nat_lt hg), if_pos (nat_nn _), if_pos (nat_le hf), if_pos (Int.le_refl _), if_pos (by omega), hw, toolchestref02_Fields.l0, if_neg (by omega), Int.toNat_natCast, Int.toNat_natCast, er, runsL_add _ _ (by omega)]
    · rw [if_neg (not_nat_lt hg), hw, toolchestref02_Fields.l0, if_neg (by omega), er, runsL_not _ _ (by omega)]
  | succ d ih =>
    intro i hi
    have hlt : i < s.size := by omega
    have hl := partsTo_len blankB s i
    have hf := partsTo_from blankB s i
    have hrl := runsL_len (partsTo blankB s i).1
    have hw := wrap_one i (by omega)
    have hb := bt_arr s i hlt
    have hz := extract_size s (partsTo blankB s i).2 i (by omega)
    cases hx : blankB s[i] with
    | true =>
      have hst := partsTo_yes (p := blankB) hlt hx
      refine (ih (i + 1) (by omega)).step2 fun k hk => ?_
      show toolchestref02_Fields.l0 (k + 1 + 1) s 0 _ _ _ = _
      rw [hst] at hk
      rw [toolchestref02_Fields.l0, if_pos (nat_le (by omega)), if_pos (nat_lt hlt), if_pos rfl, if_pos (nat_nn i), hb, blank_f, Option.bind_some, show blankI (s[i].toNat : Int) = true from hx, if_pos rfl, toolchestref02_Fields.j1, if_neg (by decide), if_pos rfl]
      by_cases hg : (partsTo blankB s i).2 < i
      · rw [if_pos (nat_lt hg), if_pos (nat_nn _), if_pos (nat_le hf), if_pos (nat_le (by omega)), if_pos (by omega), hw, Int.toNat_natCast, Int.toNat_natCast]
        simp only at hk
        rw [runsL_add _ _ (by omega)] at hk
        exact hk
      · rw [if_neg (not_nat_lt hg), hw]
        simp only at hk
        rw [runsL_not _ _ (by omega)] at hk
        exact hk
    | false =>
      have hst := partsTo_no (p := blankB) hlt hx
      refine (ih (i + 1) (by omega)).step2 fun k hk => ?_
      show toolchestref02_Fields.l0 (k + 1 + 1) s 0 _ _ _ = _
      rw [hst] at hk
      rw [toolchestref02_Fields.l0, if_pos (nat_le (by omega)), if_pos (nat_lt hlt), if_pos rfl, if_pos (nat_nn i), hb, blank_f, Option.bind_some, show blankI (s[i].toNat : Int) = false from hx, if_neg (by decide), toolchestref02_Fields.j1, if_pos rfl, hw]
      exact hk
theorem ref_fields (s : ByteArray) (c : Int) (hs : s.size ≤ 8796093022000) : Ev (fun k => toolchestref02_Fields.f k s c) (fieldsOf s c) := by
  unfold fieldsOf
  by_cases hc : c = 0
  · rw [if_pos hc, hc]; exact fields_blank s hs s.size 0 (Nat.zero_add _)
  · rw [if_neg hc]; exact fields_by s c hc hs s.size 0 (Nat.zero_add _)
end Go.Proofs.YtgbhcanfjmefiaaDoor.P

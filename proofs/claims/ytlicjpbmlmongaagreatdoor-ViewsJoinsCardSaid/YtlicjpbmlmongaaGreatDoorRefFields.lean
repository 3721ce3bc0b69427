/- The reference's Fields tell what lines.Fields tells. -/
import Derived.Test.YtlicjpbmlmongaaGreatDoorQx11
import Derived.Test.YtlicjpbmlmongaaGreatDoorQx7
import Derived.Test.YtlicjpbmlmongaaGreatDoorFields
import Derived.Test.YtlicjpbmlmongaaGreatDoorEvs
set_option linter.unusedVariables false
set_option linter.unusedSimpArgs false
namespace Go.Proofs.YtlicjpbmlmongaaGreatDoor.P
open Go.RowKit Go.Proofs.YtlicjpbmlmongaaGreatDoor.Q Go.Proofs.YtlicjpbmlmongaaGreatDoorW.PrintWords Go.Proofs.YtlicjpbmlmongaaGreatDoorW.PrintLast Go.Proofs.YtlicjpbmlmongaaGreatDoor.S

theorem blank_f (x : Int) : toolchestref02_Blank.f x = some (blankI x) := by
  unfold toolchestref02_Blank.f blankI
  by_cases h : x = 32
  · simp [h]
  · rw [if_neg h]; simp [h]
theorem extract_size (s : ByteArray) (a b : Nat) (h : b ≤ s.size) : (s.extract a b).size = b - a := by
  simp only [ByteArray.size_extract]; omega
theorem runsL_add (l : List ByteArray) (x : ByteArray) (h : x.size ≠ 0) : runsL (l ++ [x]) = runsL l ++ [x] := by rw [runsL_snoc, if_neg h]
theorem runsL_not (l : List ByteArray) (x : ByteArray) (h : x.size = 0) : runsL (l ++ [x]) = runsL l := by rw [runsL_snoc, if_pos h]
/-- by a byte -/
theorem fields_by (s : ByteArray) (c : Int) (hc : ¬ c = 0) (hs : s.size ≤ 8796093022000) : ∀ (d i : Nat), i + d = s.size → Ev (fun k => toolchestref02_Fields.l0 k s c (partsTo (fun b => (b.toNat : Int) == c) s i).1 ((partsTo (fun b => (b.toNat : Int) == c) s i).2 : Int) (i : Int)) (partsOf (fun b => (b.toNat : Int) == c) s) := by
  intro d
  induction d with
  | zero =>
    intro i hi
    obtain rfl : i = s.size := by omega
    have hl := partsTo_len (fun b => (b.toNat : Int) == c) s s.size
    have hf := partsTo_from (fun b => (b.toNat : Int) == c) s s.size
    have hw := wrap_one s.size (by omega)
    refine ⟨3, fun k hk => ?_⟩
    obtain ⟨k, rfl⟩ : ∃ m, k = m + 1 + 1 + 1 := ⟨k - 3, by omega⟩
    show toolchestref02_Fields.l0 (k + 1 + 1 + 1) s c _ _ _ = _
    rw [toolchestref02_Fields.l0, if_pos (Int.le_refl _), if_neg (Int.lt_irrefl _), toolchestref02_Fields.j1, if_neg (by decide), if_neg hc, if_pos (nat_nn _), if_pos (nat_le hf), if_pos (Int.le_refl _), if_pos (by omega), hw, toolchestref02_Fields.l0, if_neg (by omega), Int.toNat_natCast, Int.toNat_natCast]
    rfl
  | succ d ih =>
    intro i hi
    have hlt : i < s.size := by omega
    have hl := partsTo_len (fun b => (b.toNat : Int) == c) s i
    have hf := partsTo_from (fun b => (b.toNat : Int) == c) s i
    have hw := wrap_one i (by omega)
    have hb := bt_arr s i hlt
    cases hx : ((s[i].toNat : Int) == c) with
    | true =>
      have hst := partsTo_yes (p := fun b => (b.toNat : Int) == c) hlt hx
      refine (ih (i + 1) (by omega)).step2 fun k hk => ?_
      show toolchestref02_Fields.l0 (k + 1 + 1) s c _ _ _ = _
      rw [toolchestref02_Fields.l0, if_pos (nat_le (by omega)), if_pos (nat_lt hlt), if_neg hc, if_pos (nat_nn i), hb, show ((s[i].toNat : Int) != c) = false by simp only [bne, hx]; rfl, toolchestref02_Fields.j1, if_neg (by decide), if_neg hc, if_pos (nat_nn _), if_pos (nat_le hf), if_pos (nat_le (by omega)), if_pos (by omega), hw, Int.toNat_natCast, Int.toNat_natCast]
      rw [hst] at hk
      exact hk
    | false =>
      have hst := partsTo_no (p := fun b => (b.toNat : Int) == c) hlt hx
      refine (ih (i + 1) (by omega)).step2 fun k hk => ?_
      show toolchestref02_Fields.l0 (k + 1 + 1) s c _ _ _ = _
      rw [toolchestref02_Fields.l0, if_pos (nat_le (by omega)), if_pos (nat_lt hlt), if_neg hc, if_pos (nat_nn i), hb, show ((s[i].toNat : Int) != c) = true by simp only [bne, hx]; rfl, toolchestref02_Fields.j1, if_pos rfl, hw]
      rw [hst] at hk
      exact hk
/-- by blanks -/
def blankB (b : UInt8) : Bool := blankI (b.toNat : Int)
theorem fields_blank (s : ByteArray) (hs : s.size ≤ 8796093022000) : ∀ (d i : Nat), i + d = s.size → Ev (fun k => toolchestref02_Fields.l0 k s 0 (runsL (partsTo blankB s i).1) ((partsTo blankB s i).2 : Int) (i : Int)) (runsOf blankB s) := by
  intro d
  induction d with
  | zero =>
    intro i hi
    obtain rfl : i = s.size := by omega
    have hl := partsTo_len blankB s s.size
    have hf := partsTo_from blankB s s.size
    have hrl := runsL_len (partsTo blankB s s.size).1
    have hw := wrap_one s.size (by omega)
    have hz := extract_size s (partsTo blankB s s.size).2 s.size (Nat.le_refl _)
    refine ⟨3, fun k hk => ?_⟩
    obtain ⟨k, rfl⟩ : ∃ m, k = m + 1 + 1 + 1 := ⟨k - 3, by omega⟩
    show toolchestref02_Fields.l0 (k + 1 + 1 + 1) s 0 _ _ _ = _
    rw [toolchestref02_Fields.l0, if_pos (Int.le_refl _), if_neg (Int.lt_irrefl _), toolchestref02_Fields.j1, if_neg (by decide), if_pos rfl]
    have er : runsOf blankB s = runsL ((partsTo blankB s s.size).1 ++ [s.extract (partsTo blankB s s.size).2 s.size]) := rfl
    by_cases hg : (partsTo blankB s s.size).2 < s.size
    · rw [if_pos (nat_lt hg), if_pos (nat_nn _), if_pos (nat_le hf), if_pos (Int.le_refl _), if_pos (by omega), hw, toolchestref02_Fields.l0, if_neg (by omega), Int.toNat_natCast, Int.toNat_natCast, er, runsL_add _ _ (by omega)]
    · rw [if_neg (not_nat_lt hg), hw, toolchestref02_Fields.l0, if_neg (by omega), er, runsL_not _ _ (by omega)]
  | succ d ih =>
    intro i hi
    have hlt : i < s.size := by omega
    have hl := partsTo_len blankB s i
    have hf := partsTo_from blankB s i
    have hrl := runsL_len (partsTo blankB s i).1
    have hw := wrap_one i (by omega)
    have hb := bt_arr s i hlt
    have hz := extract_size s (partsTo blankB s i).2 i (by omega)
    cases hx : blankB s[i] with
    | true =>
      have hst := partsTo_yes (p := blankB) hlt hx
      refine (ih (i + 1) (by omega)).step2 fun k hk => ?_
      show toolchestref02_Fields.l0 (k + 1 + 1) s 0 _ _ _ = _
      rw [hst] at hk
      rw [toolchestref02_Fields.l0, if_pos (nat_le (by omega)), if_pos (nat_lt hlt), if_pos rfl, if_pos (nat_nn i), hb, blank_f, Option.bind_some, show blankI (s[i].toNat : Int) = true from hx, if_pos rfl, toolchestref02_Fields.j1, if_neg (by decide), if_pos rfl]
      by_cases hg : (partsTo blankB s i).2 < i
      · rw [if_pos (nat_lt hg), if_pos (nat_nn _), if_pos (nat_le hf), if_pos (nat_le (by omega)), if_pos (by omega), hw, Int.toNat_natCast, Int.toNat_natCast]
        simp only at hk
        rw [runsL_add _ _ (by omega)] at hk
        exact hk
      · rw [if_neg (not_nat_lt hg), hw]
        simp only at hk
        rw [runsL_not _ _ (by omega)] at hk
        exact hk
    | false =>
      have hst := partsTo_no (p := blankB) hlt hx
      refine (ih (i + 1) (by omega)).step2 fun k hk => ?_
      show toolchestref02_Fields.l0 (k + 1 + 1) s 0 _ _ _ = _
      rw [hst] at hk
      rw [toolchestref02_Fields.l0, if_pos (nat_le (by omega)), if_pos (nat_lt hlt), if_pos rfl, if_pos (nat_nn i), hb, blank_f, Option.bind_some, show blankI (s[i].toNat : Int) = false from hx, if_neg (by decide), toolchestref02_Fields.j1, if_pos rfl, hw]
      exact hk
theorem ref_fields (s : ByteArray) (c : Int) (hs : s.size ≤ 8796093022000) : Ev (fun k => toolchestref02_Fields.f k s c) (fieldsOf s c) := by
  unfold fieldsOf
  by_cases hc : c = 0
  · rw [if_pos hc, hc]; exact fields_blank s hs s.size 0 (Nat.zero_add _)
  · rw [if_neg hc]; exact fields_by s c hc hs s.size 0 (Nat.zero_add _)
end Go.Proofs.YtlicjpbmlmongaaGreatDoor.P

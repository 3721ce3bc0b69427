/- toolchestref07.Fold, over lists of bytes alone. -/
import Derived.Test.YtkedjlekeohpaaaGreatDoorQx1
import Derived.Test.YtkedjlekeohpaaaGreatDoorCFold
import Derived.Test.YtkedjlekeohpaaaGreatDoorEvs
set_option linter.unusedVariables false
set_option linter.unusedSimpArgs false
namespace Go.Proofs.YtkedjlekeohpaaaGreatDoor.P
open Go.RowKit Go.Proofs.YtkedjlekeohpaaaGreatDoor.Q Go.Proofs.YtkedjlekeohpaaaGreatDoor.K Go.Proofs.YtkedjlekeohpaaaGreatDoor.C Go.Proofs.YtkedjlekeohpaaaGreatDoor.S Go.Proofs.YtkedjlekeohpaaaGreatDoorW.PrintWords Go.Proofs.YtkedjlekeohpaaaGreatDoorW.PrintLast

theorem blank_f (c : UInt8) : toolchestref02_Blank.f (c.toNat : Int) = some (blankC c) := by
  unfold toolchestref02_Blank.f blankC
  by_cases h : c = 32
  · subst h; rfl
  · have h1 : ¬ ((c.toNat : Int) = 32) := fun e => h (by rw [← UInt8.toNat_inj]; show c.toNat = 32; omega)
    rw [if_neg h1]
    congr 1
    rw [Bool.eq_iff_iff]
    simp [h]
    constructor
    · intro e; rw [← UInt8.toNat_inj]; show c.toNat = 9; omega
    · intro e; rw [e]; rfl
theorem behTo_take (l : List UInt8) (n : Nat) : ∀ i, i ≤ n → behTo (l.take n) i = behTo l i
  | 0, _ => rfl
  | i + 1, h => by
    rw [beh_succ, beh_succ, behTo_take l n i (by omega)]
    have e : (l.take n).getD i 0 = l.getD i 0 := by
      rw [List.getD_eq_getElem?_getD, List.getD_eq_getElem?_getD, List.getElem?_take, if_pos (by omega)]
    rw [e]
theorem cut_l0 (s : ByteArray) (n : Nat) (bl : Bool) (hs : s.size ≤ 8000000) : ∀ i, i ≤ s.size → Ev (fun k => toolchestref07_cut.l0 k s (n : Int) bl (i : Int)) (((if bl && decide (0 < behTo s.data.toList i) then behTo s.data.toList i else n : Nat)) : Int)
  | 0, _ => by
    have e : (if bl && decide (0 < behTo s.data.toList 0) then behTo s.data.toList 0 else n) = n := by
      rw [if_neg]; simp [behTo]
    rw [e]
    refine ⟨2, fun k hk => ?_⟩
    obtain ⟨j, rfl⟩ : ∃ j, k = j + 2 := ⟨k - 2, by omega⟩
    simp only [toolchestref07_cut.l0]
    rw [if_neg (by omega)]
    simp only [toolchestref07_cut.j1]
    rw [if_neg (by decide)]
  | i + 1, hi => by
    cases bl with
    | false =>
      refine ⟨2, fun k hk => ?_⟩
      obtain ⟨j, rfl⟩ : ∃ j, k = j + 2 := ⟨k - 2, by omega⟩
      simp only [toolchestref07_cut.l0]
      rw [if_pos (by omega)]
      simp only [toolchestref07_cut.j1]
      rw [if_neg (by decide)]
      rfl
    | true =>
      have ih := cut_l0 s n true hs i (by omega)
      have w1 : wrap64 (((i + 1 : Nat) : Int) - 1) = (i : Int) := by unfold wrap64; omega
      have hb := bt_arr s i (by omega)
      have hg : s.data.toList.getD i 0 = s[i] := getD_byte s i (by omega)
      rw [beh_succ, hg]
      by_cases hbl : blankC s[i] = true
      · rw [if_pos hbl]
        refine ⟨2, fun k hk => ?_⟩
        obtain ⟨j, rfl⟩ : ∃ j, k = j + 2 := ⟨k - 2, by omega⟩
        simp only [toolchestref07_cut.l0]
        rw [if_pos (by omega)]
        simp only [toolchestref07_cut.j1]
        rw [if_pos trivial, w1, if_pos (nat_nn i), if_pos (nat_lt (by omega)), hb, blank_f, Option.bind_some, if_pos hbl]
        simp
      · rw [if_neg hbl]
        refine ih.step2 fun k hk => ?_
        simp only [toolchestref07_cut.l0]
        rw [if_pos (by omega)]
        simp only [toolchestref07_cut.j1]
        rw [if_pos trivial, w1, if_pos (nat_nn i), if_pos (nat_lt (by omega)), hb, blank_f, Option.bind_some, if_neg hbl]
        exact hk
theorem cut_f (s : ByteArray) (n : Nat) (bl : Bool) (hs : s.size ≤ 8000000) (hn : n < s.size) : Ev (fun k => toolchestref07_cut.f k s (n : Int) bl) ((cutN n bl s.data.toList : Nat) : Int) := by
  have h := cut_l0 s n bl hs n (by omega)
  have hl : s.data.toList.length = s.size := (Lib.size_eq s).symm
  have e : behL (s.data.toList.take n) = behTo s.data.toList n := by
    unfold behL
    rw [List.length_take, Nat.min_eq_left (by omega), behTo_take _ _ _ (Nat.le_refl _)]
  unfold cutN
  rw [e]
  exact h
theorem fold_l0 (n : Nat) (bl : Bool) (hn : 1 ≤ n) : ∀ (m : Nat) (s : ByteArray) (acc : List ByteArray), s.size ≤ m → s.size ≤ 8000000 → acc.length + s.size ≤ 9000000 →
    Ev (fun k => toolchestref07_Fold.l0 k s (n : Int) bl acc) (acc ++ (foldL n bl s.data.toList).map bs, 0) := by
  intro m
  induction m with
  | zero =>
    intro s acc h1 h2 h3
    have hl : s.data.toList.length = s.size := (Lib.size_eq s).symm
    rw [fold_step n bl hn, if_neg (by omega)]
    refine Ev.now fun k => ?_
    simp only [toolchestref07_Fold.l0]
    rw [if_neg (by omega), if_pos (by omega), List.map_cons, List.map_nil, bs_of]
  | succ m ih =>
    intro s acc h1 h2 h3
    have hl : s.data.toList.length = s.size := (Lib.size_eq s).symm
    by_cases hlt : n < s.size
    · have hc := cut_le n bl s.data.toList
      have hc1 := cut_pos n bl s.data.toList hn
      have hcf := cut_f s n bl h2 hlt
      rw [fold_step n bl hn, if_pos (by omega)]
      obtain ⟨c, hce⟩ : ∃ c, cutN n bl s.data.toList = c := ⟨_, rfl⟩
      rw [hce] at hc hc1 hcf ⊢
      have e1 : (s.extract c s.size).data.toList = s.data.toList.drop c := by
        rw [extract_bytes]; exact List.take_of_length_le (by rw [List.length_drop]; omega)
      have e2 : s.extract 0 c = bs (s.data.toList.take c) := by
        rw [← bs_of (s.extract 0 c), extract_bytes]; simp
      have hz : (s.extract c s.size).size = s.size - c := by rw [Lib.size_eq, e1, List.length_drop, hl]
      have h := ih (s.extract c s.size) (acc ++ [s.extract 0 c]) (by omega) (by omega) (by rw [List.length_append, List.length_singleton]; omega)
      rw [e1, List.append_assoc] at h
      obtain ⟨k0, hk⟩ := Ev.and hcf h
      refine ⟨k0 + 1, fun k hk1 => ?_⟩
      obtain ⟨j, rfl⟩ : ∃ j, k = j + 1 := ⟨k - 1, by omega⟩
      obtain ⟨a1, a2⟩ := hk j (by omega)
      simp only [toolchestref07_Fold.l0]
      rw [if_pos (by omega), a1, Option.bind_some, if_pos (nat_nn c), if_pos (nat_le (by omega)), if_pos (by omega), Int.toNat_natCast, a2, e2]
      rfl
    · rw [fold_step n bl hn, if_neg (by omega)]
      refine Ev.now fun k => ?_
      simp only [toolchestref07_Fold.l0]
      rw [if_neg (by omega), if_pos (by omega), List.map_cons, List.map_nil, bs_of]
theorem ref_fold_f (s : ByteArray) (hs : s.size ≤ 8000000) (n : Int) (bl : Bool) : Ev (fun k => toolchestref07_Fold.f k s n bl) ((foldE n bl s.data.toList).1.map bs, ((foldE n bl s.data.toList).2 : Int)) := by
  unfold foldE
  by_cases h1 : n < 1
  · rw [if_pos h1]
    refine Ev.now fun k => ?_
    simp only [toolchestref07_Fold.f]
    rw [if_pos h1]
    simp only [toolchestref07_Fold.j0]
    rfl
  · rw [if_neg h1]
    by_cases h2 : n > 65536
    · rw [if_pos h2]
      refine Ev.now fun k => ?_
      simp only [toolchestref07_Fold.f]
      rw [if_neg h1, decide_eq_true h2]
      simp only [toolchestref07_Fold.j0]
      rfl
    · rw [if_neg h2]
      obtain ⟨N, rfl⟩ := Int.eq_ofNat_of_zero_le (show 0 ≤ n by omega)
      rw [Int.toNat_natCast]
      have h := fold_l0 N bl (by omega) s.size s [] (Nat.le_refl _) hs (by simp; omega)
      rw [List.nil_append] at h
      refine h.step fun k hk => ?_
      simp only [toolchestref07_Fold.f]
      rw [if_neg h1, decide_eq_false h2]
      simp only [toolchestref07_Fold.j0]
      rw [if_neg (by decide)]
      exact hk
end Go.Proofs.YtkedjlekeohpaaaGreatDoor.P

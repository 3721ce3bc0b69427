/- LinesCounts: the plain law. -/
import Derived.Test.YtgbhcanfjmefiaaQx11
import Derived.Test.YtgbhcanfjmefiaaPlain
import Derived.Test.YtgbhcanfjmefiaaSizes
set_option linter.unusedVariables false
set_option linter.unusedSimpArgs false
namespace Go.Proofs.Ytgbhcanfjmefiaa.Pure
open Go.RowKit Go.Proofs.Ytgbhcanfjmefiaa.Q Go.Proofs.YtgbhcanfjmefiaaW.PrintWords Go.Proofs.YtgbhcanfjmefiaaW.PrintLast Go.Proofs.Ytgbhcanfjmefiaa.S

theorem bt_list (s : ByteArray) (i : Nat) (h : i < s.data.toList.length) : bt s (i : Int) = ((s.data.toList[i]).toNat : Int) := by
  have h' : i < s.size := by rw [Lib.size_eq]; exact h
  unfold bt
  rw [dif_pos (by simpa using h')]
  rfl
theorem wrap_nat (n : Nat) (h : n ≤ 2000000) : wrap64 ((n : Int) + 1) = ((n + 1 : Nat) : Int) := by unfold wrap64; omega
theorem splitL_snoc_yes (p : UInt8 → Bool) (l : List UInt8) (c : UInt8) (h : p c = true) : splitL p (l ++ [c]) = splitL p l ++ [[]] ∧ (spl p (l ++ [c])).2 = [] := by
  refine ⟨by rw [show l ++ [c] = l ++ c :: [] from rfl, splitL_app p l [] c h, splitL_nil], ?_⟩
  rw [spl_snoc]; unfold stepL; rw [if_pos h]
theorem spl_snoc_no (p : UInt8 → Bool) (l : List UInt8) (c : UInt8) (h : p c = false) : spl p (l ++ [c]) = ((spl p l).1, (spl p l).2 ++ [c]) := by
  rw [spl_snoc]; unfold stepL; rw [if_neg (by rw [h]; decide)]
theorem words_yes (p : UInt8 → Bool) (l : List UInt8) (c : UInt8) (h : p c = true) : wordsL p (l ++ [c]) = wordsL p l := by
  unfold wordsL; rw [(splitL_snoc_yes p l c h).1]; simp
theorem words_no (p : UInt8 → Bool) (l : List UInt8) (c : UInt8) (h : p c = false) : wordsL p (l ++ [c]) = wordsL p l + (if (spl p l).2 = [] then 1 else 0) := by
  unfold wordsL splitL
  rw [spl_snoc_no p l c h]
  cases hl : (spl p l).2 <;> simp [hl]
theorem last_empty (p : UInt8 → Bool) (l : List UInt8) (c : UInt8) : ((spl p (l ++ [c])).2 = []) ↔ p c = true := by
  rw [spl_snoc]; unfold stepL
  cases h : p c <;> simp [h]
theorem long_yes (p : UInt8 → Bool) (l : List UInt8) (c : UInt8) (h : p c = true) : longL (splitL p (l ++ [c])) = longL (splitL p l) := by
  rw [(splitL_snoc_yes p l c h).1, longL_app]; simp [longL]
theorem long_no (p : UInt8 → Bool) (l : List UInt8) (c : UInt8) (h : p c = false) : longL (splitL p (l ++ [c])) = max (longL (splitL p l)) ((spl p l).2.length + 1) := by
  unfold splitL
  rw [spl_snoc_no p l c h, longL_app, longL_app]
  simp [longL]
theorem snoc_ind {C : List UInt8 → Prop} (h0 : C []) (h1 : ∀ l c, C l → C (l ++ [c])) (l : List UInt8) : C l := by
  rw [← List.reverse_reverse l]
  induction l.reverse with
  | nil => exact h0
  | cons c l ih => rw [List.reverse_cons]; exact h1 _ _ ih
theorem last_le (p : UInt8 → Bool) (l : List UInt8) : (spl p l).2.length ≤ l.length := by
  refine snoc_ind (C := fun l => (spl p l).2.length ≤ l.length) (by simp [spl_nil]) (fun l c ih => ?_) l
  rw [spl_snoc]; unfold stepL
  split <;> simp <;> omega
theorem idle_f (x : Int) : toolchestref02_idle.f x = some (idleI x) := by
  unfold toolchestref02_idle.f idleI
  by_cases h : x = 32
  · simp [h]
  · rw [if_neg h]
    by_cases h2 : x ≥ 9
    · rw [if_pos h2]; simp [h, show 9 ≤ x from h2]
    · rw [if_neg h2]; simp [h]; omega
def idleB (b : UInt8) : Bool := idleI (b.toNat : Int)
theorem cz_of (i : Nat) : ((i : Int) = 0) ↔ i = 0 := by omega
theorem mx_of (a b : Nat) : mx (a : Int) (b : Int) = ((max a b : Nat) : Int) := by unfold mx; omega
theorem prev_facts (s : ByteArray) (i : Nat) (hi : i < s.size) (hb : s.size ≤ 1048576) : ∀ h0 : i ≠ 0, ∃ hlt2 : i - 1 < s.data.toList.length, wrap64 ((i : Int) - 1) = ((i - 1 : Nat) : Int) ∧ 0 ≤ ((i - 1 : Nat) : Int) ∧ ((i - 1 : Nat) : Int) < (s.size : Int) ∧ bt s ((i - 1 : Nat) : Int) = ((s.data.toList[i - 1]).toNat : Int) ∧ ((spl idleB (s.data.toList.take i)).2 = [] ↔ idleI ((s.data.toList[i - 1]).toNat : Int) = true) := by
  intro h0
  have hlt : i < s.data.toList.length := by rw [← Lib.size_eq]; exact hi
  have hlt2 : i - 1 < s.data.toList.length := by omega
  have x1 : wrap64 ((i : Int) - 1) = ((i - 1 : Nat) : Int) := by unfold wrap64; omega
  have x2 : 0 ≤ ((i - 1 : Nat) : Int) := by omega
  have x3 : ((i - 1 : Nat) : Int) < (s.size : Int) := by omega
  have x4 : i - 1 + 1 = i := by omega
  refine ⟨hlt2, x1, x2, x3, bt_list s (i - 1) hlt2, ?_⟩
  have hle := last_empty idleB (s.data.toList.take (i - 1)) s.data.toList[i - 1]
  rw [← List.take_succ_eq_append_getElem hlt2, x4] at hle
  exact hle
/-- The state of the reference's loop ahead of place i. -/
theorem count_loop (s : ByteArray) (hs : s.size ≤ 1048576) : ∀ (m i j : Nat) (ln wd lg li : Nat), i + m = s.size → ln = (s.data.toList.take i).count 10 → wd = wordsL idleB (s.data.toList.take i) → lg = longL (splitL isNl (s.data.toList.take i)) → li = (spl isNl (s.data.toList.take i)).2.length →
    ln ≤ i → wd ≤ i → lg ≤ i → li ≤ i →
    toolchestref02_Count.l0 (2 * m + 1 + j) s ln wd lg li i = some (((s.data.toList.count 10 : Nat) : Int), ((wordsL idleB s.data.toList : Nat) : Int), (s.size : Int), ((longL (splitL isNl s.data.toList) : Nat) : Int)) := by
  intro m
  induction m with
  | zero =>
    intro i j ln wd lg li hi e1 e2 e3 e4 _ _ _ _
    have hii : i = s.size := by clear e1 e2 e3 e4; omega
    have e : s.data.toList.take i = s.data.toList := by rw [hii, Lib.size_eq, List.take_length]
    rw [e] at e1 e2 e3 e4
    rw [← e1, ← e2, ← e3]
    clear e1 e2 e3 e4 e
    rw [show 2 * 0 + 1 + j = j + 1 by omega]
    simp only [toolchestref02_Count.l0]
    rw [if_neg (by omega)]
  | succ m ih =>
    intro i j ln wd lg li hi e1 e2 e3 e4 b1 b2 b3 b4
    have hlt : i < s.data.toList.length := by rw [← Lib.size_eq]; clear e1 e2 e3 e4 ih; omega
    have hi2 : i < s.size := by clear e1 e2 e3 e4 ih; omega
    have htk : s.data.toList.take (i + 1) = s.data.toList.take i ++ [s.data.toList[i]] := List.take_succ_eq_append_getElem hlt
    have w1 := wrap_nat ln (by clear e1 e2 e3 e4 ih; omega)
    have w2 := wrap_nat wd (by clear e1 e2 e3 e4 ih; omega)
    have w3 := wrap_nat li (by clear e1 e2 e3 e4 ih; omega)
    have w4 := wrap_nat i (by clear e1 e2 e3 e4 ih; omega)
    have hfu : 2 * (m + 1) + 1 + j = (2 * m + 1 + j) + 1 + 1 := by clear e1 e2 e3 e4 ih; omega
    have him : i + 1 + m = s.size := by clear e1 e2 e3 e4 ih; omega
    have ci : (0 : Int) ≤ (i : Int) := Int.natCast_nonneg i
    have ci2 : (i : Int) < (s.size : Int) := Int.ofNat_lt.2 hi2
    have cz : ((i : Int) = 0) ↔ i = 0 := cz_of i
    have hprev := prev_facts s i hi2 hs
    have hb := bt_list s i hlt
    have h1i : 1 ≤ i + 1 := Nat.le_add_left 1 i
    rw [hfu]
    clear hfu hi
    have hnil : i = 0 → (spl idleB (s.data.toList.take i)).2 = [] := by rintro rfl; rfl
    generalize s.data.toList[i] = c at htk hb
    generalize s.data.toList.take i = l at htk e1 e2 e3 e4 hprev hnil
    have hw : ∀ (ln' lg' li' : Nat), ln' = (l ++ [c]).count 10 → lg' = longL (splitL isNl (l ++ [c])) → li' = (spl isNl (l ++ [c])).2.length → ln' ≤ i + 1 → lg' ≤ i + 1 → li' ≤ i + 1 →
        toolchestref02_Count.j1 (2 * m + 1 + j + 1) s ln' wd lg' li' i = some (((s.data.toList.count 10 : Nat) : Int), ((wordsL idleB s.data.toList : Nat) : Int), (s.size : Int), ((longL (splitL isNl s.data.toList) : Nat) : Int)) := by
      intro ln' lg' li' f1 f3 f4 c1 c3 c4
      rw [← htk] at f1 f3 f4
      simp only [toolchestref02_Count.j1]
      rw [if_pos ci, if_pos ci2, hb, idle_f, Option.bind_some, w4]
      have b2' : wd ≤ i + 1 := Nat.le_succ_of_le b2
      have b2'' : wd + 1 ≤ i + 1 := Nat.succ_le_succ b2
      cases hid : idleI (c.toNat : Int) with
      | true =>
        have hwy := words_yes idleB l c hid
        rw [← htk] at hwy
        rw [if_pos rfl]
        exact ih (i + 1) j ln' wd lg' li' him f1 (e2.trans hwy.symm) f3 f4 c1 b2' c3 c4
      | false =>
        have hwn := words_no idleB l c hid
        rw [← htk] at hwn
        rw [if_neg (by decide)]
        by_cases h0 : i = 0
        · rw [if_pos (cz.2 h0), w2]
          rw [if_pos (hnil h0)] at hwn
          exact ih (i + 1) j ln' (wd + 1) lg' li' him f1 (by rw [hwn, e2]) f3 f4 c1 b2'' c3 c4
        · obtain ⟨hlt2, w5, d1, d2, hb2, hle⟩ := hprev h0
          rw [if_neg (fun h => h0 (cz.1 h)), w5, if_pos d1, if_pos d2, hb2, idle_f, Option.bind_some]
          cases hid2 : idleI ((s.data.toList[i - 1]).toNat : Int) with
          | true =>
            rw [if_pos rfl, w2]
            rw [if_pos (hle.2 hid2)] at hwn
            exact ih (i + 1) j ln' (wd + 1) lg' li' him f1 (by rw [hwn, e2]) f3 f4 c1 b2'' c3 c4
          | false =>
            rw [if_neg (by decide)]
            rw [if_neg (fun e => by rw [hle.1 e] at hid2; cases hid2)] at hwn
            exact ih (i + 1) j ln' wd lg' li' him f1 (by rw [hwn, e2, Nat.add_zero]) f3 f4 c1 b2' c3 c4
    clear ih hprev hnil
    simp only [toolchestref02_Count.l0]
    rw [if_pos ci2, if_pos ci, hb]
    have a1 : lg ≤ i + 1 := Nat.le_succ_of_le b3
    have a2 : ln ≤ i + 1 := Nat.le_succ_of_le b1
    have a3 : ln + 1 ≤ i + 1 := Nat.succ_le_succ b1
    have a4 : li + 1 ≤ i + 1 := Nat.succ_le_succ b4
    by_cases hn : c = 10
    · have hn' : isNl c = true := (isNl_iff c).2 hn
      have hc10 : (c.toNat : Int) = 10 := by rw [hn]; rfl
      rw [if_pos hc10, w1]
      refine hw (ln + 1) lg 0 ?_ ?_ ?_ a3 a1 (Nat.zero_le _)
      · rw [List.count_append, e1, hn]; rfl
      · rw [e3]; exact (long_yes isNl l c hn').symm
      · rw [(splitL_snoc_yes isNl l c hn').2]; rfl
    · have hn' : isNl c = false := by
        cases h : isNl c with
        | false => rfl
        | true => exact absurd ((isNl_iff c).1 h) hn
      have hmx : mx (lg : Int) ((li + 1 : Nat) : Int) = ((max lg (li + 1) : Nat) : Int) := by exact mx_of lg (li + 1)
      have hne : ¬ ((c.toNat : Int) = 10) := fun e => hn (UInt8.toNat_inj.1 (Int.ofNat_inj.1 e))
      rw [if_neg hne, w3, hmx]
      refine hw ln (max lg (li + 1)) (li + 1) ?_ ?_ ?_ a2 (Nat.max_le.2 ⟨a1, a4⟩) a4
      · rw [List.count_append, ← e1, List.count_singleton]; simp [hn]
      · rw [e3, e4]; exact (long_no isNl l c hn').symm
      · rw [spl_snoc_no isNl l c hn', e4, List.length_append]; rfl
theorem beyond_more (k : Nat) (n : Int) (hk : 2 ≤ k) (h0 : 0 ≤ n) (h1 : n ≤ 4611686018427387904) : toolchestlaw01_Beyond.f k [n] = some (decide (n > 1048576)) := by
  obtain ⟨j, rfl⟩ : ∃ j, k = j + 1 + 1 := ⟨k - 2, by omega⟩
  have w1 : wrap64 n = n := by unfold wrap64; omega
  have w2 : wrap64 1 = 1 := by unfold wrap64; omega
  simp [toolchestlaw01_Beyond.f, toolchestlaw01_Beyond.l0, rd, w1, w2]
  by_cases h : 1048576 < n <;> simp [h]
theorem LinesCounts : toolchestlaw02_LinesCounts.Pure := by
  intro a0 h0
  by_cases hb : a0.size ≤ 1048576
  · refine ⟨2 * a0.size + 1 + 2, ?_⟩
    have hc := count_loop a0 hb a0.size 0 2 0 0 0 0 (by omega) rfl rfl rfl rfl (by omega) (by omega) (by omega) (by omega)
    have hs : a0.size ≤ 8796093022000 := by omega
    unfold toolchestlaw02_LinesCounts.f toolchestref02_Count.f lines_Count.f
    rw [beyond_more _ _ (by omega) (by omega) (by omega), Option.bind_some, if_neg (by simp; omega), if_pos hs, Option.bind_some]
    have hz : ((0 : Nat) : Int) = 0 := rfl
    rw [hz] at hc
    rw [hc, Option.bind_some]
    simp only
    have e2 : (runsOf (fun b => idleI (b.toNat : Int)) a0).length = wordsL idleB a0.data.toList := by rw [runsOf_spl, List.length_map]; rfl
    have e4 : longestOf (splitOf a0).1 = (longL (splitL isNl a0.data.toList) : Int) := by rw [splitOf_lines, longest_bs, long_lines]
    have e1 : Lib.countByte a0.data.toList 10 = a0.data.toList.count 10 := rfl
    rw [e1, e2, e4, if_pos rfl, if_pos rfl, if_pos trivial, beq_self_eq_true]
  · refine ⟨2, ?_⟩
    unfold toolchestlaw02_LinesCounts.f
    rw [beyond_one _ (by omega) (by omega)]
    simp; omega
end Go.Proofs.Ytgbhcanfjmefiaa.Pure

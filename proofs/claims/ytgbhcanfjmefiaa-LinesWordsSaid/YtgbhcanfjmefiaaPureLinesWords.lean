/- LinesWords: the plain law. -/
import Derived.Test.YtgbhcanfjmefiaaQx15
import Derived.Test.YtgbhcanfjmefiaaAlive
import Derived.Test.YtgbhcanfjmefiaaEv
set_option linter.unusedVariables false
set_option linter.unusedSimpArgs false
namespace Go.Proofs.Ytgbhcanfjmefiaa.Pure
open Go.RowKit Go.Proofs.Ytgbhcanfjmefiaa.Q Go.Proofs.YtgbhcanfjmefiaaW.PrintWords Go.Proofs.YtgbhcanfjmefiaaW.PrintLast Go.Proofs.Ytgbhcanfjmefiaa.S

def blankB (b : UInt8) : Bool := blankI (b.toNat : Int)
def oddB (b : UInt8) : Bool := decide (11 ≤ b.toNat) && decide (b.toNat ≤ 13)
def sumW (ls : List (List UInt8)) : Nat := (ls.map (wordsL blankB)).sum
theorem idle_blank (c : UInt8) (h1 : isNl c = false) (h2 : oddB c = false) : idleB c = blankB c := by
  have hn : c.toNat ≠ 10 := fun e => by
    have : c = 10 := UInt8.toNat_inj.1 e
    rw [(isNl_iff c).2 this] at h1; cases h1
  unfold oddB at h2
  unfold idleB blankB idleI blankI
  rw [Bool.and_eq_false_iff, decide_eq_false_iff_not, decide_eq_false_iff_not] at h2
  rw [Bool.eq_iff_iff]
  simp
  omega
theorem words_lines (l : List UInt8) : wordsL idleB l = ((linesL l).map (wordsL idleB)).sum := by
  have key : ∀ l, wordsL idleB l = ((splitL isNl l).map (wordsL idleB)).sum := by
    refine parts_ind isNl ?_ ?_
    · intro l hl
      unfold splitL
      rw [splitL_one isNl l hl]
      simp
    · intro l c r hl hc ih
      have hc' : idleB c = true := by rw [(isNl_iff c).1 hc]; rfl
      have e2 : splitL isNl l = [l] := by unfold splitL; rw [splitL_one isNl l hl]; rfl
      rw [splitL_app isNl l r c hc, words_app idleB l r c hc', ih, e2]
      simp
  unfold linesL
  by_cases h : l = []
  · rw [if_pos h, h]; rfl
  · rw [if_neg h, ← key]
    rcases ends_or l with ⟨b, rfl⟩ | h2
    · rw [trim_nl, words_app idleB b [] 10 rfl]; rfl
    · rw [(trim_other l h2).1]
theorem words_same (ls : List (List UInt8)) (h1 : ∀ x ∈ ls, ∀ c ∈ x, isNl c = false) (h2 : ∀ x ∈ ls, ∀ c ∈ x, oddB c = false) : (ls.map (wordsL idleB)).sum = sumW ls := by
  unfold sumW
  congr 1
  refine List.map_congr_left fun x hx => ?_
  unfold wordsL splitL
  rw [splitL_congr idleB blankB x fun c hc => idle_blank c (h1 x hx c hc) (h2 x hx c hc)]
def anyOdd (ls : List (List UInt8)) : Bool := ls.any fun x => x.any oddB
theorem odd_round (o : Bool) (v : Nat) : (if o = true then true else (if (v : Int) ≥ 11 then decide ((v : Int) ≤ 13) else false)) = (o || (decide (11 ≤ v) && decide (v ≤ 13))) := by
  cases o
  · by_cases h : 11 ≤ v
    · rw [if_neg (by decide), if_pos (by omega), decide_eq_true h, Bool.false_or, Bool.true_and]
      rw [decide_eq_decide]; omega
    · rw [if_neg (by decide), if_neg (by omega), decide_eq_false h]; rfl
  · rfl
theorem words_l1 (W X : Int) (l : List ByteArray) (n m : Int) (i : Nat) (x : ByteArray) (hi : i < l.length) (hx : l[i] = x) (hsz : x.size ≤ 1048576) (hli : i ≤ 2000000) : ∀ (d j : Nat) (o : Bool), j + d = x.size →
    Ev (fun k => toolchestlaw02_LinesWords.l0 k W X l n m (o || (x.data.toList.drop j).any oddB) ((i + 1 : Nat) : Int)) true →
    Ev (fun k => toolchestlaw02_LinesWords.l1 k W X l n m o (i : Int) (j : Int)) true := by
  have ci := nat_nn i
  have ci2 := nat_lt hi
  have hr : rdOf ByteArray.empty l (i : Int) = x := by rw [rdOf_at l i hi, hx]
  have hw := wrap_one i (by omega)
  have hl : x.data.toList.length = x.size := (Lib.size_eq x).symm
  intro d
  induction d with
  | zero =>
    intro j o hj hn
    have hjj : ¬ ((j : Nat) : Int) < (x.size : Int) := not_nat_lt (by omega)
    rw [List.drop_of_length_le (by omega)] at hn
    simp only [List.any_nil, Bool.or_false] at hn
    refine hn.step fun k hk => ?_
    simp only [toolchestlaw02_LinesWords.l1]
    rw [if_pos ci, if_pos ci2, hr, if_neg hjj, hw]
    exact hk
  | succ d ih =>
    intro j o hj hn
    have hjl : j < x.data.toList.length := by omega
    have hjj : ((j : Nat) : Int) < (x.size : Int) := nat_lt (by omega)
    have cj := nat_nn j
    have hwj := wrap_one j (by omega)
    have hb := bt_list x j hjl
    have hod := odd_round o (x.data.toList[j]).toNat
    rw [List.drop_eq_getElem_cons hjl, List.any_cons, ← Bool.or_assoc] at hn
    refine (ih (j + 1) (o || oddB x.data.toList[j]) (by omega) hn).step fun k hk => ?_
    have hk' : toolchestlaw02_LinesWords.l1 k W X l n m (o || oddB x.data.toList[j]) (i : Int) ((j + 1 : Nat) : Int) = some true := hk
    simp only [toolchestlaw02_LinesWords.l1]
    rw [if_pos ci, if_pos ci2, hr, if_pos hjj, hwj, if_pos cj, hb]
    have hod' : (o || oddB x.data.toList[j]) = (if o = true then true else (if ((x.data.toList[j]).toNat : Int) ≥ 11 then decide (((x.data.toList[j]).toNat : Int) ≤ 13) else false)) := hod.symm
    rw [hod'] at hk'
    clear hod hod' hk hb hn
    cases o with
    | true => rw [if_pos rfl] at hk' ⊢; exact hk'
    | false =>
      rw [if_neg (by decide)] at hk' ⊢
      by_cases h11 : ((x.data.toList[j]).toNat : Int) ≥ 11
      · rw [if_pos h11] at hk' ⊢; exact hk'
      · rw [if_neg h11] at hk' ⊢; exact hk'
theorem sumW_drop {ls : List (List UInt8)} {i : Nat} (h : i < ls.length) : sumW (ls.drop i) = wordsL blankB ls[i] + sumW (ls.drop (i + 1)) := by
  rw [List.drop_eq_getElem_cons h]; unfold sumW; rw [List.map_cons, List.sum_cons]
theorem longL_drop {ls : List (List UInt8)} {i : Nat} (h : i < ls.length) : longL (ls.drop i) = max ls[i].length (longL (ls.drop (i + 1))) := by
  rw [List.drop_eq_getElem_cons h]; rfl
theorem anyOdd_drop {ls : List (List UInt8)} {i : Nat} (h : i < ls.length) : anyOdd (ls.drop i) = (ls[i].any oddB || anyOdd (ls.drop (i + 1))) := by
  rw [List.drop_eq_getElem_cons h]; rfl
theorem fields_blank (x : List UInt8) (h : x.length ≤ 1048576) : ∃ r : List ByteArray, lines_Fields.f (bs x) 0 = some r ∧ (r.length : Int) = ((wordsL blankB x : Nat) : Int) := by
  refine ⟨((splitL blankB x).filter (fun x => !x.isEmpty)).map bs, ?_, by rw [List.length_map]; rfl⟩
  unfold lines_Fields.f fieldsOf
  rw [if_pos (by rw [bs_size]; omega), if_pos rfl, runsOf_spl, bs_toList]; rfl
theorem le_four (a b n : Nat) (h : n + (a + b) ≤ 2000000) : n + a ≤ 4000000000 := by omega
theorem words_l0 (W X : Nat) (ls : List (List UInt8)) (hlen : ls.length ≤ 2000000) (hall : ∀ x ∈ ls, x.length ≤ 1048576) : ∀ (d i : Nat) (n m : Nat) (o : Bool), i + d = ls.length → n + sumW (ls.drop i) ≤ 2000000 → X = max m (longL (ls.drop i)) → ((o || anyOdd (ls.drop i)) = true ∨ n + sumW (ls.drop i) = W) →
    Ev (fun k => toolchestlaw02_LinesWords.l0 k (W : Int) (X : Int) (ls.map bs) (n : Int) (m : Int) o (i : Int)) true := by
  intro d
  induction d with
  | zero =>
    intro i n m o hi hn hX hW
    obtain rfl : i = ls.length := by clear hn hX hW; omega
    rw [List.drop_length] at hn hX hW
    have hi' : ¬ (ls.length : Int) < ((ls.map bs).length : Int) := by rw [List.length_map]; exact Int.lt_irrefl _
    have hXm : (X : Int) = (m : Int) := by rw [hX]; simp [longL]
    simp only [anyOdd, List.any_nil, Bool.or_false, sumW, List.map_nil, List.sum_nil, Nat.add_zero] at hW
    clear hn hX
    refine Ev.now fun k => ?_
    simp only [toolchestlaw02_LinesWords.l0]
    rw [if_neg hi', if_pos hXm]
    rcases hW with h | h
    · rw [if_pos h]
    · rw [h]; split
      · rfl
      · rw [beq_self_eq_true]
  | succ d ih =>
    intro i n m o hi hn hX hW
    have hlt : i < ls.length := by clear hn hX hW; omega
    have hi1 : i + 1 + d = ls.length := by clear hn hX hW; omega
    have hi2 : i ≤ 2000000 := by clear hn hX hW; omega
    have hlt' : i < (ls.map bs).length := by rw [List.length_map]; exact hlt
    have hx : (ls.map bs)[i] = bs ls[i] := List.getElem_map _
    have hmem := hall _ (List.getElem_mem hlt)
    rw [sumW_drop hlt] at hn hW
    rw [longL_drop hlt] at hX
    rw [anyOdd_drop hlt] at hW
    obtain ⟨r, hf, hfl⟩ := fields_blank ls[i] hmem
    have hwn : wrap64 ((n : Int) + ((wordsL blankB ls[i] : Nat) : Int)) = ((n + wordsL blankB ls[i] : Nat) : Int) := wrap_add _ _ (le_four _ _ _ hn)
    have hmx : mx (m : Int) ((bs ls[i]).size : Int) = ((max m ls[i].length : Nat) : Int) := by rw [bs_size, mx_of]
    have hnx := ih (i + 1) (n + wordsL blankB ls[i]) (max m ls[i].length) (o || ls[i].any oddB) hi1 (by rw [Nat.add_assoc]; exact hn) (by rw [hX, Nat.max_assoc]) (by
      rcases hW with h | h
      · left; rw [Bool.or_assoc]; exact h
      · right; rw [Nat.add_assoc]; exact h)
    have h1 := words_l1 (W : Int) (X : Int) (ls.map bs) ((n + wordsL blankB ls[i] : Nat) : Int) ((max m ls[i].length : Nat) : Int) i (bs ls[i]) hlt' hx (by rw [bs_size]; exact hmem) hi2 (bs ls[i]).size 0 o (Nat.zero_add _) (by rw [bs_toList, List.drop_zero]; exact hnx)
    refine h1.step fun k hk => ?_
    simp only [toolchestlaw02_LinesWords.l0]
    rw [if_pos (nat_lt hlt'), if_pos (nat_nn i), rdOf_at _ i hlt', hx, hf, Option.bind_some, hfl, hwn, hmx]
    exact hk
theorem words_len' (p : UInt8 → Bool) (l : List UInt8) : wordsL p l ≤ l.length := by
  refine parts_ind p (C := fun l => wordsL p l ≤ l.length) ?_ ?_ l
  · intro l hl
    unfold wordsL splitL
    rw [splitL_one p l hl]
    cases l <;> simp
  · intro l c r hl hc ih
    rw [words_app p l r c hc]
    have : wordsL p l ≤ l.length := by
      unfold wordsL splitL
      rw [splitL_one p l hl]
      cases l <;> simp
    simp only [List.length_append, List.length_cons]
    exact Nat.le_trans (Nat.add_le_add this ih) (Nat.le_of_lt (by rw [← Nat.add_assoc]; exact Nat.lt_succ_self _))
/-- No more words than bytes, over all lines. -/
theorem sum_lines (l : List UInt8) : sumW (linesL l) ≤ l.length := by
  have h1 : ∀ ls : List (List UInt8), sumW ls ≤ (endsL ls).length := by
    intro ls
    induction ls with
    | nil => exact Nat.le_refl _
    | cons x ls ih =>
      have e : sumW (x :: ls) = wordsL blankB x + sumW ls := by unfold sumW; rw [List.map_cons, List.sum_cons]
      have e2 : (endsL (x :: ls)).length = x.length + 1 + (endsL ls).length := by unfold endsL; rw [List.flatMap_cons, List.length_append, List.length_append]; rfl
      rw [e, e2]
      exact Nat.add_le_add (Nat.le_succ_of_le (words_len' _ _)) ih
  have h2 : ∀ l, sumW (splitL isNl l) ≤ l.length := by
    refine parts_ind isNl ?_ ?_
    · intro l hl
      unfold splitL
      rw [splitL_one isNl l hl]
      show sumW [l] ≤ _
      unfold sumW
      rw [List.map_cons, List.sum_cons, List.map_nil, List.sum_nil, Nat.add_zero]
      exact words_len' _ _
    · intro l c r hl hc ih
      have e2 : splitL isNl l = [l] := by unfold splitL; rw [splitL_one isNl l hl]; rfl
      rw [splitL_app isNl l r c hc, e2]
      show sumW (l :: splitL isNl r) ≤ _
      have e : sumW (l :: splitL isNl r) = wordsL blankB l + sumW (splitL isNl r) := by unfold sumW; rw [List.map_cons, List.sum_cons]
      rw [e, List.length_append, List.length_cons]
      exact Nat.add_le_add (words_len' _ _) (Nat.le_succ_of_le ih)
  unfold linesL
  split
  · exact Nat.zero_le _
  · refine Nat.le_trans (h2 _) ?_
    unfold Lib.trimSuffix; split <;> simp
theorem LinesWords : toolchestlaw02_LinesWords.Pure := by
  intro a0 h0
  by_cases hb : a0.size ≤ 1048576
  · have hl := linesL_len a0.data.toList
    have hle := linesL_le a0.data.toList
    have hnn := linesL_none a0.data.toList
    have hsz : a0.data.toList.length = a0.size := (Lib.size_eq a0).symm
    have hws := sum_lines a0.data.toList
    have hws2 : 0 + sumW ((linesL a0.data.toList).drop 0) ≤ 2000000 := by
      rw [List.drop_zero, Nat.zero_add]
      exact Nat.le_trans hws (by rw [hsz]; clear hws hle hnn hl hsz; omega)
    have hl2 : (linesL a0.data.toList).length ≤ 2000000 := Nat.le_trans hl (by rw [hsz]; clear hws hws2 hle hnn hl hsz; omega)
    have hle2 : ∀ x ∈ linesL a0.data.toList, x.length ≤ 1048576 := fun x hx => Nat.le_trans (hle x hx) (by rw [hsz]; exact hb)
    have hX : longL (splitL isNl a0.data.toList) = max 0 (longL ((linesL a0.data.toList).drop 0)) := by rw [List.drop_zero, ← long_lines, Nat.zero_max]
    obtain ⟨k0, hk⟩ := words_l0 (wordsL idleB a0.data.toList) (longL (splitL isNl a0.data.toList)) (linesL a0.data.toList) hl2 hle2 (linesL a0.data.toList).length 0 0 0 false (Nat.zero_add _) hws2 hX (by
      rw [List.drop_zero, Bool.false_or]
      cases ho : anyOdd (linesL a0.data.toList) with
      | true => exact .inl rfl
      | false =>
        right
        rw [Nat.zero_add, words_lines, words_same _ hnn]
        intro x hx c hc
        unfold anyOdd at ho
        rw [List.any_eq_false] at ho
        have := ho x hx
        rw [Bool.not_eq_true, List.any_eq_false] at this
        simpa using this c hc)
    clear hws hws2 hl2 hle2 hX hl hle hnn hsz
    refine ⟨max k0 40 + 1, ?_⟩
    unfold toolchestlaw02_LinesWords.f
    rw [alive_ge _ (by omega), Option.bind_some, if_pos rfl, beyond_ge _ _ (by omega) (by omega) (by omega), Option.bind_some]
    simp only [toolchestlaw02_LinesWords.j0]
    rw [if_neg (by simp; omega), count_f a0 (by omega), Option.bind_some, split_f a0 (by omega), Option.bind_some]
    exact hk _ (by omega)
  · refine ⟨41, ?_⟩
    unfold toolchestlaw02_LinesWords.f
    rw [alive_ge 41 (by decide), Option.bind_some, if_pos rfl, beyond_ge 41 _ (by decide) (by omega) (by omega), Option.bind_some]
    simp only [toolchestlaw02_LinesWords.j0]
    rw [if_pos (by simp; omega), alive_ge 40 (by decide), Option.bind_some]
end Go.Proofs.Ytgbhcanfjmefiaa.Pure

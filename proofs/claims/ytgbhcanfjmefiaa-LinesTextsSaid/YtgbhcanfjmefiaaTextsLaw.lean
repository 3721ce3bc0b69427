/- LinesTexts: the plain law, and its walk. -/
import Derived.Test.YtgbhcanfjmefiaaQx18
import Derived.Test.YtgbhcanfjmefiaaAlive
import Derived.Test.YtgbhcanfjmefiaaEv
set_option linter.unusedVariables false
set_option linter.unusedSimpArgs false
namespace Go.Proofs.Ytgbhcanfjmefiaa.Pure
open Go.RowKit Go.Proofs.Ytgbhcanfjmefiaa.Q Go.Proofs.YtgbhcanfjmefiaaW.PrintWords Go.Proofs.YtgbhcanfjmefiaaW.PrintLast Go.Proofs.Ytgbhcanfjmefiaa.S

theorem textsSize_ge (k : Nat) (l : List ByteArray) (n : Int) (hk : l.length + 1 ≤ k) (h : toolchestlaw01_TextsSize.f (l.length + 1) l = some n) : toolchestlaw01_TextsSize.f k l = some n := by
  obtain ⟨j, rfl⟩ : ∃ j, k = l.length + 1 + j := ⟨k - (l.length + 1), by omega⟩
  clear hk
  induction j with
  | zero => exact h
  | succ j ih => exact (toolchestlaw01_TextsSize.mono l (l.length + 1 + j)) _ ih
theorem same_loop (l : List ByteArray) (hl : l.length ≤ 2000000) : ∀ (d i : Nat), i + d = l.length → Ev (fun k => toolchestlaw01_SameTexts.l0 k l l (i : Int)) true := by
  intro d
  induction d with
  | zero =>
    intro i hi
    refine Ev.now fun k => ?_
    simp only [toolchestlaw01_SameTexts.l0]
    rw [if_neg (not_nat_lt (by omega))]
  | succ d ih =>
    intro i hi
    have hlt : i < l.length := by omega
    have hw := wrap_one i (by omega)
    refine (ih (i + 1) (by omega)).step fun k hk => ?_
    simp only [toolchestlaw01_SameTexts.l0]
    rw [if_pos (nat_lt hlt), if_pos (nat_nn i), if_pos (nat_lt hlt), if_pos trivial, hw]
    exact hk
theorem same_self (l : List ByteArray) (hl : l.length ≤ 2000000) : Ev (fun k => toolchestlaw01_SameTexts.f k l l) true := by
  obtain ⟨k0, hk⟩ := same_loop l hl l.length 0 (Nat.zero_add _)
  refine ⟨k0, fun k h => ?_⟩
  show toolchestlaw01_SameTexts.f k l l = some true
  unfold toolchestlaw01_SameTexts.f
  rw [if_pos rfl]
  exact hk k h
theorem texts_l1 (l : List ByteArray) (i : Nat) (x : ByteArray) (hi : i < l.length) (hx : l[i] = x) (hsz : x.size ≤ 1048576) (hli : i ≤ 2000000) : ∀ (d j : Nat), j + d = x.size →
    ((∀ c ∈ x.data.toList.drop j, isNl c = false) → Ev (fun k => toolchestlaw02_LinesTexts.l0 k l ((i + 1 : Nat) : Int)) true) →
    Ev (fun k => toolchestlaw02_LinesTexts.l1 k l (i : Int) (j : Int)) true := by
  have ci := nat_nn i
  have ci2 := nat_lt hi
  have hr : rdOf ByteArray.empty l (i : Int) = x := by rw [rdOf_at l i hi, hx]
  have hw := wrap_one i (by omega)
  have hl : x.data.toList.length = x.size := (Lib.size_eq x).symm
  intro d
  induction d with
  | zero =>
    intro j hj hn
    have hjj : ¬ ((j : Nat) : Int) < (x.size : Int) := not_nat_lt (by omega)
    rw [List.drop_of_length_le (by omega)] at hn
    refine (hn (by simp)).step fun k hk => ?_
    simp only [toolchestlaw02_LinesTexts.l1]
    rw [if_pos ci, if_pos ci2, hr, if_neg hjj, hw]
    exact hk
  | succ d ih =>
    intro j hj hn
    have hjl : j < x.data.toList.length := by omega
    have hjj : ((j : Nat) : Int) < (x.size : Int) := nat_lt (by omega)
    have hj1 : j + 1 + d = x.size := by omega
    have cj := nat_nn j
    have hwj := wrap_one j (by omega)
    have hb := bt_list x j hjl
    cases hnl : isNl x.data.toList[j] with
    | true =>
      have h10 : (((x.data.toList[j]).toNat : Nat) : Int) = 10 := by rw [(isNl_iff _).1 hnl]; rfl
      refine Ev.now fun k => ?_
      simp only [toolchestlaw02_LinesTexts.l1]
      rw [if_pos ci, if_pos ci2, hr, if_pos hjj, if_pos cj, hb, if_pos h10]
    | false =>
      have hne : ¬ (((x.data.toList[j]).toNat : Int) = 10) := fun e => by
        have : x.data.toList[j] = 10 := UInt8.toNat_inj.1 (Int.ofNat_inj.1 e)
        rw [(isNl_iff _).2 this] at hnl
        cases hnl
      have hn' : (∀ c ∈ x.data.toList.drop (j + 1), isNl c = false) → Ev (fun k => toolchestlaw02_LinesTexts.l0 k l ((i + 1 : Nat) : Int)) true := fun h => hn (by
        intro c hc
        rw [List.drop_eq_getElem_cons hjl] at hc
        rcases List.mem_cons.1 hc with rfl | hc
        · exact hnl
        · exact h c hc)
      refine (ih (j + 1) hj1 hn').step fun k hk => ?_
      simp only [toolchestlaw02_LinesTexts.l1]
      rw [if_pos ci, if_pos ci2, hr, if_pos hjj, if_pos cj, hb, if_neg hne, hwj]
      exact hk
theorem texts_l0 (l : List ByteArray) (hlen : l.length ≤ 2000000) (hall : ∀ x ∈ l, x.size ≤ 1048576) : ∀ (d i : Nat), i + d = l.length →
    ((∀ x ∈ l.drop i, ∀ c ∈ x.data.toList, isNl c = false) → Ev (fun k => toolchestlaw02_LinesTexts.l0 k l (l.length : Int)) true) →
    Ev (fun k => toolchestlaw02_LinesTexts.l0 k l (i : Int)) true := by
  intro d
  induction d with
  | zero =>
    intro i hi hend
    obtain rfl : i = l.length := by omega
    exact hend (by rw [List.drop_length]; intro x hx; cases hx)
  | succ d ih =>
    intro i hi hend
    have hlt : i < l.length := by omega
    refine (texts_l1 l i l[i] hlt rfl (hall _ (List.getElem_mem hlt)) (by omega) l[i].size 0 (Nat.zero_add _) (fun h0 => ih (i + 1) (by omega) fun h1 => hend ?_)).step fun k hk => ?_
    · intro x hx
      rw [List.drop_eq_getElem_cons hlt] at hx
      rcases List.mem_cons.1 hx with rfl | hx
      · exact h0
      · exact h1 x hx
    · simp only [toolchestlaw02_LinesTexts.l0]
      rw [if_pos (nat_lt hlt)]
      exact hk
/-- Lines that are put together are parted again. -/
theorem splitL_ends (ls : List (List UInt8)) (h : ∀ x ∈ ls, ∀ c ∈ x, isNl c = false) : splitL isNl (endsL ls) = ls ++ [[]] := by
  induction ls with
  | nil => rfl
  | cons x ls ih =>
    have e : endsL (x :: ls) = x ++ 10 :: endsL ls := by unfold endsL; rw [List.flatMap_cons, List.append_assoc]; rfl
    have e2 : splitL isNl x = [x] := by unfold splitL; rw [splitL_one isNl x (h x (by simp))]; rfl
    rw [e, splitL_app isNl x _ 10 rfl, e2, ih (fun y hy => h y (by simp [hy]))]
    rfl
theorem ends_last (ls : List (List UInt8)) (h : ls ≠ []) : ∃ b, endsL ls = b ++ [10] := by
  obtain ⟨b, x, rfl⟩ : ∃ b x, ls = b ++ [x] := ⟨ls.dropLast, ls.getLast h, (List.dropLast_concat_getLast h).symm⟩
  refine ⟨endsL b ++ x, ?_⟩
  unfold endsL
  rw [List.flatMap_append]
  simp
theorem linesL_ends (ls : List (List UInt8)) (h : ∀ x ∈ ls, ∀ c ∈ x, isNl c = false) : linesL (endsL ls) = ls := by
  by_cases hn : ls = []
  · subst hn; rfl
  · obtain ⟨b, hb⟩ := ends_last ls hn
    have h1 := splitL_ends ls h
    rw [hb] at h1 ⊢
    rw [splitL_app isNl b [] 10 rfl, splitL_nil] at h1
    unfold linesL
    rw [if_neg (by simp), trim_nl]
    exact List.append_cancel_right h1
theorem joinL_ends' (l : List ByteArray) : joinL l = endsL (l.map fun x => x.data.toList) := by
  unfold joinL endsL
  rw [List.flatMap_map]
theorem map_bs (l : List ByteArray) : (l.map fun x => x.data.toList).map bs = l := by
  rw [List.map_map]
  conv => rhs; rw [← List.map_id l]
  exact List.map_congr_left fun x _ => bs_of x
theorem joinN (l : List ByteArray) : (joinL l).length = textsN l ∧ (∀ x ∈ l, x.size ≤ textsN l) ∧ l.length ≤ textsN l := by
  unfold textsN
  induction l with
  | nil => exact ⟨rfl, by intro x hx; simp at hx, Nat.le_refl _⟩
  | cons a l ih =>
    obtain ⟨h1, h2, h3⟩ := ih
    have e : (joinL (a :: l)).length = a.size + 1 + (joinL l).length := by
      unfold joinL
      rw [List.flatMap_cons, List.length_append, List.length_append, Lib.size_eq]; rfl
    rw [List.map_cons, List.sum_cons, List.length_cons]
    refine ⟨by rw [e, h1]; omega, fun x hx => ?_, by omega⟩
    rcases List.mem_cons.1 hx with rfl | hx
    · omega
    · have := h2 x hx; omega
theorem LinesTexts (l : List ByteArray) (h0 : ∀ s ∈ l, s.size ≤ 140737488351232) (h1 : l.length ≤ 140737488351232) : ∃ k, toolchestlaw02_LinesTexts.f k l = some true := by
  obtain ⟨n, hn, n0, n1, n2⟩ := textsSize_tells l h0 h1
  by_cases hb : n ≤ 1048576
  · have hN := n2 hb
    obtain ⟨j1, j2, j3⟩ := joinN l
    have hN' : textsN l ≤ 1048576 := by clear j1 j2 j3 n2 hn; omega
    have hlen : l.length ≤ 2000000 := Nat.le_trans j3 (Nat.le_trans hN' (by decide))
    have hall : ∀ x ∈ l, x.size ≤ 1048576 := fun x hx => Nat.le_trans (j2 x hx) hN'
    have hend : (∀ x ∈ l.drop 0, ∀ c ∈ x.data.toList, isNl c = false) → Ev (fun k => toolchestlaw02_LinesTexts.l0 k l (l.length : Int)) true := by
      intro hno
      rw [List.drop_zero] at hno
      have hno' : ∀ x ∈ l.map (fun x => x.data.toList), ∀ c ∈ x, isNl c = false := by
        intro x hx
        obtain ⟨y, hy, rfl⟩ := List.mem_map.1 hx
        exact hno y hy
      have hjf : lines_Join.f l = some (bs (joinL l)) := by
        unfold lines_Join.f
        rw [if_pos (by rw [j1]; exact Nat.le_trans hN' (by decide))]; rfl
      have hsf : lines_Split.f (bs (joinL l)) = some (l, decide ((l.length : Int) > 0)) := by
        rw [split_f _ (by rw [bs_size, j1]; exact Nat.le_trans hN' (by decide)), bs_toList, joinL_ends', linesL_ends _ hno', map_bs]
        congr 2
        by_cases hl : l = []
        · subst hl; rfl
        · have hl' : l.map (fun x => x.data.toList) ≠ [] := fun e => hl (List.map_eq_nil_iff.1 e)
          obtain ⟨b, hb'⟩ := ends_last _ hl'
          have hpos : 0 < l.length := List.length_pos_iff.2 hl
          unfold splitOf
          rw [hb', if_neg (by rw [bs_size, List.length_append]; simp), decide_eq_true (show (l.length : Int) > 0 by omega)]
          simp only
          rw [bs_toList]; exact suffix_nl b
      refine (same_self l hlen).step fun k hk => ?_
      simp only [toolchestlaw02_LinesTexts.l0]
      rw [if_neg (not_nat_lt (Nat.lt_irrefl _)), hjf, Option.bind_some, hsf, Option.bind_some, hk, Option.bind_some, if_pos rfl, beq_self_eq_true]
    obtain ⟨k0, hk⟩ := texts_l0 l hlen hall l.length 0 (Nat.zero_add _) hend
    refine ⟨max k0 40 + 1 + (l.length + 1), ?_⟩
    unfold toolchestlaw02_LinesTexts.f
    rw [alive_ge _ (by omega), Option.bind_some, if_pos rfl, textsSize_ge _ l n (by omega) hn, Option.bind_some, beyond_ge _ _ (by omega) n0 (by omega), Option.bind_some]
    rw [show max k0 40 + 1 + (l.length + 1) = (max k0 40 + 1 + l.length) + 1 by omega]
    simp only [toolchestlaw02_LinesTexts.j0]
    rw [if_neg (by simp; omega)]
    exact hk _ (by omega)
  · refine ⟨40 + 1 + (l.length + 1), ?_⟩
    unfold toolchestlaw02_LinesTexts.f
    rw [alive_ge _ (by omega), Option.bind_some, if_pos rfl, textsSize_ge _ l n (by omega) hn, Option.bind_some, beyond_ge _ _ (by omega) n0 (by omega), Option.bind_some]
    rw [show 40 + 1 + (l.length + 1) = (40 + 1 + l.length) + 1 by omega]
    simp only [toolchestlaw02_LinesTexts.j0]
    rw [if_pos (by simp; omega), alive_ge _ (by omega), Option.bind_some]
theorem LinesTexts_walk (A0 : Option Addr) (z0 : Nat) (l0 : List ByteArray) (W : World) (hr0 : Kd.C Kd.string W A0 l0.length l0) (hc0 : l0.length ≤ z0) (ok0 : (∀ a ∈ l0, a.size ≤ 140737488351232) ∧ l0.length * 16 ≤ 140737488351232) :
    Calls Try.prog 11 #[.slice A0 l0.length z0] W fun e W' => e = .returned (.bool true) ∧ Below W.heap.size W W' := by
  obtain ⟨k, hk⟩ := LinesTexts l0 ok0.1 (by omega)
  exact toolchestlaw02_LinesTexts.calls k A0 z0 l0 true W hr0 hc0 hk
end Go.Proofs.Ytgbhcanfjmefiaa.Pure

/- LinesHalves: the plain law. -/
import Derived.Test.YtgbhcanfjmefiaaQx16
import Derived.Test.YtgbhcanfjmefiaaPureLinesCuts
set_option linter.unusedVariables false
set_option linter.unusedSimpArgs false
namespace Go.Proofs.Ytgbhcanfjmefiaa.Pure
open Go.RowKit Go.Proofs.Ytgbhcanfjmefiaa.Q Go.Proofs.YtgbhcanfjmefiaaW.PrintWords Go.Proofs.YtgbhcanfjmefiaaW.PrintLast Go.Proofs.Ytgbhcanfjmefiaa.S

theorem linesL_cons (l r : List UInt8) (h : ∀ c ∈ l, isNl c = false) : linesL (l ++ 10 :: r) = l :: linesL r := by
  have e2 : splitL isNl l = [l] := by unfold splitL; rw [splitL_one isNl l h]; rfl
  by_cases hr : r = []
  · subst hr
    unfold linesL
    rw [if_neg (by simp), if_pos rfl, trim_nl, e2]
  · have hne : l ++ 10 :: r ≠ [] := by simp
    rcases ends_or r with ⟨b, rfl⟩ | h2
    · have e : l ++ 10 :: (b ++ [10]) = (l ++ 10 :: b) ++ [10] := by simp
      unfold linesL
      rw [if_neg hne, if_neg hr, e, trim_nl, trim_nl, splitL_app isNl l b 10 rfl, e2]
      rfl
    · have h3 : ∀ b, l ++ 10 :: r ≠ b ++ [10] := by
        intro b e
        have h4 := congrArg List.getLast? e
        rw [List.getLast?_append, List.getLast?_append] at h4
        have h5 : (10 :: r).getLast? = some (r.getLast hr) := by
          rw [List.getLast?_eq_some_getLast (by simp), List.getLast_cons hr]
        rw [h5] at h4
        have h6 : r.getLast hr = 10 := by simpa using h4
        exact h2 r.dropLast (by rw [← h6]; exact (List.dropLast_concat_getLast hr).symm)
      unfold linesL
      rw [if_neg hne, if_neg hr, (trim_other _ h3).1, (trim_other _ h2).1, splitL_app isNl l r 10 rfl, e2]
      rfl
theorem linesL_one (l : List UInt8) (h : ∀ c ∈ l, isNl c = false) : linesL l = if l = [] then [] else [l] := by
  unfold linesL
  split
  · rfl
  · have h3 : ∀ b, l ≠ b ++ [10] := by
      intro b e
      have := h 10 (by rw [e]; simp)
      rw [(isNl_iff 10).2 rfl] at this; cases this
    rw [(trim_other _ h3).1]
    unfold splitL; rw [splitL_one isNl l h]; rfl
theorem behindL_one (l : List UInt8) (n : Nat) (h : ∀ c ∈ l, isNl c = false) : behindL (n + 1) l = l.length := by
  refine behindL_all l _ ?_
  have : l.count 10 = 0 := by
    rw [List.count_eq_zero]
    intro h'
    have := h 10 h'
    rw [(isNl_iff 10).2 rfl] at this; cases this
  omega
theorem behindL_cons (l r : List UInt8) (n : Nat) (h : ∀ c ∈ l, isNl c = false) : behindL (n + 1) (l ++ 10 :: r) = l.length + 1 + behindL n r := by
  induction l with
  | nil => simp only [List.nil_append, behindL, if_true, List.length_nil]; omega
  | cons c l ih =>
    have hc : c ≠ 10 := fun e => by
      have := h c (by simp)
      rw [(isNl_iff c).2 e] at this; cases this
    have := ih (fun d hd => h d (by simp [hd]))
    simp only [List.cons_append, behindL, List.length_cons]
    rw [if_neg hc, this]
    omega
/-- The first lines of a text, and the others. -/
theorem lines_cut (l : List UInt8) : ∀ q, linesL (l.take (behindL q l)) = (linesL l).take q ∧ linesL (l.drop (behindL q l)) = (linesL l).drop q := by
  refine parts_ind isNl (C := fun l => ∀ q, linesL (l.take (behindL q l)) = (linesL l).take q ∧ linesL (l.drop (behindL q l)) = (linesL l).drop q) ?_ ?_ l
  · intro l hl q
    cases q with
    | zero => rw [behindL_zero]; simp [linesL]
    | succ q =>
      rw [behindL_one l q hl, List.take_length, List.drop_length, linesL_one l hl]
      split <;> simp [linesL]
  · intro l c r hl hc ih q
    rw [(isNl_iff c).1 hc]
    cases q with
    | zero => rw [behindL_zero]; simp [linesL]
    | succ q =>
      obtain ⟨i1, i2⟩ := ih q
      rw [behindL_cons l r q hl, linesL_cons l r hl]
      have e1 : (l ++ 10 :: r).take (l.length + 1 + behindL q r) = l ++ 10 :: r.take (behindL q r) := by
        rw [Nat.add_assoc, List.take_length_add_append, Nat.add_comm 1]
        rfl
      have e2 : (l ++ 10 :: r).drop (l.length + 1 + behindL q r) = r.drop (behindL q r) := by
        rw [Nat.add_assoc, List.drop_length_add_append, Nat.add_comm 1]
        rfl
      rw [e1, e2, linesL_cons l _ hl, i1, i2]
      simp
theorem behindL_min (l : List UInt8) (n : Nat) : behindL n l = behindL (min n (linesL l).length) l := by
  by_cases h : n ≤ (linesL l).length
  · rw [Nat.min_eq_left h]
  · rw [Nat.min_eq_right (Nat.le_of_lt (Nat.not_le.1 h)), lines_end]
    refine behindL_all l n ?_
    by_cases hl : l = []
    · subst hl
      have : ¬ n ≤ 0 := h
      rw [List.count_nil]; omega
    · have h1 := lines_count l hl
      have e := List.dropLast_concat_getLast hl
      have h2 : l.count 10 ≤ (l.take (l.length - 1)).count 10 + 1 := by
        rw [← List.dropLast_eq_take]
        conv => lhs; rw [← e]
        rw [List.count_append]
        have : List.count 10 [l.getLast hl] ≤ 1 := by
          refine Nat.le_trans List.count_le_length ?_
          simp
        omega
      rw [h1] at h
      exact Nat.lt_of_le_of_lt h2 (Nat.not_le.1 h)
theorem sameH_loop (l : List ByteArray) (hl : l.length ≤ 2000000) : ∀ (d i : Nat), i + d = l.length → Ev (fun k => toolchestlaw01_SameTexts.l0 k l l (i : Int)) true := by
  intro d
  induction d with
  | zero =>
    intro i hi
    refine Ev.now fun k => ?_
    simp only [toolchestlaw01_SameTexts.l0]
    rw [if_neg (not_nat_lt (by omega))]
  | succ d ih =>
    intro i hi
    have hlt : i < l.length := by omega
    have hw := wrap_one i (by omega)
    refine (ih (i + 1) (by omega)).step fun k hk => ?_
    simp only [toolchestlaw01_SameTexts.l0]
    rw [if_pos (nat_lt hlt), if_pos (nat_nn i), if_pos (nat_lt hlt), if_pos trivial, hw]
    exact hk
theorem sameH (l : List ByteArray) (hl : l.length ≤ 2000000) : Ev (fun k => toolchestlaw01_SameTexts.f k l l) true := by
  obtain ⟨k0, hk⟩ := sameH_loop l hl l.length 0 (Nat.zero_add _)
  refine ⟨k0, fun k h => ?_⟩
  show toolchestlaw01_SameTexts.f k l l = some true
  unfold toolchestlaw01_SameTexts.f
  rw [if_pos rfl]
  exact hk k h
/-- So many lines: as a plain number. -/
def firstQ (c : Nat) (n : Int) : Nat := (max 0 (min n (c : Int))).toNat
theorem firstQ_le (c : Nat) (n : Int) : firstQ c n ≤ c := by unfold firstQ; omega
theorem firstQ_min (c : Nat) (n : Int) : min n.toNat c = firstQ c n := by unfold firstQ; omega
theorem firstQ_mx (c : Nat) (n : Int) : mx 0 (mn n (c : Int)) = (firstQ c n : Int) := by unfold firstQ mx mn; split <;> split <;> omega
theorem firstQ_back (c : Nat) (n : Int) : c - (max 0 (min ((c - firstQ c n : Nat) : Int) (c : Int))).toNat = firstQ c n := by have := firstQ_le c n; omega
theorem out_firstQ (c : Nat) (n : Int) (h : c ≤ 4000000000) : wrap64 ((c : Int) - (firstQ c n : Int)) = ((c - firstQ c n : Nat) : Int) := by have := firstQ_le c n; unfold wrap64; omega
theorem cut_join (s : ByteArray) (m : Nat) : s.extract 0 m ++ s.extract m s.size = s := by
  apply ext_bytes
  rw [ByteArray.data_append, Array.toList_append, extract_bs, extract_bs, bs_toList, bs_toList, List.drop_zero, Nat.sub_zero, Lib.size_eq, ← List.length_drop, List.take_length, List.take_append_drop]
theorem part_sizes (s : ByteArray) (hs : s.size ≤ 1048576) (a b c d : Nat) : (s.extract a b).size + (s.extract c d).size ≤ 9223372036854775807 := by
  rw [ByteArray.size_extract, ByteArray.size_extract]; omega
theorem LinesHalves : toolchestlaw02_LinesHalves.Pure := by
  intro a0 a1 h0 hwf
  have hr : -9223372036854775808 ≤ a1 ∧ a1 ≤ 9223372036854775807 := by
    have := hwf
    simp [Lit.wf] at this
    exact ⟨Int.le_trans (by decide) this.1, this.2⟩
  by_cases hb : a0.size ≤ 1048576
  · have hc : (linesL a0.data.toList).length ≤ 1048577 := Nat.le_trans (linesL_len _) (by rw [← Lib.size_eq]; omega)
    have hm : behindL a1.toNat a0.data.toList = behindL (firstQ (linesL a0.data.toList).length a1) a0.data.toList := by rw [behindL_min, firstQ_min]
    obtain ⟨k1, e1⟩ := (head_ev a0 hb a1 hr.1 hr.2).and (tail_ev a0 hb a1)
    have hl1 : leftOut a0 a1 = (linesL a0.data.toList).length - firstQ (linesL a0.data.toList).length a1 := rfl
    have hl2 : leftOut a0 (((linesL a0.data.toList).length - firstQ (linesL a0.data.toList).length a1 : Nat) : Int) = firstQ (linesL a0.data.toList).length a1 := firstQ_back _ _
    have e2 := tail_ev a0 hb (((linesL a0.data.toList).length - firstQ (linesL a0.data.toList).length a1 : Nat) : Int)
    rw [hl2] at e2
    rw [hm, hl1] at e1
    obtain ⟨c1, c2⟩ := lines_cut a0.data.toList (firstQ (linesL a0.data.toList).length a1)
    obtain ⟨d1, d2⟩ := lines_cut a0.data.toList ((linesL a0.data.toList).length - firstQ (linesL a0.data.toList).length a1)
    have hq := firstQ_le (linesL a0.data.toList).length a1
    have hw := out_firstQ (linesL a0.data.toList).length a1 (by omega)
    have hwb := out_firstQ a0.size a1 (by omega)
    have hqb := firstQ_le a0.size a1
    have hsf := split_f a0 (by omega)
    generalize hQ : firstQ (linesL a0.data.toList).length a1 = q at *
    have g1 := split_f (a0.extract 0 (behindL q a0.data.toList)) (by rw [ByteArray.size_extract]; omega)
    have g2 := split_f (a0.extract (behindL ((linesL a0.data.toList).length - q) a0.data.toList) a0.size) (by rw [ByteArray.size_extract]; omega)
    have x1 : (a0.extract 0 (behindL q a0.data.toList)).data.toList = a0.data.toList.take (behindL q a0.data.toList) := by rw [extract_bs, bs_toList, List.drop_zero, Nat.sub_zero]
    have x2 : (a0.extract (behindL ((linesL a0.data.toList).length - q) a0.data.toList) a0.size).data.toList = a0.data.toList.drop (behindL ((linesL a0.data.toList).length - q) a0.data.toList) := by rw [extract_bs, bs_toList, Lib.size_eq, ← List.length_drop, List.take_length]
    rw [x1, c1] at g1
    rw [x2, d2] at g2
    have s1 := sameH (((linesL a0.data.toList).take q).map bs) (by rw [List.length_map, List.length_take]; omega)
    have s2 := sameH (((linesL a0.data.toList).drop ((linesL a0.data.toList).length - q)).map bs) (by rw [List.length_map, List.length_drop]; omega)
    obtain ⟨k2, e2⟩ := e2.and s1
    obtain ⟨k3, e3⟩ := s2
    have hbt := tail_bytes a0 hb ((a0.size - firstQ a0.size a1 : Nat) : Int)
    have hbq : a0.size - (max 0 (min ((a0.size - firstQ a0.size a1 : Nat) : Int) (a0.size : Int))).toNat = firstQ a0.size a1 := firstQ_back _ _
    rw [hbq] at hbt
    have hbh := head_bytes a0 a1
    rw [firstQ_mx, Int.toNat_natCast] at hbh
    have hsz : ((a0.extract 0 (firstQ a0.size a1)).size : Int) = (firstQ a0.size a1 : Int) := by rw [ByteArray.size_extract]; omega
    obtain ⟨k0, hk1, hk2, hk3, hk4⟩ : ∃ k0, k1 ≤ k0 ∧ k2 ≤ k0 ∧ k3 ≤ k0 ∧ 40 ≤ k0 := ⟨max (max k1 k2) (max k3 40), by omega, by omega, by omega, by omega⟩
    obtain ⟨f1, f2⟩ := e1 k0 hk1
    obtain ⟨f3, f4⟩ := e2 k0 hk2
    have f5 : toolchestlaw01_SameTexts.f k0 (((linesL a0.data.toList).drop ((linesL a0.data.toList).length - q)).map bs) (((linesL a0.data.toList).drop ((linesL a0.data.toList).length - q)).map bs) = some true := e3 k0 hk3
    have j1 := cut_join a0 (behindL q a0.data.toList)
    have j2 := cut_join a0 (firstQ a0.size a1)
    have p1 := part_sizes a0 hb 0 (behindL q a0.data.toList) (behindL q a0.data.toList) a0.size
    have p2 := part_sizes a0 hb 0 (firstQ a0.size a1) (firstQ a0.size a1) a0.size
    clear e1 e2 e3 c1 c2 d1 d2 x1 x2 hm
    refine ⟨k0 + 1, ?_⟩
    have hby := beyond_ge (k0 + 1) (a0.size : Int) (by omega) (by omega) (by omega)
    have hd : ¬ (decide ((a0.size : Int) > 1048576)) = true := by simp; omega
    have hql : (q : Int) ≤ ((linesL a0.data.toList).length : Int) := Int.ofNat_le.2 hq
    have hql2 : (((linesL a0.data.toList).length - q : Nat) : Int) ≤ ((linesL a0.data.toList).length : Int) := Int.ofNat_le.2 (Nat.sub_le _ _)
    have t1 : ((linesL a0.data.toList).map bs).take q = ((linesL a0.data.toList).take q).map bs := List.map_take.symm
    have t2 : ((linesL a0.data.toList).map bs).drop ((linesL a0.data.toList).length - q) = ((linesL a0.data.toList).drop ((linesL a0.data.toList).length - q)).map bs := List.map_drop.symm
    have hQ2 : mx 0 (mn a1 ((linesL a0.data.toList).length : Int)) = (q : Int) := by rw [firstQ_mx, hQ]
    have hQb := firstQ_mx a0.size a1
    unfold toolchestlaw02_LinesHalves.f
    rw [alive_ge (k0 + 1) (by omega), Option.bind_some, if_pos rfl, hby, Option.bind_some]
    simp only [toolchestlaw02_LinesHalves.j0]
    rw [if_neg hd, hsf, Option.bind_some]
    simp only [List.length_map]
    rw [hQ2, hw, f1, Option.bind_some, g1, Option.bind_some, f2, Option.bind_some, g2, Option.bind_some, Option.bind_some, f3, Option.bind_some, if_pos p1, if_pos (by rw [j1]), hbh, Option.bind_some, hQb, hwb, hbt, Option.bind_some, if_pos p2, if_pos (by rw [j2]), Option.bind_some, if_pos hsz, if_pos (nat_nn _), if_pos hql, Int.toNat_natCast, t1, f4, Option.bind_some, if_pos rfl, if_pos (nat_nn _), if_pos hql2, Int.toNat_natCast, t2]
    exact congrArg (fun o : Option Bool => o.bind fun t => some t) f5
  · refine ⟨41, ?_⟩
    unfold toolchestlaw02_LinesHalves.f
    rw [alive_ge 41 (by decide), Option.bind_some, if_pos rfl, beyond_ge 41 _ (by decide) (by omega) (by omega), Option.bind_some]
    simp only [toolchestlaw02_LinesHalves.j0]
    rw [if_pos (by simp; omega), alive_ge 40 (by decide), Option.bind_some]
end Go.Proofs.Ytgbhcanfjmefiaa.Pure

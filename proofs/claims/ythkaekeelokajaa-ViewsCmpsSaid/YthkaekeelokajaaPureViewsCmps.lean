/- ViewsCmps: the reference tells the same place; the walk of the law. -/
import Derived.Test.YthkaekeelokajaaQx1
import Derived.Test.YthkaekeelokajaaQx3
import Derived.Test.YthkaekeelokajaaVCmp
set_option linter.unusedVariables false
set_option linter.unusedSimpArgs false
namespace Go.Proofs.Ythkaekeelokajaa.P
open Go.RowKit Go.Proofs.Ythkaekeelokajaa.Q Go.Proofs.Ythkaekeelokajaa.H Go.Proofs.Ythkaekeelokajaa.C Go.Proofs.YthkaekeelokajaaW.PrintWords Go.Proofs.YthkaekeelokajaaW.PrintLast

theorem beyond_two (n m : Nat) (h1 : n ≤ 4611686018427387) (h2 : m ≤ 4611686018427387) : Ev (fun k => toolchestlaw01_Beyond.f k [(n : Int), (m : Int)]) (decide (n + m > 1048576)) := by
  have w1 : wrap64 (n : Int) = n := by unfold wrap64; omega
  have w2 : wrap64 1 = 1 := by unfold wrap64; omega
  have w3 : wrap64 ((n : Int) + m) = n + m := by unfold wrap64; omega
  have w4 : wrap64 2 = 2 := by unfold wrap64; omega
  refine ⟨3, fun k hk => ?_⟩
  obtain ⟨j, rfl⟩ : ∃ j, k = j + 1 + 1 + 1 := ⟨k - 3, by omega⟩
  simp [toolchestlaw01_Beyond.f, toolchestlaw01_Beyond.l0, rd, w1, w2, w3, w4]
  by_cases h : 1048576 < n
  · rw [if_pos (by omega)]; simp; omega
  · rw [if_neg (by omega)]
    by_cases h2 : 1048576 < n + m
    · rw [if_pos (by omega)]; simp [h2]
    · rw [if_neg (by omega)]; simp [h2]
def ans3 (r : Nat × Nat × Nat) : Int × Int × Int := ((r.1 : Int), (r.2.1 : Int), (r.2.2 : Int))
theorem refCmp_loop (a b : ByteArray) (ha : a.size ≤ 100000000) (hb : b.size ≤ 100000000) : ∀ (d i : Nat), i + d = min a.size b.size → cplL a.data.toList b.data.toList = i + cplL (a.data.toList.drop i) (b.data.toList.drop i) →
    Ev (fun k => toolchestref08_Cmp.l0 k a b (((a.data.toList.take i).count 10 + 1 : Nat) : Int) (i : Int)) (ans3 (cmpL a.data.toList b.data.toList)) := by
  have hla : a.data.toList.length = a.size := (Lib.size_eq a).symm
  have hlb : b.data.toList.length = b.size := (Lib.size_eq b).symm
  intro d
  induction d with
  | zero =>
    intro i hi hc
    have hz : cplL (a.data.toList.drop i) (b.data.toList.drop i) = 0 := by
      have := cpl_le (a.data.toList.drop i) (b.data.toList.drop i)
      rw [List.length_drop, List.length_drop, hla, hlb] at this
      omega
    have hnot : ¬ cplL a.data.toList b.data.toList < min a.data.toList.length b.data.toList.length := by rw [hc, hz, hla, hlb]; omega
    have hans : cmpL a.data.toList b.data.toList = if a.size < b.size then (0, 0, 1) else if b.size < a.size then (0, 0, 2) else (0, 0, 0) := by unfold cmpL; rw [if_neg hnot, hla, hlb]
    rw [hans]
    refine ⟨2, fun k hk => ?_⟩
    obtain ⟨j, rfl⟩ : ∃ j, k = j + 1 + 1 := ⟨k - 2, by omega⟩
    show toolchestref08_Cmp.l0 (j + 1 + 1) a b _ _ = _
    have hj1 : toolchestref08_Cmp.j1 (j + 1) a b (((a.data.toList.take i).count 10 + 1 : Nat) : Int) (i : Int) false = some (ans3 (if a.size < b.size then (0, 0, 1) else if b.size < a.size then (0, 0, 2) else (0, 0, 0))) := by
      rw [toolchestref08_Cmp.j1, if_neg (by decide)]
      by_cases h1 : a.size < b.size
      · rw [if_pos (nat_lt h1), if_pos h1]; rfl
      · rw [if_neg (not_nat_lt h1), if_neg h1]
        by_cases h2 : b.size < a.size
        · rw [if_pos (nat_lt h2), if_pos h2]; rfl
        · rw [if_neg (not_nat_lt h2), if_neg h2]; rfl
    rw [toolchestref08_Cmp.l0]
    by_cases hia : i < a.size
    · rw [if_pos (nat_lt hia), decide_eq_false (not_nat_lt (by omega)), hj1]
    · rw [if_neg (not_nat_lt hia), hj1]
  | succ d ih =>
    intro i hi hc
    have hia : i < a.size := by omega
    have hib : i < b.size := by omega
    have hia' : i < a.data.toList.length := by omega
    have hib' : i < b.data.toList.length := by omega
    have hw := wrap_one i (by omega)
    have hcl : (a.data.toList.take i).count 10 ≤ i := by
      have := List.count_le_length (a := (10 : UInt8)) (l := a.data.toList.take i)
      rw [List.length_take] at this; omega
    have hw2 := wrap_one ((a.data.toList.take i).count 10 + 1) (by omega)
    have b1 := bt_list a i hia'
    have b2 := bt_list b i hib'
    have htk : a.data.toList.take (i + 1) = a.data.toList.take i ++ [a.data.toList[i]] := List.take_succ_eq_append_getElem hia'
    by_cases hab : a.data.toList[i] = b.data.toList[i]
    · have hc2 : cplL a.data.toList b.data.toList = (i + 1) + cplL (a.data.toList.drop (i + 1)) (b.data.toList.drop (i + 1)) := by rw [hc, cpl_yes hia' hib' hab]; omega
      refine (ih (i + 1) (by omega) hc2).step2 fun k hk => ?_
      show toolchestref08_Cmp.l0 (k + 1 + 1) a b _ _ = _
      rw [toolchestref08_Cmp.l0, if_pos (nat_lt hia), decide_eq_true (nat_lt hib), toolchestref08_Cmp.j1, if_pos rfl, if_pos (nat_nn i), if_pos (nat_lt hia), if_pos (nat_lt hib), b1, b2, if_pos (by rw [hab]), hw]
      rw [htk, List.count_append] at hk
      by_cases h10 : a.data.toList[i] = 10
      · rw [if_pos (by rw [h10]; rfl), hw2]
        rw [h10] at hk
        exact hk
      · rw [if_neg (by intro e; exact h10 (UInt8.toNat_inj.1 (by show _ = 10; omega)))]
        have e0 : List.count 10 [a.data.toList[i]] = 0 := by rw [List.count_eq_zero]; simp; exact fun e => h10 e.symm
        rw [e0, Nat.add_zero] at hk
        exact hk
    · have hcc : cplL a.data.toList b.data.toList = i := by rw [hc, cpl_no hia' hib' hab]; rfl
      have hans : cmpL a.data.toList b.data.toList = (i + 1, (a.data.toList.take i).count 10 + 1, 0) := by unfold cmpL; rw [hcc, if_pos (by rw [hla, hlb]; omega)]
      rw [hans]
      refine ⟨2, fun k hk => ?_⟩
      obtain ⟨j, rfl⟩ : ∃ j, k = j + 1 + 1 := ⟨k - 2, by omega⟩
      show toolchestref08_Cmp.l0 (j + 1 + 1) a b _ _ = _
      rw [toolchestref08_Cmp.l0, if_pos (nat_lt hia), decide_eq_true (nat_lt hib), toolchestref08_Cmp.j1, if_pos rfl, if_pos (nat_nn i), if_pos (nat_lt hia), if_pos (nat_lt hib), b1, b2, if_neg (by intro e; exact hab (UInt8.toNat_inj.1 (by omega))), hw]
      rfl
theorem refCmp_f (a b : ByteArray) (ha : a.size ≤ 100000000) (hb : b.size ≤ 100000000) : Ev (fun k => toolchestref08_Cmp.f k a b) (ans3 (cmpL a.data.toList b.data.toList)) := by
  exact refCmp_loop a b ha hb (min a.size b.size) 0 (Nat.zero_add _) (by simp)
set_option maxHeartbeats 1000000 in
set_option maxRecDepth 100000 in
theorem ViewsCmps_walk (a0 : ByteArray) (a1 : ByteArray) (W : World) (ok0 : a0.size ≤ 140737488351232) (ok1 : a1.size ≤ 140737488351232) :
    Calls Try.prog 3 #[.string a0, .string a1] W fun e W' => e = .returned (.bool true) ∧ Below W.heap.size W W' := by
  obtain ⟨kb, hkb⟩ := (beyond_two a0.size a1.size (by omega) (by omega)).at_
  have KB := Lib.hid hkb
  clear hkb
  by_cases hbig : a0.size + a1.size > 1048576
  · rw [decide_eq_true hbig] at KB
    go_enter Try.func3, Try.ntmps3
    go_wp2_with (go_at_call 4; refine (toolchestlaw01_Beyond.calls kb (some ⟨W.heap.size, 0, none⟩) 2 [(a0.size : Int), (a1.size : Int)] true _ (C_ints W .i64 3 [(a0.size : Int), (a1.size : Int)] (by simp)) (Nat.le_refl _) KB.out).mono ?_)
    first | (rintro e w2 rfl hb2) | (rintro e w2 ⟨rfl, hb2⟩)
    go_wp2
    go_ret
    exact ⟨rfl, bth (bal (Below.refl _ _) _) hb2.below⟩
  · rw [decide_eq_false hbig] at KB
    have hs0 : a0.size ≤ 100000000 := by omega
    have hs1 : a1.size ≤ 100000000 := by omega
    obtain ⟨kr, hkr⟩ := (refCmp_f a0 a1 hs0 hs1).at_
    have hex := fun w => cmp_calls a0 a1 hs0 hs1 w
    generalize cmpL a0.data.toList a1.data.toList = R at hkr hex
    obtain ⟨r, x, y⟩ := R
    have KR := Lib.hid hkr
    have HX := Lib.hid hex
    clear hkr hex hbig
    go_enter Try.func3, Try.ntmps3
    go_wp2_with (go_at_call 4; refine (toolchestlaw01_Beyond.calls kb (some ⟨W.heap.size, 0, none⟩) 2 [(a0.size : Int), (a1.size : Int)] false _ (C_ints W .i64 3 [(a0.size : Int), (a1.size : Int)] (by simp)) (Nat.le_refl _) KB.out).mono ?_)
    first | (rintro e w2 rfl hb2) | (rintro e w2 ⟨rfl, hb2⟩)
    have B2 := Lib.hid (bth (bal (Below.refl _ _) _) hb2.below)
    clear hb2
    go_wp2_with (go_at_call 5; refine (HX.out _).mono ?_)
    first | (rintro e w3 rfl hb3) | (rintro e w3 ⟨rfl, hb3⟩)
    have B3 := Lib.hid (bth B2.out hb3)
    clear hb3
    go_wp2_with (go_at_call 6; refine (toolchestref08_Cmp.calls kr a0 a1 _ _ _ _ KR.out).mono ?_)
    first | (rintro e w4 rfl hb4) | (rintro e w4 ⟨rfl, hb4⟩)
    go_wp2
    go_ret
    exact ⟨rfl, bth B3.out (by first | exact hb4.below | exact hb4)⟩
end Go.Proofs.Ythkaekeelokajaa.P

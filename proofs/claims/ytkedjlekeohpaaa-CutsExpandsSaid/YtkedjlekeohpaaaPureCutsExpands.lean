/- CutsExpands: the reference tells the same text; the walk of the law. -/
import Derived.Test.YtkedjlekeohpaaaQx3
import Derived.Test.YtkedjlekeohpaaaQx4
import Derived.Test.YtkedjlekeohpaaaEvs
import Derived.Test.YtkedjlekeohpaaaCExpand
set_option linter.unusedVariables false
set_option linter.unusedSimpArgs false
namespace Go.Proofs.Ytkedjlekeohpaaa.P
open Go.RowKit Go.Proofs.Ytkedjlekeohpaaa.Q Go.Proofs.Ytkedjlekeohpaaa.H Go.Proofs.Ytkedjlekeohpaaa.C Go.Proofs.YtkedjlekeohpaaaW.PrintWords Go.Proofs.YtkedjlekeohpaaaW.PrintLast

def nat8e (l : List UInt8) : List Int := l.map fun b => (b.toNat : Int)
theorem nat8e_len (l : List UInt8) : (nat8e l).length = l.length := List.length_map _
theorem nat8e_app (l m : List UInt8) : nat8e (l ++ m) = nat8e l ++ nat8e m := List.map_append
theorem str_nat8e (l : List UInt8) : strOfNums (nat8e l) = ⟨l.toArray⟩ := by
  unfold strOfNums nat8e
  congr 1
  simp [Function.comp_def]
def ansE (r : List UInt8 × Nat) : ByteArray × Int := (⟨r.1.toArray⟩, (r.2 : Int))
theorem beyond_one (n : Nat) (h1 : n ≤ 4611686018427387904) : Ev (fun k => toolchestlaw01_Beyond.f k [(n : Int)]) (decide (n > 1048576)) := by
  have w1 : wrap64 (n : Int) = n := by unfold wrap64; omega
  have w2 : wrap64 1 = 1 := by unfold wrap64; omega
  refine ⟨2, fun k hk => ?_⟩
  obtain ⟨j, rfl⟩ : ∃ j, k = j + 1 + 1 := ⟨k - 2, by omega⟩
  simp [toolchestlaw01_Beyond.f, toolchestlaw01_Beyond.l0, rd, w1, w2]
  by_cases h : 1048576 < n
  · rw [if_pos (by omega)]; simp [h]
  · rw [if_neg (by omega)]; simp [h]
theorem mod_zero (N col j : Nat) (hN : 1 ≤ N) (h1 : 1 ≤ j) (hj : j ≤ N - col % N) : (col + j) % N = 0 ↔ j = N - col % N := by
  have hm := Nat.mod_lt col (show 0 < N by omega)
  have e : (col + j) % N = (col % N + j) % N := (Nat.mod_add_mod col N j).symm
  rw [e]
  by_cases h : j = N - col % N
  · subst h; rw [show col % N + (N - col % N) = N by omega, Nat.mod_self]; simp
  · rw [Nat.mod_eq_of_lt (by omega)]; omega
theorem tmod_nat (a b : Nat) : Int.tmod (a : Int) (b : Int) = ((a % b : Nat) : Int) := rfl
theorem expand_l1 (s : ByteArray) (N : Nat) (hN : 1 ≤ N) (h100 : N ≤ 100) (out : List UInt8) (col i : Nat) (hi : i ≤ 100000000) (hc : col ≤ 2000000) (ho : out.length ≤ 1048576) (R : ByteArray × Int)
    (hgo : Ev (fun k => if 1048576 < out.length + (N - col % N) then some ((⟨#[]⟩ : ByteArray), (3 : Int)) else toolchestref07_Expand.l0 k s (N : Int) (nat8e (out ++ List.replicate (N - col % N) 32)) ((col + (N - col % N) : Nat) : Int) ((i + 1 : Nat) : Int)) R) :
    ∀ (d j : Nat), 1 ≤ j → j + d = N - col % N → Ev (fun k => toolchestref07_Expand.l1 k s (N : Int) (nat8e (out ++ List.replicate j 32)) ((col + j : Nat) : Int) (i : Int)) R := by
  have hm := Nat.mod_lt col (show 0 < N by omega)
  have hN0 : ¬ (N : Int) = 0 := by omega
  intro d
  induction d with
  | zero =>
    intro j h1 hj
    have hz := (mod_zero N col j hN h1 (by omega)).2 (by omega)
    obtain rfl : j = N - col % N := by omega
    refine hgo.next fun k hk => ?_
    simp only [toolchestref07_Expand.l1]
    rw [if_neg hN0, tmod_nat, hz, if_pos (show ((0 : Nat) : Int) = 0 from rfl), nat8e_len, List.length_append, List.length_replicate, wrap_one i (by omega)]
    by_cases hov : 1048576 < out.length + (N - col % N)
    · rw [if_pos hov] at hk
      rw [if_pos (by omega)]; exact hk
    · rw [if_neg hov] at hk
      rw [if_neg (by omega)]; exact hk
  | succ d ih =>
    intro j h1 hj
    have hz : ¬ (col + j) % N = 0 := fun e => by have := (mod_zero N col j hN h1 (by omega)).1 e; omega
    refine (ih (j + 1) (by omega) (by omega)).next fun k hk => ?_
    simp only [toolchestref07_Expand.l1]
    have e1 : nat8e (out ++ List.replicate (j + 1) 32) = nat8e (out ++ List.replicate j 32) ++ [32] := by rw [List.replicate_succ', ← List.append_assoc, nat8e_app]; rfl
    have e2 : (col + (j + 1) : Nat) = (col + j) + 1 := rfl
    rw [e1] at hk
    rw [if_neg hN0, tmod_nat, if_neg (by omega), if_pos (by rw [nat8e_len, List.length_append, List.length_replicate]; omega), wrap_one (col + j) (by omega)]
    exact hk
theorem expand_l0 (s : ByteArray) (hs : s.size ≤ 100000000) (N : Nat) (hN : 1 ≤ N) (h100 : N ≤ 100) : ∀ (d i : Nat) (out : List UInt8) (col : Nat), i + d = s.size → col ≤ out.length → out.length ≤ 1048576 →
    Ev (fun k => toolchestref07_Expand.l0 k s (N : Int) (nat8e out) (col : Int) (i : Int)) (ansE (goE N (s.data.toList.drop i) out col)) := by
  have hsz : s.data.toList.length = s.size := (Lib.size_eq s).symm
  intro d
  induction d with
  | zero =>
    intro i out col hi hc ho
    obtain rfl : i = s.size := by omega
    rw [List.drop_of_length_le (by omega)]
    refine Ev.now fun k => ?_
    simp only [toolchestref07_Expand.l0]
    rw [if_neg (not_nat_lt (by omega)), str_nat8e]
    rfl
  | succ d ih =>
    intro i out col hi hc ho
    have hlt : i < s.size := by omega
    have hlt' : i < s.data.toList.length := by omega
    have hb := bt_list s i hlt'
    have hw := wrap_one i (by omega)
    have hwc := wrap_one col (by omega)
    have hm := Nat.mod_lt col (show 0 < N by omega)
    rw [List.drop_eq_getElem_cons hlt']
    obtain ⟨c, hcc⟩ : ∃ c, s.data.toList[i] = c := ⟨_, rfl⟩
    rw [hcc] at hb ⊢
    have hgo : goE N (c :: s.data.toList.drop (i + 1)) out col = if (stepE N out col c).1.length > 1048576 then ([], 3) else goE N (s.data.toList.drop (i + 1)) (stepE N out col c).1 (stepE N out col c).2 := rfl
    rw [hgo]
    by_cases h9 : c = 9
    · subst h9
      have hst : stepE N out col 9 = (out ++ List.replicate (N - col % N) 32, col + (N - col % N)) := by unfold stepE; rw [if_pos rfl]
      rw [hst]
      simp only [List.length_append, List.length_replicate]
      refine (expand_l1 s N hN h100 out col i (by omega) (by omega) ho (ansE (if out.length + (N - col % N) > 1048576 then ([], 3) else goE N (s.data.toList.drop (i + 1)) (out ++ List.replicate (N - col % N) 32) (col + (N - col % N)))) ?_ (N - col % N - 1) 1 (Nat.le_refl _) (by omega)).next fun k hk => ?_
      · by_cases hov : 1048576 < out.length + (N - col % N)
        · simp only [if_pos hov, if_pos (show out.length + (N - col % N) > 1048576 from hov)]
          exact ⟨0, fun _ _ => rfl⟩
        · simp only [if_neg hov, if_neg (show ¬ out.length + (N - col % N) > 1048576 from hov)]
          exact ih (i + 1) _ _ (by omega) (by rw [List.length_append, List.length_replicate]; omega) (by rw [List.length_append, List.length_replicate]; omega)
      · simp only [toolchestref07_Expand.l0]
        rw [if_pos (nat_lt hlt), if_pos (nat_nn i), hb, if_pos (show (((9 : UInt8).toNat : Nat) : Int) = 9 from rfl), if_pos (by rw [nat8e_len]; omega), hwc]
        have e1 : nat8e out ++ [32] = nat8e (out ++ List.replicate 1 32) := by rw [nat8e_app]; rfl
        rw [e1]
        exact hk
    · have hn9 : ¬ (c.toNat : Int) = 9 := fun e => h9 (by rw [← UInt8.toNat_inj]; show c.toNat = 9; omega)
      by_cases h10 : c = 10
      · subst h10
        have hst : stepE N out col 10 = (out ++ [10], 0) := by unfold stepE; rw [if_neg (by decide), if_pos rfl]
        rw [hst]
        simp only [List.length_append, List.length_cons, List.length_nil, Nat.zero_add]
        have e1 : nat8e out ++ [10] = nat8e (out ++ [10]) := by rw [nat8e_app]; rfl
        by_cases hov : out.length + 1 > 1048576
        · rw [if_pos hov]
          refine Ev.now fun k => ?_
          simp only [toolchestref07_Expand.l0]
          rw [if_pos (nat_lt hlt), if_pos (nat_nn i), hb, if_neg hn9, if_pos (show (((10 : UInt8).toNat : Nat) : Int) = 10 from rfl), if_pos (by rw [nat8e_len]; omega), Option.bind_some, if_pos (by rw [List.length_append, nat8e_len]; show ((out.length + 1 : Nat) : Int) > 1048576; omega)]
          rfl
        · rw [if_neg hov]
          refine (ih (i + 1) (out ++ [10]) 0 (by omega) (Nat.zero_le _) (by rw [List.length_append]; show out.length + 1 ≤ _; omega)).next fun k hk => ?_
          simp only [toolchestref07_Expand.l0]
          rw [if_pos (nat_lt hlt), if_pos (nat_nn i), hb, if_neg hn9, if_pos (show (((10 : UInt8).toNat : Nat) : Int) = 10 from rfl), if_pos (by rw [nat8e_len]; omega), Option.bind_some, if_neg (by rw [List.length_append, nat8e_len]; show ¬ ((out.length + 1 : Nat) : Int) > 1048576; omega), e1, hw]
          exact hk
      · have hn10 : ¬ (c.toNat : Int) = 10 := fun e => h10 (by rw [← UInt8.toNat_inj]; show c.toNat = 10; omega)
        have hst : stepE N out col c = (out ++ [c], col + 1) := by unfold stepE; rw [if_neg h9, if_neg h10]
        rw [hst]
        simp only [List.length_append, List.length_cons, List.length_nil, Nat.zero_add]
        have e1 : nat8e out ++ [(c.toNat : Int)] = nat8e (out ++ [c]) := by rw [nat8e_app]; rfl
        by_cases hov : out.length + 1 > 1048576
        · rw [if_pos hov]
          refine Ev.now fun k => ?_
          simp only [toolchestref07_Expand.l0]
          rw [if_pos (nat_lt hlt), if_pos (nat_nn i), hb, if_neg hn9, if_neg hn10, if_pos (by rw [nat8e_len]; omega), Option.bind_some, if_pos (by rw [List.length_append, nat8e_len]; show ((out.length + 1 : Nat) : Int) > 1048576; omega)]
          rfl
        · rw [if_neg hov]
          refine (ih (i + 1) (out ++ [c]) (col + 1) (by omega) (by rw [List.length_append]; show col + 1 ≤ out.length + 1; omega) (by rw [List.length_append]; show out.length + 1 ≤ _; omega)).next fun k hk => ?_
          simp only [toolchestref07_Expand.l0]
          rw [if_pos (nat_lt hlt), if_pos (nat_nn i), hb, if_neg hn9, if_neg hn10, if_pos (by rw [nat8e_len]; omega), Option.bind_some, if_neg (by rw [List.length_append, nat8e_len]; show ¬ ((out.length + 1 : Nat) : Int) > 1048576; omega), e1, hw, hwc]
          exact hk
theorem refExpand_f (s : ByteArray) (hs : s.size ≤ 100000000) (n : Int) : Ev (fun k => toolchestref07_Expand.f k s n) (ansE (expE n s.data.toList)) := by
  unfold expE
  by_cases h1 : n < 1
  · rw [if_pos h1]
    refine Ev.now fun k => ?_
    unfold toolchestref07_Expand.f
    rw [if_pos h1]
    simp only [toolchestref07_Expand.j0]
    rfl
  · rw [if_neg h1]
    by_cases h2 : n > 100
    · rw [if_pos h2]
      refine Ev.now fun k => ?_
      unfold toolchestref07_Expand.f
      rw [if_neg h1, decide_eq_true h2]
      simp only [toolchestref07_Expand.j0]
      rfl
    · rw [if_neg h2]
      obtain ⟨N, rfl⟩ : ∃ N : Nat, n = (N : Int) := ⟨n.toNat, by omega⟩
      refine (expand_l0 s hs N (by omega) (by omega) s.size 0 [] 0 (Nat.zero_add _) (Nat.le_refl _) (by simp)).next fun k hk => ?_
      unfold toolchestref07_Expand.f
      rw [if_neg h1, decide_eq_false h2]
      simp only [toolchestref07_Expand.j0]
      rw [if_neg (by decide)]
      exact hk
set_option maxHeartbeats 1000000 in
set_option maxRecDepth 100000 in
theorem CutsExpands_walk (a0 : ByteArray) (a1 : Int) (W : World) (ok0 : a0.size ≤ 140737488351232) (ok1 : (Lit.int .i64 a1).wf = true) :
    Calls Try.prog 4 #[.string a0, .int .i64 a1] W fun e W' => e = .returned (.bool true) ∧ Below W.heap.size W W' := by
  obtain ⟨kb, hkb⟩ := (beyond_one a0.size (by omega)).at_
  have KB := Lib.hid hkb
  clear hkb ok1
  by_cases hbig : a0.size > 1048576
  · rw [decide_eq_true hbig] at KB
    go_enter Try.func4, Try.ntmps4
    go_wp2_with (go_at_call 10; refine (toolchestlaw01_Beyond.calls kb (some ⟨W.heap.size, 0, none⟩) 1 [(a0.size : Int)] true _ (C_ints W .i64 3 [(a0.size : Int)] (by simp)) (Nat.le_refl _) KB.out).mono ?_)
    rintro e w2 ⟨rfl, hb2⟩
    go_wp2
    go_ret
    exact ⟨rfl, bth (bal (Below.refl _ _) _) hb2.below⟩
  · rw [decide_eq_false hbig] at KB
    have hs : a0.size ≤ 100000000 := by omega
    obtain ⟨kr, hkr⟩ := (refExpand_f a0 hs a1).at_
    have hex := fun w => expand_calls a0 hs a1 w
    generalize expE a1 a0.data.toList = R at hkr hex
    obtain ⟨r, x⟩ := R
    have KR := Lib.hid hkr
    have HX := Lib.hid hex
    clear hkr hex hbig
    go_enter Try.func4, Try.ntmps4
    go_wp2_with (go_at_call 10; refine (toolchestlaw01_Beyond.calls kb (some ⟨W.heap.size, 0, none⟩) 1 [(a0.size : Int)] false _ (C_ints W .i64 3 [(a0.size : Int)] (by simp)) (Nat.le_refl _) KB.out).mono ?_)
    first | (rintro e w2 rfl hb2) | (rintro e w2 ⟨rfl, hb2⟩)
    have B2 := Lib.hid (bth (bal (Below.refl _ _) _) hb2.below)
    clear hb2
    go_wp2_with (go_at_call 11; refine (HX.out _).mono ?_)
    first | (rintro e w3 rfl hb3) | (rintro e w3 ⟨rfl, hb3⟩)
    have B3 := Lib.hid (bth B2.out hb3)
    clear hb3
    go_wp2_with (go_at_call 12; refine (toolchestref07_Expand.calls kr a0 a1 _ _ _ KR.out).mono ?_)
    first | (rintro e w4 rfl hb4) | (rintro e w4 ⟨rfl, hb4⟩)
    have B4 := Lib.hid (bth B3.out hb4)
    clear hb4
    go_wp2
    go_ret
    exact ⟨rfl, B4.out⟩
end Go.Proofs.Ytkedjlekeohpaaa.P

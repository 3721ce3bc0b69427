/- LinesCuts: the plain law. -/
import Derived.Test.YtgbhcanfjmefiaaQx6
import Derived.Test.YtgbhcanfjmefiaaAlive
import Derived.Test.YtgbhcanfjmefiaaEv
set_option linter.unusedVariables false
set_option linter.unusedSimpArgs false
namespace Go.Proofs.Ytgbhcanfjmefiaa.Pure
open Go.RowKit Go.Proofs.Ytgbhcanfjmefiaa.Q Go.Proofs.YtgbhcanfjmefiaaW.PrintWords Go.Proofs.YtgbhcanfjmefiaaW.PrintLast Go.Proofs.Ytgbhcanfjmefiaa.S

/-- The place behind the first so many lines. -/
def behindL : Nat → List UInt8 → Nat
  | 0, _ => 0
  | _ + 1, [] => 0
  | n + 1, c :: l => if c = 10 then behindL n l + 1 else behindL (n + 1) l + 1
theorem behindL_le (l : List UInt8) : ∀ n, behindL n l ≤ l.length := by
  induction l with
  | nil => intro n; cases n <;> simp [behindL]
  | cons c l ih =>
    intro n
    cases n with
    | zero => simp [behindL]
    | succ n =>
      simp only [behindL, List.length_cons]
      split
      · have := ih n; omega
      · have := ih (n + 1); omega
theorem behindL_zero (l : List UInt8) : behindL 0 l = 0 := by cases l <;> rfl
theorem behindL_nil (n : Nat) : behindL n [] = 0 := by cases n <;> rfl
theorem behindL_find (l : List UInt8) : ∀ n, (Lib.indexByte l 10 < 0 → behindL (n + 1) l = l.length) ∧ (∀ k : Nat, Lib.indexByte l 10 = k → behindL (n + 1) l = k + 1 + behindL n (l.drop (k + 1)) ∧ k < l.length) := by
  induction l with
  | nil => intro n; exact ⟨fun _ => rfl, fun k hk => by simp only [Lib.indexByte] at hk; omega⟩
  | cons c l ih =>
    intro n
    have hge := Lib.indexByte_ge l 10
    by_cases hc : c = 10
    · subst hc
      have e : Lib.indexByte (10 :: l) 10 = 0 := by simp [Lib.indexByte]
      rw [e]
      refine ⟨fun h => absurd h (by decide), fun k hk => ?_⟩
      obtain rfl : k = 0 := by omega
      refine ⟨?_, by simp⟩
      simp only [behindL, List.drop_succ_cons, List.drop_zero, if_true]
      omega
    · have hb : (c == 10) = false := by simpa using hc
      by_cases hn : Lib.indexByte l 10 = -1
      · have e : Lib.indexByte (c :: l) 10 = -1 := by simp [Lib.indexByte, hb, hn]
        rw [e]
        refine ⟨fun _ => ?_, fun k hk => absurd hk (by omega)⟩
        simp only [behindL]
        rw [if_neg hc, (ih n).1 (by omega)]
        simp
      · have e : Lib.indexByte (c :: l) 10 = Lib.indexByte l 10 + 1 := by simp [Lib.indexByte, hb, hn]
        rw [e]
        refine ⟨fun h => absurd h (by omega), fun k hk => ?_⟩
        obtain ⟨j, rfl⟩ : ∃ j, k = j + 1 := ⟨k - 1, by omega⟩
        obtain ⟨h1, h2⟩ := (ih n).2 j (by omega)
        simp only [behindL]
        rw [if_neg hc, h1]
        refine ⟨?_, by simp; omega⟩
        rw [List.drop_succ_cons]
        omega
/-- With a line's end ahead of it, so many lines lie ahead. -/
theorem behindL_at (a r : List UInt8) : behindL (a.count 10 + 1) (a ++ 10 :: r) = a.length + 1 := by
  induction a with
  | nil => simp [behindL]
  | cons c a ih =>
    rw [List.cons_append, List.count_cons]
    by_cases hc : c = 10
    · subst hc
      simp only [behindL, beq_self_eq_true, if_true, List.length_cons]
      rw [ih]
    · have hb : (c == 10) = false := by simpa using hc
      rw [hb]
      simp only [Bool.false_eq_true, if_false, Nat.add_zero, behindL, List.length_cons]
      rw [if_neg hc, ih]
theorem behindL_all (l : List UInt8) : ∀ n, l.count 10 < n → behindL n l = l.length := by
  induction l with
  | nil => intro n _; rw [behindL_nil]; rfl
  | cons c l ih =>
    intro n hn
    obtain ⟨m, rfl⟩ : ∃ m, n = m + 1 := ⟨n - 1, by omega⟩
    simp only [behindL, List.length_cons]
    by_cases hc : c = 10
    · subst hc
      rw [List.count_cons_self] at hn
      rw [if_pos rfl, ih m (by omega)]
    · have : (c :: l).count 10 = l.count 10 := by rw [List.count_cons]; simp [hc]
      rw [if_neg hc, ih (m + 1) (by omega)]
theorem behindL_end (b : List UInt8) : behindL (b.count 10 + 1) (b ++ [10]) = b.length + 1 := behindL_at b []

theorem wrap_back (n : Int) (h1 : 0 < n) (h2 : n ≤ 9223372036854775807) : wrap64 (n - 1) = n - 1 := by unfold wrap64; omega
theorem wrap_at (i k : Nat) (h : i + k ≤ 4000000000) : wrap64 ((i : Int) + ((k + 1 : Nat) : Int)) = ((i + (k + 1) : Nat) : Int) := by unfold wrap64; omega
theorem toNat_succ (n : Int) (h : 0 < n) : n.toNat = (n - 1).toNat + 1 := by omega
theorem toNat_zero' (n : Int) (h : ¬ 0 < n) : n.toNat = 0 := by omega
theorem back_range (n : Int) (h1 : 0 < n) (h2 : n ≤ 9223372036854775807) : -9223372036854775808 ≤ n - 1 ∧ n - 1 ≤ 9223372036854775807 := by omega
theorem neg_of (k : Int) (h : ¬ k < 0) : ∃ m : Nat, k = m := ⟨k.toNat, by omega⟩
theorem arith_b (i d m z : Nat) (hi : i + d = z) (h : m < z - i) (hz : z ≤ 1048576) : d - (m + 1) < d ∧ i + (m + 1) + (d - (m + 1)) = z ∧ m ≤ 4000000000 ∧ i + m ≤ 4000000000 := by omega
theorem behind_loop (s : ByteArray) (hs : s.size ≤ 1048576) : ∀ (d : Nat) (i : Nat) (n : Int), i + d = s.size → -9223372036854775808 ≤ n → n ≤ 9223372036854775807 →
    Ev (fun k => lines_behind.l0 k s n (i : Int)) ((i + behindL n.toNat (s.data.toList.drop i) : Nat) : Int) := by
  intro d
  induction d using Nat.strongRecOn with
  | ind d ih =>
    intro i n hi n0 n1
    have hlen : s.data.toList.length = s.size := (Lib.size_eq s).symm
    have ci := nat_nn i
    have ci3 : (i : Int) ≤ (s.size : Int) := by omega
    by_cases hn : n > 0
    · by_cases hlt : i < s.size
      · have hext : (s.extract ((i : Nat) : Int).toNat s.size).data.toList = s.data.toList.drop i := by
          rw [← Lib.toList_data, Lib.extract_toList]
          exact List.take_of_length_le (by rw [List.length_drop, hlen]; exact Nat.le_refl _)
        have hwn := wrap_back n hn n1
        obtain ⟨r0, r1⟩ := back_range n hn n1
        obtain ⟨f1, f2⟩ := behindL_find (s.data.toList.drop i) (n - 1).toNat
        rw [← toNat_succ n hn] at f1 f2
        by_cases hk : Lib.indexByte (s.data.toList.drop i) 10 < 0
        · have e := f1 hk
          have e2 : (((i + behindL n.toNat (s.data.toList.drop i) : Nat)) : Int) = (s.size : Int) := by rw [e, List.length_drop, hlen]; exact congrArg _ (Nat.add_sub_cancel' (Nat.le_of_lt hlt))
          rw [e2]
          refine (Ev.now (G := fun k => lines_behind.j1 k s n (i : Int) true) (r := (s.size : Int)) fun k => ?_).step fun k hk' => ?_
          · simp only [lines_behind.j1]
            rw [if_pos trivial, if_pos ci, if_pos ci3]
            unfold strings_IndexByte.f
            rw [Option.bind_some, hext]
            exact if_pos hk
          · simp only [lines_behind.l0]
            rw [if_pos hn, decide_eq_true (nat_lt hlt)]
            exact hk'
        · obtain ⟨m, hm⟩ := neg_of _ hk
          obtain ⟨e, hml⟩ := f2 m hm
          rw [List.length_drop, hlen] at hml
          obtain ⟨q1, q2, q3, q4⟩ := arith_b i d m s.size hi hml hs
          have hnx := ih (d - (m + 1)) q1 (i + (m + 1)) (n - 1) q2 r0 r1
          have e3 : i + (m + 1) + behindL (n - 1).toNat (s.data.toList.drop (i + (m + 1))) = i + behindL n.toNat (s.data.toList.drop i) := by
            rw [e, List.drop_drop, ← Nat.add_assoc i (m + 1)]
          rw [e3] at hnx
          have hw1 := wrap_one m q3
          have hw2 := wrap_at i m q4
          clear e e3 f1 f2
          refine (hnx.step (G := fun k => lines_behind.j1 k s n (i : Int) true) fun k hk' => ?_).step fun k hk' => ?_
          · simp only [lines_behind.j1]
            rw [if_pos trivial, if_pos ci, if_pos ci3]
            unfold strings_IndexByte.f
            rw [Option.bind_some, hext]
            have h10 : (10 : Int).toNat.toUInt8 = 10 := rfl
            rw [h10, if_neg hk, hm, hw1, hw2, hwn]
            exact hk'
          · simp only [lines_behind.l0]
            rw [if_pos hn, decide_eq_true (nat_lt hlt)]
            exact hk'
      · have hdr : s.data.toList.drop i = [] := List.drop_of_length_le (by rw [hlen]; exact Nat.not_lt.1 hlt)
        rw [hdr, behindL_nil, Nat.add_zero]
        refine (Ev.now (G := fun k => lines_behind.j1 k s n (i : Int) false) (r := (i : Int)) fun k => ?_).step fun k hk' => ?_
        · simp only [lines_behind.j1]; rfl
        · simp only [lines_behind.l0]
          rw [if_pos hn, decide_eq_false (not_nat_lt hlt)]
          exact hk'
    · rw [toNat_zero' n hn]
      have hz : i + behindL 0 (s.data.toList.drop i) = i := by rw [behindL_zero, Nat.add_zero]
      rw [hz]
      refine (Ev.now (G := fun k => lines_behind.j1 k s n (i : Int) false) (r := (i : Int)) fun k => ?_).step fun k hk' => ?_
      · simp only [lines_behind.j1]; rfl
      · simp only [lines_behind.l0]
        rw [if_neg hn]
        exact hk'
theorem ref_head_loop (s : ByteArray) (hs : s.size ≤ 1048576) : ∀ (d : Nat) (i : Nat) (n : Int), i + d = s.size → -9223372036854775808 ≤ n → n ≤ 9223372036854775807 →
    Ev (fun k => toolchestref02_Head.l0 k s n (i : Int)) (s.extract 0 (i + behindL n.toNat (s.data.toList.drop i))) := by
  intro d
  induction d with
  | zero =>
    intro i n hi n0 n1
    have hlen : s.data.toList.length = s.size := (Lib.size_eq s).symm
    obtain rfl : i = s.size := by omega
    have hdr : s.data.toList.drop s.size = [] := List.drop_of_length_le (by omega)
    rw [hdr, behindL_nil, Nat.add_zero]
    have e : s.extract 0 s.size = s := by
      apply ext_bytes
      rw [← Lib.toList_data, Lib.extract_toList, List.drop_zero, Nat.sub_zero, ← hlen, List.take_length]
    rw [e]
    refine Ev.now fun k => ?_
    simp only [toolchestref02_Head.l0]
    rw [if_neg (not_nat_lt (Nat.lt_irrefl _))]
  | succ d ih =>
    intro i n hi n0 n1
    have hlen : s.data.toList.length = s.size := (Lib.size_eq s).symm
    have hlt : i < s.size := by omega
    have hlt' : i < s.data.toList.length := by omega
    have ci := nat_nn i
    have ci3 : (i : Int) ≤ (s.size : Int) := by omega
    have hw := wrap_one i (by omega)
    have hi1 : i + 1 + d = s.size := by omega
    have hb := bt_list s i hlt'
    have hdr := List.drop_eq_getElem_cons hlt'
    by_cases hn : n ≤ 0
    · have hz : i + behindL n.toNat (s.data.toList.drop i) = i := by rw [toNat_zero' n (fun h => absurd hn (Int.not_le.2 h)), behindL_zero, Nat.add_zero]
      rw [hz]
      refine Ev.now fun k => ?_
      simp only [toolchestref02_Head.l0]
      rw [if_pos (nat_lt hlt), if_pos hn, if_pos ci, if_pos ci3]
      rfl
    · have hn' : 0 < n := Int.not_le.1 hn
      have hwn := wrap_back n hn' n1
      obtain ⟨r0, r1⟩ := back_range n hn' n1
      rw [hdr, toNat_succ n hn']
      by_cases hc : s.data.toList[i] = 10
      · have hc10 : ((s.data.toList[i]).toNat : Int) = 10 := by rw [hc]; rfl
        have e : i + behindL ((n - 1).toNat + 1) (s.data.toList[i] :: s.data.toList.drop (i + 1)) = i + 1 + behindL (n - 1).toNat (s.data.toList.drop (i + 1)) := by
          simp only [behindL]
          rw [if_pos hc, Nat.add_assoc, Nat.add_comm 1]
        rw [e]
        refine (ih (i + 1) (n - 1) hi1 r0 r1).step fun k hk => ?_
        simp only [toolchestref02_Head.l0]
        rw [if_pos (nat_lt hlt), if_neg hn, if_pos ci, hb, if_pos hc10, hwn, hw]
        exact hk
      · have hc10 : ¬ ((s.data.toList[i]).toNat : Int) = 10 := fun e => hc (UInt8.toNat_inj.1 (Int.ofNat_inj.1 e))
        have e : i + behindL ((n - 1).toNat + 1) (s.data.toList[i] :: s.data.toList.drop (i + 1)) = i + 1 + behindL n.toNat (s.data.toList.drop (i + 1)) := by
          simp only [behindL]
          rw [if_neg hc, ← toNat_succ n hn', Nat.add_assoc, Nat.add_comm 1]
        rw [e]
        refine (ih (i + 1) n hi1 n0 n1).step fun k hk => ?_
        simp only [toolchestref02_Head.l0]
        rw [if_pos (nat_lt hlt), if_neg hn, if_pos ci, hb, if_neg hc10, hw]
        exact hk
/-- How many lines lie ahead of the last n', ahead of place i. -/
theorem ref_tail_loop (s : ByteArray) (hs : s.size ≤ 1048576) : ∀ (i : Nat) (n : Int), i < s.size → 1 ≤ n → n ≤ 9223372036854775807 →
    Ev (fun k => toolchestref02_Tail.l0 k s n (i : Int)) (s.extract (behindL ((s.data.toList.take i).count 10 + 1 - n.toNat) s.data.toList) s.size) := by
  intro i
  induction i with
  | zero =>
    intro n hi h1 h2
    have e : (List.take 0 s.data.toList).count 10 + 1 - n.toNat = 0 := by rw [List.take_zero, List.count_nil]; omega
    have e2 : s.extract 0 s.size = s := by
      apply ext_bytes
      rw [← Lib.toList_data, Lib.extract_toList, List.drop_zero, Nat.sub_zero, Lib.size_eq, List.take_length]
    rw [e, behindL_zero, e2]
    refine Ev.now fun k => ?_
    simp only [toolchestref02_Tail.l0]
    rfl
  | succ i ih =>
    intro n hi h1 h2
    have hlen : s.data.toList.length = s.size := (Lib.size_eq s).symm
    have hlt : i < s.data.toList.length := by omega
    have ci := nat_nn i
    have ci2 : (i : Int) < (s.size : Int) := by omega
    have cp : ((i + 1 : Nat) : Int) > 0 := by omega
    have cj := nat_nn (i + 1)
    have cj3 : ((i + 1 : Nat) : Int) ≤ (s.size : Int) := by omega
    have hw : wrap64 (((i + 1 : Nat) : Int) - 1) = (i : Int) := by unfold wrap64; omega
    have hn' : 0 < n := by omega
    have hn0 : ¬ n ≤ 0 := by omega
    have hwn := wrap_back n hn' h2
    have hb := bt_list s i hlt
    have htk := List.take_succ_eq_append_getElem hlt
    have hi' : i < s.size := by omega
    by_cases hc : s.data.toList[i] = 10
    · have hc10 : ((s.data.toList[i]).toNat : Int) = 10 := by rw [hc]; rfl
      have hcount : (s.data.toList.take (i + 1)).count 10 = (s.data.toList.take i).count 10 + 1 := by rw [htk, List.count_append, hc]; rfl
      by_cases h0 : n - 1 ≤ 0
      · have hn1 : n.toNat = 1 := by omega
        have e : behindL ((s.data.toList.take (i + 1)).count 10 + 1 - n.toNat) s.data.toList = i + 1 := by
          rw [hcount, hn1, Nat.add_sub_cancel]
          have hspl : s.data.toList = s.data.toList.take i ++ 10 :: s.data.toList.drop (i + 1) := by
            conv => lhs; rw [← List.take_append_drop i s.data.toList, List.drop_eq_getElem_cons hlt, hc]
          conv => lhs; rw [hspl]
          have ht : (s.data.toList.take i).count 10 = (s.data.toList.take i).count 10 := rfl
          have := behindL_at (s.data.toList.take i) (s.data.toList.drop (i + 1))
          rw [← hspl] at this ⊢
          rw [this, List.length_take, Nat.min_eq_left (Nat.le_of_lt hlt)]
        rw [e]
        refine Ev.now fun k => ?_
        simp only [toolchestref02_Tail.l0]
        rw [if_pos cp, hw, if_pos ci, if_pos ci2, hb, if_pos hc10, hwn, if_pos h0, if_pos cj, if_pos cj3]
        rfl
      · have e : (s.data.toList.take (i + 1)).count 10 + 1 - n.toNat = (s.data.toList.take i).count 10 + 1 - (n - 1).toNat := by
          rw [hcount, toNat_succ n hn', Nat.add_sub_add_right]
        have q1 : 1 ≤ n - 1 := by clear e hcount htk hb; omega
        have q2 : n - 1 ≤ 9223372036854775807 := by clear e hcount htk hb; omega
        rw [e]
        refine (ih (n - 1) hi' q1 q2).step fun k hk => ?_
        simp only [toolchestref02_Tail.l0]
        rw [if_pos cp, hw, if_pos ci, if_pos ci2, hb, if_pos hc10, hwn, if_neg h0]
        exact hk
    · have hc10 : ¬ ((s.data.toList[i]).toNat : Int) = 10 := fun e => hc (UInt8.toNat_inj.1 (Int.ofNat_inj.1 e))
      have hbq : (s.data.toList[i] == 10) = false := by rw [beq_eq_false_iff_ne]; exact hc
      have hcount : (s.data.toList.take (i + 1)).count 10 = (s.data.toList.take i).count 10 := by rw [htk, List.count_append, List.count_singleton, hbq]; rfl
      rw [hcount]
      refine (ih n hi' h1 h2).step fun k hk => ?_
      simp only [toolchestref02_Tail.l0]
      rw [if_pos cp, hw, if_pos ci, if_pos ci2, hb, if_neg hc10, if_neg hn0]
      exact hk
theorem splitL_count (l : List UInt8) : (splitL isNl l).length = l.count 10 + 1 := by
  refine parts_ind isNl (C := fun l => (splitL isNl l).length = l.count 10 + 1) ?_ ?_ l
  · intro l hl
    unfold splitL
    rw [splitL_one isNl l hl]
    have : l.count 10 = 0 := by
      rw [List.count_eq_zero]
      intro h
      have := hl 10 h
      rw [(isNl_iff 10).2 rfl] at this; cases this
    rw [this]; rfl
  · intro l c r hl hc ih
    have e2 : splitL isNl l = [l] := by unfold splitL; rw [splitL_one isNl l hl]; rfl
    have h0 : l.count 10 = 0 := by
      rw [List.count_eq_zero]
      intro h
      have := hl 10 h
      rw [(isNl_iff 10).2 rfl] at this; cases this
    rw [splitL_app isNl l r c hc, e2, List.length_append, ih, List.count_append, h0, (isNl_iff c).1 hc, List.count_cons_self]
    simp; omega
theorem lines_count (l : List UInt8) (h : l ≠ []) : (linesL l).length = (l.take (l.length - 1)).count 10 + 1 := by
  unfold linesL
  rw [if_neg h]
  rcases ends_or l with ⟨b, rfl⟩ | h2
  · rw [trim_nl, splitL_count, List.length_append]
    simp
  · rw [(trim_other l h2).1, splitL_count]
    have e := List.dropLast_concat_getLast h
    have hx : l.getLast h ≠ 10 := fun e2 => h2 l.dropLast (by rw [← e2]; exact e.symm)
    have hq : (l.getLast h == 10) = false := by rw [beq_eq_false_iff_ne]; exact hx
    conv => lhs; rw [← e]
    rw [List.count_append, List.count_singleton, hq, ← List.dropLast_eq_take]
    rfl
theorem lines_end (l : List UInt8) : behindL (linesL l).length l = l.length := by
  by_cases h : l = []
  · subst h; rfl
  · rw [lines_count l h]
    have e := List.dropLast_concat_getLast h
    rw [← List.dropLast_eq_take]
    by_cases hx : l.getLast h = 10
    · have := behindL_end l.dropLast
      have e' : l.dropLast ++ [10] = l := by
        conv => rhs; rw [← e, hx]
      rw [e'] at this
      rw [this, List.length_dropLast]
      have := List.length_pos_iff.2 h
      omega
    · refine behindL_all l _ ?_
      have hq : (l.getLast h == 10) = false := by rw [beq_eq_false_iff_ne]; exact hx
      conv => lhs; rw [← e]
      rw [List.count_append, List.count_singleton, hq]
      simp
theorem behind_ev (s : ByteArray) (hs : s.size ≤ 1048576) (n : Int) (h0 : -9223372036854775808 ≤ n) (h1 : n ≤ 9223372036854775807) : Ev (fun k => lines_behind.f k s n) ((behindL n.toNat s.data.toList : Nat) : Int) := by
  have := behind_loop s hs s.size 0 n (Nat.zero_add _) h0 h1
  rw [List.drop_zero, Nat.zero_add] at this
  exact this
theorem head_ev (s : ByteArray) (hs : s.size ≤ 1048576) (n : Int) (h0 : -9223372036854775808 ≤ n) (h1 : n ≤ 9223372036854775807) : Ev (fun k => lines_Head.f k s n) (s.extract 0 (behindL n.toNat s.data.toList)) := by
  obtain ⟨k0, hk⟩ := behind_ev s hs n h0 h1
  have hle : ((behindL n.toNat s.data.toList : Nat) : Int) ≤ (s.size : Int) := by
    rw [Lib.size_eq]; exact Int.ofNat_le.2 (behindL_le _ _)
  refine ⟨k0, fun k h => ?_⟩
  show lines_Head.f k s n = _
  unfold lines_Head.f
  have hk' : lines_behind.f k s n = _ := hk k h
  rw [hk', Option.bind_some, if_pos (nat_nn _), if_pos hle]
  rfl
theorem ref_head_ev (s : ByteArray) (hs : s.size ≤ 1048576) (n : Int) (h0 : -9223372036854775808 ≤ n) (h1 : n ≤ 9223372036854775807) : Ev (fun k => toolchestref02_Head.f k s n) (s.extract 0 (behindL n.toNat s.data.toList)) := by
  have := ref_head_loop s hs s.size 0 n (Nat.zero_add _) h0 h1
  rw [List.drop_zero, Nat.zero_add] at this
  exact this
/-- How many lines a tail leaves out. -/
def leftOut (s : ByteArray) (n : Int) : Nat := (linesL s.data.toList).length - (max 0 (min n ((linesL s.data.toList).length : Int))).toNat
theorem out_of (c : Nat) (n : Int) (h : c ≤ 4000000000) : wrap64 ((c : Int) - (mx 0 (mn n (c : Int)))) = ((c - (max 0 (min n (c : Int))).toNat : Nat) : Int) := by
  unfold wrap64 mx mn
  split <;> split <;> omega
theorem out_range (c m : Nat) (h : c ≤ 4000000000) : -9223372036854775808 ≤ ((c - m : Nat) : Int) ∧ ((c - m : Nat) : Int) ≤ 9223372036854775807 := by omega
theorem tail_ev (s : ByteArray) (hs : s.size ≤ 1048576) (n : Int) : Ev (fun k => lines_Tail.f k s n) (s.extract (behindL (leftOut s n) s.data.toList) s.size) := by
  have hc : (linesL s.data.toList).length ≤ 4000000000 := Nat.le_trans (linesL_len _) (by rw [← Lib.size_eq]; omega)
  obtain ⟨r0, r1⟩ := out_range (linesL s.data.toList).length (max 0 (min n ((linesL s.data.toList).length : Int))).toNat hc
  obtain ⟨k0, hk⟩ := behind_ev s hs _ r0 r1
  rw [Int.toNat_natCast] at hk
  have hle : ((behindL (leftOut s n) s.data.toList : Nat) : Int) ≤ (s.size : Int) := by
    rw [Lib.size_eq]; exact Int.ofNat_le.2 (behindL_le _ _)
  have ho := out_of (linesL s.data.toList).length n hc
  refine ⟨k0, fun k h => ?_⟩
  show lines_Tail.f k s n = _
  have hk' := hk k h
  simp only at hk'
  unfold lines_Tail.f
  rw [split_f s (by omega), Option.bind_some]
  simp only [List.length_map]
  rw [ho, hk', Option.bind_some, if_pos (nat_nn _)]
  exact if_pos hle
theorem left_zero (s : ByteArray) (n : Int) (h : n ≤ 0) : leftOut s n = (linesL s.data.toList).length := by
  unfold leftOut
  generalize (linesL s.data.toList).length = c
  omega
theorem left_pos (s : ByteArray) (n : Int) (h : ¬ n ≤ 0) : leftOut s n = (linesL s.data.toList).length - n.toNat := by
  unfold leftOut
  generalize (linesL s.data.toList).length = c
  omega
theorem ref_tail_ev (s : ByteArray) (hs : s.size ≤ 1048576) (n : Int) (h1 : n ≤ 9223372036854775807) : Ev (fun k => toolchestref02_Tail.f k s n) (s.extract (behindL (leftOut s n) s.data.toList) s.size) := by
  have hlen : s.data.toList.length = s.size := (Lib.size_eq s).symm
  by_cases hn : n ≤ 0
  · have e : s.extract (behindL (leftOut s n) s.data.toList) s.size = (⟨#[]⟩ : ByteArray) := by
      rw [left_zero s n hn, lines_end, hlen]
      apply ext_bytes
      rw [← Lib.toList_data, Lib.extract_toList, Nat.sub_self, List.take_zero]
    rw [e]
    refine Ev.now fun k => ?_
    unfold toolchestref02_Tail.f
    exact if_pos hn
  · by_cases hz : s.size = 0
    · have hw : wrap64 ((s.size : Int) - 1) = -1 := by rw [hz]; unfold wrap64; omega
      have hnil := (toList_eq_nil s).2 hz
      have e : s.extract (behindL (leftOut s n) s.data.toList) s.size = s := by
        apply ext_bytes
        rw [← Lib.toList_data, Lib.extract_toList, hnil]; simp
      rw [e]
      refine Ev.now fun k => ?_
      unfold toolchestref02_Tail.f
      rw [if_neg hn, hw]
      simp only [toolchestref02_Tail.l0]
      rfl
    · have hw : wrap64 ((s.size : Int) - 1) = ((s.size - 1 : Nat) : Int) := by unfold wrap64; omega
      have hne : s.data.toList ≠ [] := fun e => hz ((toList_eq_nil s).1 e)
      obtain ⟨k0, hk⟩ := ref_tail_loop s hs (s.size - 1) n (by omega) (by omega) h1
      refine ⟨k0, fun k h => ?_⟩
      show toolchestref02_Tail.f k s n = _
      have hk' := hk k h
      simp only at hk'
      unfold toolchestref02_Tail.f
      rw [if_neg hn, hw, hk', left_pos s n hn, lines_count _ hne, hlen]
theorem bytes_range (n : Int) (c : Nat) : 0 ≤ mx 0 (mn n (c : Int)) ∧ mx 0 (mn n (c : Int)) ≤ (c : Int) := by
  unfold mx mn
  split <;> split <;> omega
theorem head_bytes (s : ByteArray) (n : Int) : lines_HeadBytes.f s n = some (s.extract 0 (mx 0 (mn n (s.size : Int))).toNat) := by
  obtain ⟨h1, h2⟩ := bytes_range n s.size
  unfold lines_HeadBytes.f
  rw [if_pos h1, if_pos h2]
theorem tail_bytes (s : ByteArray) (hs : s.size ≤ 1048576) (n : Int) : lines_TailBytes.f s n = some (s.extract (s.size - (max 0 (min n (s.size : Int))).toNat) s.size) := by
  unfold lines_TailBytes.f
  rw [out_of s.size n (by omega), if_pos (nat_nn _), if_pos (Int.ofNat_le.2 (Nat.sub_le _ _))]
  rfl
theorem LinesCuts : toolchestlaw02_LinesCuts.Pure := by
  intro a0 a1 h0 hwf
  have hr : -9223372036854775808 ≤ a1 ∧ a1 ≤ 9223372036854775807 := by
    have := hwf
    simp [Lit.wf] at this
    exact ⟨Int.le_trans (by decide) this.1, this.2⟩
  by_cases hb : a0.size ≤ 1048576
  · obtain ⟨k1, e1⟩ := (head_ev a0 hb a1 hr.1 hr.2).and (ref_head_ev a0 hb a1 hr.1 hr.2)
    obtain ⟨k2, e2⟩ := (tail_ev a0 hb a1).and (ref_tail_ev a0 hb a1 hr.2)
    have hx : toolchestref02_HeadBytes.f a0 a1 = lines_HeadBytes.f a0 a1 := rfl
    have hy : toolchestref02_TailBytes.f a0 a1 = lines_TailBytes.f a0 a1 := rfl
    have ht := tail_bytes a0 hb a1
    refine ⟨max (max k1 k2) 2, ?_⟩
    obtain ⟨f1, f2⟩ := e1 (max (max k1 k2) 2) (by omega)
    obtain ⟨f3, f4⟩ := e2 (max (max k1 k2) 2) (by omega)
    clear e1 e2
    have hby := beyond_ge (max (max k1 k2) 2) (a0.size : Int) (by omega) (by omega) (by omega)
    have hd : ¬ (decide ((a0.size : Int) > 1048576)) = true := by simp; omega
    unfold toolchestlaw02_LinesCuts.f
    rw [hby, Option.bind_some, if_neg hd, f1, Option.bind_some, f2, Option.bind_some, if_pos rfl, f3, Option.bind_some, f4, Option.bind_some, if_pos rfl, hx, head_bytes, Option.bind_some, Option.bind_some, if_pos rfl, hy, ht, Option.bind_some, Option.bind_some, beq_self_eq_true]
  · refine ⟨2, ?_⟩
    unfold toolchestlaw02_LinesCuts.f
    rw [beyond_ge 2 _ (by decide) (by omega) (by omega), Option.bind_some, if_pos (by simp; omega)]
end Go.Proofs.Ytgbhcanfjmefiaa.Pure

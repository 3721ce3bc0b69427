/- SortsComms: the walk of the law: for any two lists of texts it returns true. -/
import Derived.Test.YtiibaggpaabfcaaDoorComm
import Derived.Test.YtiibaggpaabfcaaDoorQx1
import Derived.Test.YtiibaggpaabfcaaDoorSameSelf
import Derived.Test.YtiibaggpaabfcaaDoorSizes1
import Derived.Test.YtiibaggpaabfcaaDoorBook6
set_option linter.unusedVariables false
set_option linter.unusedSimpArgs false
namespace Go.Proofs.YtiibaggpaabfcaaDoor.P
open Go.RowKit Go.Proofs Go.Proofs.YtiibaggpaabfcaaDoor.Q Go.Proofs.YtiibaggpaabfcaaDoor.H Go.Proofs.YtiibaggpaabfcaaDoorW.PrintWords Go.Proofs.YtiibaggpaabfcaaDoorW.PrintLast

theorem own_R' {W : World} {base : Nat} {ok : Nat → Prop} {v : Value} {l : List ByteArray} (h : Kd.R Kd.string 9 W base ok v l) : ∃ A c, v = .slice A l.length c ∧ l.length ≤ c ∧ Kd.C Kd.string W A l.length l := Kd.R_reads h
theorem below_al {w w' : World} {o : Obj} (h : Below w.heap.size (w.alloc o) w') : Below w.heap.size w w' := ((Below.refl _ w).alloc (Nat.le_refl _) o).trans h
/-- A twin is a row of the call's own that holds the texts. -/
theorem own_twin {W : World} {base g cap : Nat} {l : List ByteArray} {x : ByteArray} (h : W.ownsRow base 9 1 (.slice (some ⟨g, 0, none⟩) (l.length + 1) cap) (l.length + 1) (strs (l ++ [x]))) :
    W.ownsRow base 9 1 (.slice (some ⟨g, 0, none⟩) l.length cap) l.length (strs l) := by
  have := own_take h (Nat.le_succ l.length)
  rw [Nat.mul_one] at this
  have e : (strs (l ++ [x])).take l.length = strs l := by
    unfold strs
    rw [List.map_append, List.take_left' (by simp)]
  rw [e] at this
  exact this
theorem ready_by {B0 Bk m : Nat} {T : Value} {L : List Held} {w : World} (X : Nat → List ByteArray) (hB : Book Bk T m L w) (hlen : L.length ≤ 90) (hbase : B0 ≤ Bk)
    (h : ∀ i, i < L.length → w.ownsRow B0 9 1 (L.getD i zH).v (X i).length (strs (X i)) ∧ (∀ b, (L.getD i zH).v.ownBlock = some b → b < Bk) ∧ (L.getD i zH).n < 100 ∧ (L.getD i zH).long = .slice none 0 0 ∧ (X i).length ≤ 8796093022000)
    (ho : ∀ i j, i < j → j < L.length → NeRow (L.getD i zH).v (L.getD j zH).v) : Ready B0 Bk m T L X w := by
  refine ⟨hB, by omega, ⟨fun i hi' b hb => ?_, fun i j hi' hj hne => ?_, fun i hi' => (h i hi').2.2.1, fun i hi' => ⟨_, _, _, (h i hi').2.2.2.1⟩⟩, fun i hi' => (h i hi').1, hbase, fun i hi' => (h i hi').2.2.2.2⟩
  · have := (h i hi').2.1 b hb
    omega
  · rcases Nat.lt_or_ge i j with hlt | hge
    · exact ne_other (ne_symm (ho i j hlt hj))
    · exact ne_other (ho j i (by omega) hi')
theorem comm_l0 (l1 l2 : List ByteArray) (hl : l1.length + l2.length ≤ 4000000) (m : Nat) : ∀ (i k : Nat) (L1 L2 L3 : List ByteArray), (l1.length - i) + (l2.length - k) ≤ m → i ≤ l1.length → k ≤ l2.length → L1.length + L2.length + L3.length ≤ i + k →
    Ev (fun f => toolchestref06_Comm.l0 f l1 l2 L1 L2 L3 (i : Int) (k : Int)) (L1 ++ (comm (l1.drop i) (l2.drop k)).1, L2 ++ (comm (l1.drop i) (l2.drop k)).2.1, L3 ++ (comm (l1.drop i) (l2.drop k)).2.2) := by
  induction m with
  | zero =>
    intro i k L1 L2 L3 h1 h2 h3 h4
    obtain rfl : i = l1.length := by omega
    obtain rfl : k = l2.length := by omega
    rw [List.drop_length, List.drop_length, comm_nil1]
    refine ⟨2, fun f hf => ?_⟩
    obtain ⟨j, rfl⟩ : ∃ j, f = j + 2 := ⟨f - 2, by omega⟩
    have c1 : ¬ ((l1.length : Nat) : Int) < (l1.length : Int) := by omega
    have c2 : L1.length + (l1.drop l1.length).length < 8796093022208 := by rw [List.length_drop]; omega
    have c3 : L2.length + (l2.drop l2.length).length < 8796093022208 := by rw [List.length_drop]; omega
    simp only [toolchestref06_Comm.l0]
    rw [if_neg c1]
    simp only [toolchestref06_Comm.j1]
    rw [if_neg (by decide), if_pos (nat_nn _), if_pos (nat_le (Nat.le_refl _)), Int.toNat_natCast, if_pos c2, if_pos (nat_nn _), if_pos (nat_le (Nat.le_refl _)), Int.toNat_natCast, if_pos c3, List.drop_length, List.drop_length]
    simp
  | succ m ih =>
    intro i k L1 L2 L3 h1 h2 h3 h4
    by_cases hb : i < l1.length ∧ k < l2.length
    · obtain ⟨hi, hk⟩ := hb
      have c3 : L1.length < 8796093022208 := by omega
      have c4 : L2.length < 8796093022208 := by omega
      have c5 : L3.length < 8796093022208 := by omega
      have q1 : (l1.length - (i + 1)) + (l2.length - k) ≤ m := by omega
      have q2 : (l1.length - i) + (l2.length - (k + 1)) ≤ m := by omega
      have q3 : (l1.length - (i + 1)) + (l2.length - (k + 1)) ≤ m := by omega
      have q4 : ∀ x : ByteArray, (L1 ++ [x]).length + L2.length + L3.length ≤ i + 1 + k := fun x => by rw [List.length_append, List.length_singleton]; omega
      have q5 : ∀ x : ByteArray, L1.length + (L2 ++ [x]).length + L3.length ≤ i + (k + 1) := fun x => by rw [List.length_append, List.length_singleton]; omega
      have q6 : ∀ x : ByteArray, L1.length + L2.length + (L3 ++ [x]).length ≤ i + 1 + (k + 1) := fun x => by rw [List.length_append, List.length_singleton]; omega
      have r1 := rdOf_at l1 i hi
      have r2 := rdOf_at l2 k hk
      have w1 := wrap_one i (by omega)
      have w2 := wrap_one k (by omega)
      obtain ⟨x, hx⟩ : ∃ x, l1[i] = x := ⟨_, rfl⟩
      obtain ⟨y, hy⟩ : ∃ y, l2[k] = y := ⟨_, rfl⟩
      have e1 : l1.drop i = x :: l1.drop (i + 1) := by rw [List.drop_eq_getElem_cons hi, hx]
      have e2 : l2.drop k = y :: l2.drop (k + 1) := by rw [List.drop_eq_getElem_cons hk, hy]
      replace r1 := r1.trans hx
      replace r2 := r2.trans hy
      have c1 : (i : Int) < (l1.length : Int) := nat_lt hi
      have c2 : (k : Int) < (l2.length : Int) := nat_lt hk
      cases hb1 : Op.bytesLess x.toList y.toList with
      | true =>
        have h := ih (i + 1) k (L1 ++ [x]) L2 L3 q1 hi h3 (q4 x)
        have e : (L1 ++ (comm (l1.drop i) (l2.drop k)).1, L2 ++ (comm (l1.drop i) (l2.drop k)).2.1, L3 ++ (comm (l1.drop i) (l2.drop k)).2.2) = (L1 ++ [x] ++ (comm (l1.drop (i + 1)) (l2.drop k)).1, L2 ++ (comm (l1.drop (i + 1)) (l2.drop k)).2.1, L3 ++ (comm (l1.drop (i + 1)) (l2.drop k)).2.2) := by
          rw [e1, e2, comm_cons, if_pos hb1, List.append_assoc]; rfl
        rw [e]
        refine Ev.step2 h fun f hf => ?_
        simp only [toolchestref06_Comm.l0]
        rw [if_pos c1, decide_eq_true c2]
        simp only [toolchestref06_Comm.j1]
        rw [if_pos trivial, if_pos (nat_nn i), if_pos c1, if_pos (nat_nn k), if_pos c2, r1, r2, if_pos hb1, if_pos c3, w1]
        exact hf
      | false =>
        cases hb2 : Op.bytesLess y.toList x.toList with
        | true =>
          have h := ih i (k + 1) L1 (L2 ++ [y]) L3 q2 h2 hk (q5 y)
          have e : (L1 ++ (comm (l1.drop i) (l2.drop k)).1, L2 ++ (comm (l1.drop i) (l2.drop k)).2.1, L3 ++ (comm (l1.drop i) (l2.drop k)).2.2) = (L1 ++ (comm (l1.drop i) (l2.drop (k + 1))).1, L2 ++ [y] ++ (comm (l1.drop i) (l2.drop (k + 1))).2.1, L3 ++ (comm (l1.drop i) (l2.drop (k + 1))).2.2) := by
            rw [e1, e2, comm_cons, if_neg (by rw [hb1]; decide), if_pos hb2, List.append_assoc]; rfl
          rw [e]
          refine Ev.step2 h fun f hf => ?_
          simp only [toolchestref06_Comm.l0]
          rw [if_pos c1, decide_eq_true c2]
          simp only [toolchestref06_Comm.j1]
          rw [if_pos trivial, if_pos (nat_nn i), if_pos c1, if_pos (nat_nn k), if_pos c2, r1, r2, if_neg (by rw [hb1]; decide), if_pos hb2, if_pos c4, w2]
          exact hf
        | false =>
          have h := ih (i + 1) (k + 1) L1 L2 (L3 ++ [x]) q3 hi hk (q6 x)
          have e : (L1 ++ (comm (l1.drop i) (l2.drop k)).1, L2 ++ (comm (l1.drop i) (l2.drop k)).2.1, L3 ++ (comm (l1.drop i) (l2.drop k)).2.2) = (L1 ++ (comm (l1.drop (i + 1)) (l2.drop (k + 1))).1, L2 ++ (comm (l1.drop (i + 1)) (l2.drop (k + 1))).2.1, L3 ++ [x] ++ (comm (l1.drop (i + 1)) (l2.drop (k + 1))).2.2) := by
            rw [e1, e2, comm_cons, if_neg (by rw [hb1]; decide), if_neg (by rw [hb2]; decide), List.append_assoc]; rfl
          rw [e]
          refine Ev.step2 h fun f hf => ?_
          simp only [toolchestref06_Comm.l0]
          rw [if_pos c1, decide_eq_true c2]
          simp only [toolchestref06_Comm.j1]
          rw [if_pos trivial, if_pos (nat_nn i), if_pos c1, if_pos (nat_nn k), if_pos c2, r1, r2, if_neg (by rw [hb1]; decide), if_neg (by rw [hb2]; decide), if_pos c5, w1, w2]
          exact hf
    · have c2 : L1.length + (l1.drop i).length < 8796093022208 := by rw [List.length_drop]; omega
      have c3 : L2.length + (l2.drop k).length < 8796093022208 := by rw [List.length_drop]; omega
      have e : (L1 ++ (comm (l1.drop i) (l2.drop k)).1, L2 ++ (comm (l1.drop i) (l2.drop k)).2.1, L3 ++ (comm (l1.drop i) (l2.drop k)).2.2) = (L1 ++ l1.drop i, L2 ++ l2.drop k, L3) := by
        rcases (show l1.length ≤ i ∨ l2.length ≤ k by omega) with h | h
        · rw [List.drop_eq_nil_of_le h, comm_nil1]; simp
        · rw [List.drop_eq_nil_of_le h, comm_nil2]; simp
      rw [e]
      refine ⟨2, fun f hf => ?_⟩
      obtain ⟨j, rfl⟩ : ∃ j, f = j + 2 := ⟨f - 2, by omega⟩
      have key : toolchestref06_Comm.j1 (j + 1) l1 l2 L1 L2 L3 (i : Int) (k : Int) false = some (L1 ++ l1.drop i, L2 ++ l2.drop k, L3) := by
        simp only [toolchestref06_Comm.j1]
        rw [if_neg (by decide), if_pos (nat_nn _), if_pos (nat_le h2), Int.toNat_natCast, if_pos c2, if_pos (nat_nn _), if_pos (nat_le h3), Int.toNat_natCast, if_pos c3]
      show toolchestref06_Comm.l0 (j + 1 + 1) l1 l2 L1 L2 L3 (i : Int) (k : Int) = _
      rw [toolchestref06_Comm.l0]
      by_cases hi : i < l1.length
      · rw [if_pos (nat_lt hi), decide_eq_false (by omega)]
        exact key
      · rw [if_neg (by omega)]
        exact key
theorem ref_comm_f (l1 l2 : List ByteArray) (hl : l1.length + l2.length ≤ 4000000) : Ev (fun f => toolchestref06_Comm.f f l1 l2) (comm l1 l2) := by
  have h := comm_l0 l1 l2 hl _ 0 0 [] [] [] (Nat.le_refl _) (Nat.zero_le _) (Nat.zero_le _) (by simp)
  refine h.map fun k hk => ?_
  simp only [toolchestref06_Comm.f]
  exact hk
theorem beyond_two (n m : Int) (h0 : 0 ≤ n) (h1 : n ≤ 4611686018427387) (g0 : 0 ≤ m) (g1 : m ≤ 4611686018427387) : toolchestlaw01_Beyond.f 3 [n, m] = some (decide (n + m > 1048576)) := by
  have w1 : wrap64 n = n := by unfold wrap64; omega
  have w2 : wrap64 1 = 1 := by unfold wrap64; omega
  have w3 : wrap64 (n + m) = n + m := by unfold wrap64; omega
  have w4 : wrap64 2 = 2 := by unfold wrap64; omega
  simp [toolchestlaw01_Beyond.f, toolchestlaw01_Beyond.l0, rd, w1, w2, w3, w4]
  by_cases h : 1048576 < n
  · simp [h]; omega
  · simp [h]
    by_cases h2 : 1048576 < n + m <;> simp [h2]
theorem comm_len : ∀ (f : Nat) (a b : List ByteArray), (commP f a b).1.length ≤ a.length ∧ (commP f a b).2.1.length ≤ b.length ∧ (commP f a b).2.2.length ≤ a.length
  | 0, a, b => by simp [commP]
  | f + 1, [], b => by simp [commP]
  | f + 1, x :: a, [] => by simp [commP]
  | f + 1, x :: a, y :: b => by
    simp only [commP]
    obtain ⟨p1, p2, p3⟩ := comm_len f a (y :: b)
    obtain ⟨q1, q2, q3⟩ := comm_len f (x :: a) b
    obtain ⟨r1, r2, r3⟩ := comm_len f a b
    simp only [List.length_cons] at p1 p2 p3 q1 q2 q3 ⊢
    split
    · simp only [List.length_cons]; omega
    · split
      · simp only [List.length_cons]; omega
      · simp only [List.length_cons]; omega
set_option maxHeartbeats 4000000 in
set_option maxRecDepth 100000 in
theorem SortsComms_walk (A0 : Option Addr) (z0 : Nat) (l0 : List ByteArray) (A1 : Option Addr) (z1 : Nat) (l1 : List ByteArray) (W : World) (hr0 : Kd.C Kd.string W A0 l0.length l0) (hc0 : l0.length ≤ z0) (ok0 : (∀ a ∈ l0, a.size ≤ 140737488351232) ∧ l0.length * 16 ≤ 140737488351232) (hr1 : Kd.C Kd.string W A1 l1.length l1) (hc1 : l1.length ≤ z1) (ok1 : (∀ a ∈ l1, a.size ≤ 140737488351232) ∧ l1.length * 16 ≤ 140737488351232) :
    Calls Tryd.prog 4 #[.slice A0 l0.length z0, .slice A1 l1.length z1] W fun e W' => e = .returned (.bool true) ∧ Below W.heap.size W W' := by
  obtain ⟨n, hn, hn0, hn1, hn2⟩ := textsSize_tells l0 ok0.1 (by omega)
  obtain ⟨m, hm, hm0, hm1, hm2⟩ := textsSize_tells l1 ok1.1 (by omega)
  have hkb := beyond_two n m hn0 (by omega) hm0 (by omega)
  have HN := Lib.hid hn
  have HM := Lib.hid hm
  have HR := Lib.hid hr0
  have HR1 := Lib.hid hr1
  have hll := ok0.2
  have hll1 := ok1.2
  clear hn hm hr0 hr1 ok0 ok1
  by_cases hbig : n + m > 1048576
  · rw [decide_eq_true hbig] at hkb
    have KB := Lib.hid hkb
    clear hkb hbig hn2 hm2
    go_enter Tryd.func4, Tryd.ntmps4
    go_wp2_with (go_at_call 6; refine (toolchestlaw01_TextsSize.calls (l0.length + 1) A0 z0 l0 n _ HR.out hc0 HN.out).mono ?_)
    first | (rintro e w0 rfl hb0) | (rintro e w0 ⟨rfl, hb0⟩)
    have B0 := Lib.hid hb0.below
    clear hb0
    go_wp2_with (go_at_call 6; refine (toolchestlaw01_TextsSize.calls (l1.length + 1) A1 z1 l1 m _ (Kd.C_below HR1.out B0.out) hc1 HM.out).mono ?_)
    first | (rintro e w0' rfl hb0) | (rintro e w0' ⟨rfl, hb0⟩)
    have B0' := Lib.hid (bth B0.out hb0.below)
    clear hb0
    go_wp2_with (go_at_call 5; refine (toolchestlaw01_Beyond.calls 3 (some ⟨w0'.heap.size, 0, none⟩) 2 [n, m] true _ (C_ints w0' .i64 3 [n, m] (by simp)) (Nat.le_refl _) KB.out).mono ?_)
    first | (rintro e w1 rfl hb1) | (rintro e w1 ⟨rfl, hb1⟩)
    go_wp2
    go_ret
    exact ⟨rfl, bth (bal B0'.out _) hb1.below⟩
  · rw [decide_eq_false hbig] at hkb
    have hN := hn2 (by omega)
    have hM := hm2 (by omega)
    have hlen : l0.length + l1.length ≤ 1048576 := by
      have h1 : n = (textsN l0 : Int) := hN
      have h2 : m = (textsN l1 : Int) := hM
      unfold textsN at h1 h2
      omega
    obtain ⟨kf, hkf⟩ := (ref_comm_f l0 l1 (by omega)).at_
    obtain ⟨b1, b2, b3⟩ := comm_len (l0.length + l1.length) l0 l1
    have hcc := fun (g1 g2 c1 c2 : Nat) (w : World) h1 h2 h3 h4 h5 h6 => comm_calls g1 g2 c1 c2 l0 l1 w h1 h2 h3 h4 (by omega) h5 h6
    obtain ⟨⟨R1, R2, R3⟩, hRE⟩ : ∃ R, comm l0 l1 = R := ⟨_, rfl⟩
    have hRE2 : commP (l0.length + l1.length) l0 l1 = (R1, R2, R3) := hRE
    rw [hRE2] at b1 b2 b3
    rw [hRE] at hkf hcc
    have n1 : R1.length ≤ 1048576 := by have : R1.length ≤ l0.length := b1; omega
    have n2 : R2.length ≤ 1048576 := by have : R2.length ≤ l1.length := b2; omega
    have n3 : R3.length ≤ 1048576 := by have : R3.length ≤ l0.length := b3; omega
    obtain ⟨k1, hk1⟩ := (same_self R1 (by omega)).at_
    obtain ⟨k2, hk2⟩ := (same_self R2 (by omega)).at_
    obtain ⟨k3, hk3⟩ := (same_self R3 (by omega)).at_
    have KB := Lib.hid hkb
    have CC := Lib.hid hcc
    have KF := Lib.hid hkf
    have K1 := Lib.hid hk1
    have K2 := Lib.hid hk2
    have K3 := Lib.hid hk3
    clear hkb hbig hkf hcc hk1 hk2 hk3 hRE hRE2 hN hM hn2 hm2 b1 b2 b3
    go_enter Tryd.func4, Tryd.ntmps4
    go_wp2_with (go_at_call 6; refine (toolchestlaw01_TextsSize.calls (l0.length + 1) A0 z0 l0 n _ HR.out hc0 HN.out).mono ?_)
    first | (rintro e w0 rfl hb0) | (rintro e w0 ⟨rfl, hb0⟩)
    have B0 := Lib.hid hb0.below
    clear hb0
    go_wp2_with (go_at_call 6; refine (toolchestlaw01_TextsSize.calls (l1.length + 1) A1 z1 l1 m _ (Kd.C_below HR1.out B0.out) hc1 HM.out).mono ?_)
    first | (rintro e w0' rfl hb0) | (rintro e w0' ⟨rfl, hb0⟩)
    have B0' := Lib.hid (bth B0.out hb0.below)
    clear hb0
    go_wp2_with (go_at_call 5; refine (toolchestlaw01_Beyond.calls 3 (some ⟨w0'.heap.size, 0, none⟩) 2 [n, m] false _ (C_ints w0' .i64 3 [n, m] (by simp)) (Nat.le_refl _) KB.out).mono ?_)
    first | (rintro e w1 rfl hb1) | (rintro e w1 ⟨rfl, hb1⟩)
    have B1 := Lib.hid (bth (bal B0'.out _) hb1.below)
    clear hb1
    go_wp2_with (go_at_call 7; refine (twinTexts A0 z0 l0 _ (Kd.C_below HR.out B1.out) hc0 (by omega)).mono ?_)
    rintro e w2 ⟨g, cap, rfl, ho2, hb2⟩
    have O2 := Lib.hid ho2
    have B2 := Lib.hid (bth B1.out hb2)
    have S2 := Lib.hid hb2
    have CT := Lib.hid (show Kd.C Kd.string w2 (some ⟨g, 0, none⟩) l0.length l0 by have := C_of_own ho2 l0.length (by simp); simpa using this)
    have hcap := twin_cap ho2
    have hcapA : l0.length ≤ cap := by omega
    have hcapB := hcap.2
    clear ho2 hb2 hcap
    go_wp2_with (go_at_call 7; refine (twinTexts A1 z1 l1 _ (Kd.C_below HR1.out B2.out) hc1 (by omega)).mono ?_)
    rintro e w3 ⟨g', cap', rfl, ho3, hb3⟩
    have O3 := Lib.hid ho3
    have B3 := Lib.hid (bth B2.out hb3)
    have S3 := Lib.hid hb3
    have CT' := Lib.hid (show Kd.C Kd.string w3 (some ⟨g', 0, none⟩) l1.length l1 by have := C_of_own ho3 l1.length (by simp); simpa using this)
    have hcap := twin_cap ho3
    have hcapA' : l1.length ≤ cap' := by omega
    have hcapB' := hcap.2
    clear ho3 hb3 hcap
    go_wp2_with (go_at_call 11; refine (CC.out _ _ _ _ _ (Kd.C_below CT.out S3.out) CT'.out hcapA hcapA' hcapB hcapB').mono ?_)
    rintro e w4 ⟨x1, x2, x3, rfl, ho41, ho42, ho43, m12, m13, m23, hb4⟩
    have ho41' : w4.ownsRow w3.heap.size 9 1 x1 R1.length (strs R1) := ho41
    have ho42' : w4.ownsRow w3.heap.size 9 1 x2 R2.length (strs R2) := ho42
    have ho43' : w4.ownsRow w3.heap.size 9 1 x3 R3.length (strs R3) := ho43
    obtain ⟨U1, u1, rfl, hu1, hq1⟩ := reads_own' ho41'
    obtain ⟨U2, u2, rfl, hu2, hq2⟩ := reads_own' ho42'
    obtain ⟨U3, u3, rfl, hu3, hq3⟩ := reads_own' ho43'
    have O4 := Lib.hid (And.intro ho41' (And.intro ho42' ho43'))
    have NE := Lib.hid (And.intro m12 (And.intro m13 m23))
    have B4 := Lib.hid (bth B3.out hb4)
    have S4 := Lib.hid hb4
    have Q4 := Lib.hid (And.intro hq1 (And.intro hq2 hq3))
    clear hb4 ho41 ho42 ho43 ho41' ho42' ho43' m12 m13 m23 hq1 hq2 hq3
    go_wp2_with (go_at_call 12; refine (toolchestref06_Comm.calls kf A0 z0 l0 A1 z1 l1 R1 R2 R3 _ (Kd.C_below HR.out B4.out) hc0 (Kd.C_below HR1.out B4.out) hc1 KF.out).mono ?_)
    rintro e w5 ⟨y1, y2, y3, rfl, hy1, hy2, hy3, hb5⟩
    obtain ⟨V1, v1, rfl, hv1, hp1⟩ := own_R' hy1
    obtain ⟨V2, v2, rfl, hv2, hp2⟩ := own_R' hy2
    obtain ⟨V3, v3, rfl, hv3, hp3⟩ := own_R' hy3
    have B5 := Lib.hid (bth B4.out hb5)
    have S5 := Lib.hid hb5
    have P5 := Lib.hid (And.intro hp1 (And.intro hp2 hp3))
    clear hb5 hy1 hy2 hy3 hp1 hp2 hp3
    have c41 := Lib.hid (Kd.C_below Q4.out.1 S5.out)
    have c42 := Lib.hid (Kd.C_below Q4.out.2.1 S5.out)
    have c43 := Lib.hid (Kd.C_below Q4.out.2.2 S5.out)
    have c51 := Lib.hid P5.out.1
    have c52 := Lib.hid P5.out.2.1
    have c53 := Lib.hid P5.out.2.2
    clear Q4 P5
    go_wp2_with (first | (go_at_call 13; with_reducible refine (toolchestlaw01_SameTexts.calls k1 U1 u1 R1 V1 v1 R1 true _ c41.out hu1 c51.out hv1 K1.out).mono ?_))
    first | (rintro e w6 rfl hb6) | (rintro e w6 ⟨rfl, hb6⟩)
    have S6 := Lib.hid hb6.below
    clear hb6 c41 c51
    have d42 := Lib.hid (Kd.C_below c42.out S6.out)
    have d52 := Lib.hid (Kd.C_below c52.out S6.out)
    go_wp2_with (first | (go_at_call 13; with_reducible refine (toolchestlaw01_SameTexts.calls k2 U2 u2 R2 V2 v2 R2 true _ d42.out hu2 d52.out hv2 K2.out).mono ?_))
    first | (rintro e w7 rfl hb7) | (rintro e w7 ⟨rfl, hb7⟩)
    have S7 := Lib.hid (bth S6.out hb7.below)
    clear hb7 d42 d52 c42 c52
    have d43 := Lib.hid (Kd.C_below c43.out S7.out)
    have d53 := Lib.hid (Kd.C_below c53.out S7.out)
    go_wp2_with (first | (go_at_call 13; with_reducible refine (toolchestlaw01_SameTexts.calls k3 U3 u3 R3 V3 v3 R3 true _ d43.out hu3 d53.out hv3 K3.out).mono ?_))
    first | (rintro e w8 rfl hb8) | (rintro e w8 ⟨rfl, hb8⟩)
    have S8 := Lib.hid (bth S7.out hb8.below)
    have B8 := Lib.hid (bth B5.out S8.out)
    clear hb8 d43 d53 c43 c53 S6 S7
    have T2 := Lib.hid (bth (bth (bth S3.out S4.out) S5.out) S8.out)
    have T3 := Lib.hid (bth (bth S4.out S5.out) S8.out)
    have T4 := Lib.hid (bth S5.out S8.out)
    go_wp2_with (go_at_call 10; refine (leftTexts g cap _ A0 z0 l0 _ (Kd.C_below HR.out B8.out) hc0 (pw_own_below O2.out T2.out)).mono ?_)
    first | (rintro e w9 rfl hb9) | (rintro e w9 ⟨rfl, hb9⟩)
    have S9 := Lib.hid hb9
    have B9 := Lib.hid (bth B8.out hb9)
    clear hb9
    go_wp2_with (go_at_call 10; refine (leftTexts g' cap' _ A1 z1 l1 _ (Kd.C_below HR1.out B9.out) hc1 (pw_own_below O3.out (bth T3.out S9.out))).mono ?_)
    first | (rintro e wa rfl hba) | (rintro e wa ⟨rfl, hba⟩)
    have Sa := Lib.hid (bth S9.out hba)
    have Ba := Lib.hid (bth B9.out hba)
    clear hba
    go_wp2_with (go_at_call 14; refine (texts_calls wa.heap.size _ 0 _ (some ⟨g, 0, none⟩) l0.length cap _ (book_new wa) (by decide) (by simp)).mono ?_)
    rintro e y1 ⟨rfl, ⟨t1, hk1⟩, hx1⟩
    have HK1 := Lib.hid hk1
    have X1 := Lib.hid (below_al hx1)
    clear hk1 hx1
    go_wp2_with (go_at_call 14; refine (texts_calls wa.heap.size _ 1 _ (some ⟨g', 0, none⟩) l1.length cap' _ HK1.out (by decide) (by simp)).mono ?_)
    rintro e y2 ⟨rfl, ⟨t2, hk2⟩, hx2⟩
    have HK2 := Lib.hid hk2
    have X2 := Lib.hid (X1.out.trans hx2)
    clear hk2 hx2
    go_wp2_with (go_at_call 14; refine (texts_calls wa.heap.size _ 2 _ U1 R1.length u1 _ HK2.out (by decide) (by simp)).mono ?_)
    rintro e y3 ⟨rfl, ⟨t3, hk3⟩, hx3⟩
    have HK3 := Lib.hid hk3
    have X3 := Lib.hid (X2.out.trans hx3)
    clear hk3 hx3
    go_wp2_with (go_at_call 14; refine (texts_calls wa.heap.size _ 3 _ U2 R2.length u2 _ HK3.out (by decide) (by simp)).mono ?_)
    rintro e y4 ⟨rfl, ⟨t4, hk4⟩, hx4⟩
    have HK4 := Lib.hid hk4
    have X4 := Lib.hid (X3.out.trans hx4)
    clear hk4 hx4
    go_wp2_with (go_at_call 14; refine (texts_calls wa.heap.size _ 4 _ U3 R3.length u3 _ HK4.out (by decide) (by simp)).mono ?_)
    rintro e y5 ⟨rfl, ⟨t5, hk5⟩, hx5⟩
    have HK5 := Lib.hid hk5
    have X5 := Lib.hid (X4.out.trans hx5)
    clear hk5 hx5
    have OT := Lib.hid (own_twin O2.out)
    have OT' := Lib.hid (own_twin O3.out)
    have hrdy := Lib.hid (ready_by (B0 := W.heap.size) (w := y5) (fun i => [l0, l1, R1, R2, R3].getD i []) HK5.out (by simp) (by have := Ba.out.size; omega)
      (by
        have f1 : ∀ {base n : Nat} {v : Value} {xs : List Value} {w' : World}, w'.ownsRow base 9 1 v n xs → W.heap.size ≤ base → Below w'.heap.size w' wa → y5.ownsRow W.heap.size 9 1 v n xs := fun {base n v xs w'} h hb hl => own_weaken (pw_own_below (pw_own_below h hl) X5.out) hb
        have f2 : ∀ {base n : Nat} {v : Value} {xs : List Value} {w' : World}, w'.ownsRow base 9 1 v n xs → Below w'.heap.size w' wa → ∀ b, v.ownBlock = some b → b < wa.heap.size := fun {base n v xs w'} h hl b hb => by
          have h1 := own_lt h b hb
          have h2 := hl.size
          omega
        have z1 := B1.out.size
        have z2 := S2.out.size
        have z3 := S3.out.size
        have L2 : Below w2.heap.size w2 wa := bth T2.out Sa.out
        have L3 : Below w3.heap.size w3 wa := bth T3.out Sa.out
        have L4 : Below w4.heap.size w4 wa := bth T4.out Sa.out
        intro i hi
        have hi5 : i < 5 := hi
        rcases (show i = 0 ∨ i = 1 ∨ i = 2 ∨ i = 3 ∨ i = 4 by omega) with rfl | rfl | rfl | rfl | rfl
        · exact ⟨f1 OT.out (by omega) L2, f2 OT.out L2, (by show (1 : Nat) < 100; omega), rfl, (by show l0.length ≤ _; omega)⟩
        · exact ⟨f1 OT'.out (by omega) L3, f2 OT'.out L3, (by show (2 : Nat) < 100; omega), rfl, (by show l1.length ≤ _; omega)⟩
        · exact ⟨f1 O4.out.1 (by omega) L4, f2 O4.out.1 L4, (by show (3 : Nat) < 100; omega), rfl, (by show R1.length ≤ _; omega)⟩
        · exact ⟨f1 O4.out.2.1 (by omega) L4, f2 O4.out.2.1 L4, (by show (4 : Nat) < 100; omega), rfl, (by show R2.length ≤ _; omega)⟩
        · exact ⟨f1 O4.out.2.2 (by omega) L4, f2 O4.out.2.2 L4, (by show (5 : Nat) < 100; omega), rfl, (by show R3.length ≤ _; omega)⟩)
      (by
        have OTb := pw_own_below OT.out S3.out
        have a01 := ne_symm (ne_below OT'.out OT.out)
        have a02 := ne_symm (ne_below O4.out.1 OTb)
        have a03 := ne_symm (ne_below O4.out.2.1 OTb)
        have a04 := ne_symm (ne_below O4.out.2.2 OTb)
        have a12 := ne_symm (ne_below O4.out.1 OT'.out)
        have a13 := ne_symm (ne_below O4.out.2.1 OT'.out)
        have a14 := ne_symm (ne_below O4.out.2.2 OT'.out)
        intro i j hij hj
        have hj5 : j < 5 := hj
        rcases (show (i = 0 ∧ j = 1) ∨ (i = 0 ∧ j = 2) ∨ (i = 0 ∧ j = 3) ∨ (i = 0 ∧ j = 4) ∨ (i = 1 ∧ j = 2) ∨ (i = 1 ∧ j = 3) ∨ (i = 1 ∧ j = 4) ∨ (i = 2 ∧ j = 3) ∨ (i = 2 ∧ j = 4) ∨ (i = 3 ∧ j = 4) by omega) with ⟨rfl, rfl⟩ | ⟨rfl, rfl⟩ | ⟨rfl, rfl⟩ | ⟨rfl, rfl⟩ | ⟨rfl, rfl⟩ | ⟨rfl, rfl⟩ | ⟨rfl, rfl⟩ | ⟨rfl, rfl⟩ | ⟨rfl, rfl⟩ | ⟨rfl, rfl⟩
        · exact a01
        · exact a02
        · exact a03
        · exact a04
        · exact a12
        · exact a13
        · exact a14
        · exact NE.out.1
        · exact NE.out.2.1
        · exact NE.out.2.2))
    go_wp2_with (go_at_call 15; refine (apart_calls W.heap.size wa.heap.size 5 _ _ _ _ hrdy.out).mono ?_)
    rintro e wz ⟨rfl, hbz⟩
    go_wp2
    go_ret
    exact ⟨rfl, (bth Ba.out X5.out).trans hbz⟩
end Go.Proofs.YtiibaggpaabfcaaDoor.P

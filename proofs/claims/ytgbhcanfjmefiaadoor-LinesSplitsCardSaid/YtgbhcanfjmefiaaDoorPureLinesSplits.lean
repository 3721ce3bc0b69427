/- LinesSplits: the walk of the law. -/
import Derived.Test.YtgbhcanfjmefiaaDoorSplitsPlain
import Derived.Test.YtgbhcanfjmefiaaDoorGiven
import Derived.Test.YtgbhcanfjmefiaaDoorBook6
set_option linter.unusedVariables false
set_option linter.unusedSimpArgs false
namespace Go.Proofs.YtgbhcanfjmefiaaDoor.P
open Go.RowKit Go.Proofs.YtgbhcanfjmefiaaDoor.Q Go.Proofs.YtgbhcanfjmefiaaDoor.H Go.Proofs.YtgbhcanfjmefiaaDoorW.PrintWords Go.Proofs.YtgbhcanfjmefiaaDoorW.PrintLast Go.Proofs.YtgbhcanfjmefiaaDoor.S

theorem reads_own {W : World} {base n : Nat} {v : Value} {l : List ByteArray} (h : W.ownsRow base 9 1 v n (strs l)) : ∃ A c, v = .slice A l.length c ∧ l.length ≤ c ∧ Kd.C Kd.string W A l.length l := Kd.R_reads (R_of_own h)
theorem own_R {W : World} {base : Nat} {ok : Nat → Prop} {v : Value} {l : List ByteArray} (h : Kd.R Kd.string 9 W base ok v l) : ∃ A c, v = .slice A l.length c ∧ l.length ≤ c ∧ Kd.C Kd.string W A l.length l := Kd.R_reads h
theorem fields_calls (s : ByteArray) (c : Int) (hs : s.size ≤ 8796093022000) (w : World) :
    Calls Tryd.prog 6 #[.string s, .int .u8 c] w fun e W' => ∃ v, e = .returned v ∧ W'.ownsRow w.heap.size 9 1 v (fieldsOf s c).length (strs (fieldsOf s c)) ∧ Below w.heap.size w W' :=
  callsIn_wide.1 (fields_in Fence.wide 10 trivial trivial trivial trivial trivial trivial trivial rfl (by omega) s c hs w)
theorem partsOf_len (p : UInt8 → Bool) (s : ByteArray) : (partsOf p s).length ≤ s.size + 1 := by
  have := partsTo_len p s s.size
  unfold partsOf
  rw [List.length_append, List.length_cons, List.length_nil]
  omega
theorem fieldsOf_len (s : ByteArray) (c : Int) : (fieldsOf s c).length ≤ s.size + 1 := by
  unfold fieldsOf
  split
  · exact Nat.le_trans (List.length_filter_le _ _) (partsOf_len _ s)
  · exact partsOf_len _ s
theorem splitOf_len (s : ByteArray) : (splitOf s).1.length ≤ s.size + 1 := by
  unfold splitOf
  split
  · simp
  · have h1 := partsOf_len isNl (bareOf s)
    have h2 := bareOf_le s
    show (partsOf isNl (bareOf s)).length ≤ _
    omega
theorem below_al {w w' : World} {o : Obj} (h : Below w.heap.size (w.alloc o) w') : Below w.heap.size w w' := ((Below.refl _ w).alloc (Nat.le_refl _) o).trans h
set_option maxHeartbeats 4000000 in
set_option maxRecDepth 100000 in
theorem LinesSplits_walk (a0 : ByteArray) (a1 : Int) (W : World) (ok0 : a0.size ≤ 140737488351232) (ok1 : (Lit.int .u8 a1).wf = true) :
    Calls Tryd.prog 3 #[.string a0, .int .u8 a1] W fun e W' => e = .returned (.bool true) ∧ Below W.heap.size W W' := by
  obtain ⟨kb, hkb⟩ := (beyond_one a0.size (by omega)).at_
  have KB := Lib.hid hkb
  clear hkb
  have hs63 : a0.size ≤ 9223372036854775807 := by omega
  by_cases hbig : a0.size > 1048576
  · rw [decide_eq_true hbig] at KB
    go_enter Tryd.func3, Tryd.ntmps3
    go_wp2_with (go_at_call 4; refine (toolchestlaw01_Beyond.calls kb (some ⟨W.heap.size, 0, none⟩) 1 [(a0.size : Int)] true _ (C_ints W .i64 3 [(a0.size : Int)] (by simp)) (Nat.le_refl _) KB.out).mono ?_)
    rintro e w2 ⟨rfl, hb2⟩
    go_wp2
    go_ret
    exact ⟨rfl, bth (bal (Below.refl _ _) _) hb2.below⟩
  · rw [decide_eq_false hbig] at KB
    have hs : a0.size ≤ 8796093022000 := by omega
    obtain ⟨ks, hks⟩ := (ref_split a0 hs).at_
    obtain ⟨kf, hkf⟩ := (ref_fields a0 a1 hs).at_
    obtain ⟨k1, hk1⟩ := (same_self (splitOf a0).1 (by have := splitOf_len a0; omega)).at_
    obtain ⟨k2, hk2⟩ := (same_self (fieldsOf a0 a1) (by have := fieldsOf_len a0 a1; omega)).at_
    have KS := Lib.hid hks
    have KF := Lib.hid hkf
    have K1 := Lib.hid hk1
    have K2 := Lib.hid hk2
    have L1 := Lib.hid (splitOf_len a0)
    have L2 := Lib.hid (fieldsOf_len a0 a1)
    have HS := Lib.hid hbig
    clear hks hkf hk1 hk2 hbig ok0 ok1
    go_enter Tryd.func3, Tryd.ntmps3
    go_wp2_with (go_at_call 4; refine (toolchestlaw01_Beyond.calls kb (some ⟨W.heap.size, 0, none⟩) 1 [(a0.size : Int)] false _ (C_ints W .i64 3 [(a0.size : Int)] (by simp)) (Nat.le_refl _) KB.out).mono ?_)
    rintro e w0 ⟨rfl, hb0⟩
    have B0 := Lib.hid (bth (bal (Below.refl _ _) _) hb0.below)
    clear hb0
    go_wp2_with (go_at_call 5; refine (split_calls a0 hs _).mono ?_)
    rintro e w1 ⟨v1, rfl, ho1, hb1⟩
    obtain ⟨A1, c1, rfl, hc1, hr1⟩ := reads_own ho1
    have O1 := Lib.hid ho1
    have B1 := Lib.hid (bth B0.out hb1)
    have S1 := Lib.hid hb1
    clear hb1 ho1 hr1
    go_wp2_with (go_at_call 5; refine (split_calls a0 hs _).mono ?_)
    rintro e w2 ⟨v2, rfl, ho2, hb2⟩
    obtain ⟨A2, c2, rfl, hc2, hr2⟩ := reads_own ho2
    have O2 := Lib.hid ho2
    have B2 := Lib.hid (bth B1.out hb2)
    have S2 := Lib.hid hb2
    clear hb2 ho2 hr2
    go_wp2_with (go_at_call 6; refine (fields_calls a0 a1 hs _).mono ?_)
    rintro e w3 ⟨v3, rfl, ho3, hb3⟩
    obtain ⟨A3, c3, rfl, hc3, hr3⟩ := reads_own ho3
    have O3 := Lib.hid ho3
    have B3 := Lib.hid (bth B2.out hb3)
    have S3 := Lib.hid hb3
    clear hb3 ho3 hr3
    go_wp2_with (go_at_call 6; refine (fields_calls a0 a1 hs _).mono ?_)
    rintro e w4 ⟨v4, rfl, ho4, hb4⟩
    obtain ⟨A4, c4, rfl, hc4, hr4⟩ := reads_own ho4
    have O4 := Lib.hid ho4
    have B4 := Lib.hid (bth B3.out hb4)
    have S4 := Lib.hid hb4
    clear hb4 ho4 hr4
    go_wp2_with (go_at_call 7; refine (toolchestref02_Split.calls ks a0 (splitOf a0).1 (splitOf a0).2 _ KS.out).mono ?_)
    rintro e w5 ⟨v5, rfl, ho5, hb5⟩
    obtain ⟨A5, c5, rfl, hc5, hr5⟩ := own_R ho5
    have R5 := Lib.hid hr5
    have B5 := Lib.hid (bth B4.out hb5)
    have S5 := Lib.hid hb5
    clear hb5 ho5 hr5
    go_wp2_with (go_at_call 8; refine (toolchestref02_Fields.calls kf a0 a1 (fieldsOf a0 a1) _ KF.out).mono ?_)
    rintro e w6 ⟨v6, rfl, ho6, hb6⟩
    obtain ⟨A6, c6, rfl, hc6, hr6⟩ := own_R ho6
    have R6 := Lib.hid hr6
    have B6 := Lib.hid (bth B5.out hb6)
    have S6 := Lib.hid hb6
    clear hb6 ho6 hr6
    have T1 : Hid (Below w1.heap.size w1 w6) := Lib.hid (bth (bth (bth (bth S2.out S3.out) S4.out) S5.out) S6.out)
    have T2 : Hid (Below w2.heap.size w2 w6) := Lib.hid (bth (bth (bth S3.out S4.out) S5.out) S6.out)
    have T3 : Hid (Below w3.heap.size w3 w6) := Lib.hid (bth (bth S4.out S5.out) S6.out)
    have T4 : Hid (Below w4.heap.size w4 w6) := Lib.hid (bth S5.out S6.out)
    have q1 : Hid (Kd.C Kd.string w6 A1 (splitOf a0).1.length (splitOf a0).1) := Lib.hid (by
      obtain ⟨A, c, e, _, h⟩ := reads_own (pw_own_below O1.out T1.out); cases e; exact h)
    have q3 : Hid (Kd.C Kd.string w6 A3 (fieldsOf a0 a1).length (fieldsOf a0 a1)) := Lib.hid (by
      obtain ⟨A, c, e, _, h⟩ := reads_own (pw_own_below O3.out T3.out); cases e; exact h)
    have q5 := Lib.hid (Kd.C_below R5.out S6.out)
    go_wp2_with (first | (go_at_call 9; with_reducible refine (toolchestlaw01_SameTexts.calls k1 A1 c1 (splitOf a0).1 A5 c5 (splitOf a0).1 true _ q1.out hc1 q5.out hc5 K1.out).mono ?_))
    rintro e w7 ⟨rfl, hb7⟩
    have S7 := Lib.hid hb7.below
    clear hb7
    have q3' := Lib.hid (Kd.C_below q3.out S7.out)
    have q6' := Lib.hid (Kd.C_below R6.out S7.out)
    go_wp2_with (first | (go_at_call 9; with_reducible refine (toolchestlaw01_SameTexts.calls k2 A3 c3 (fieldsOf a0 a1) A6 c6 (fieldsOf a0 a1) true _ q3'.out hc3 q6'.out hc6 K2.out).mono ?_))
    rintro e w8 ⟨rfl, hb8⟩
    have S8 := Lib.hid (bth S7.out hb8.below)
    clear hb8
    go_wp2_with (go_at_call 10; refine (texts_calls w8.heap.size _ 0 _ A1 (splitOf a0).1.length c1 _ (book_new w8) (by decide) (by simp)).mono ?_)
    rintro e x1 ⟨rfl, ⟨t1, hk1⟩, hx1⟩
    have HK1 := Lib.hid hk1
    have X1 := Lib.hid (below_al hx1)
    clear hk1 hx1
    go_wp2_with (go_at_call 10; refine (texts_calls w8.heap.size _ 1 _ A2 (splitOf a0).1.length c2 _ HK1.out (by decide) (by simp)).mono ?_)
    rintro e x2 ⟨rfl, ⟨t2, hk2⟩, hx2⟩
    have HK2 := Lib.hid hk2
    have X2 := Lib.hid (X1.out.trans hx2)
    clear hk2 hx2
    go_wp2_with (go_at_call 10; refine (texts_calls w8.heap.size _ 2 _ A3 (fieldsOf a0 a1).length c3 _ HK2.out (by decide) (by simp)).mono ?_)
    rintro e x3 ⟨rfl, ⟨t3, hk3⟩, hx3⟩
    have HK3 := Lib.hid hk3
    have X3 := Lib.hid (X2.out.trans hx3)
    clear hk3 hx3
    go_wp2_with (go_at_call 10; refine (texts_calls w8.heap.size _ 3 _ A4 (fieldsOf a0 a1).length c4 _ HK3.out (by decide) (by simp)).mono ?_)
    rintro e x4 ⟨rfl, ⟨t4, hk4⟩, hx4⟩
    have HK4 := Lib.hid hk4
    have X4 := Lib.hid (X3.out.trans hx4)
    clear hk4 hx4
    have hrdy := Lib.hid (ready_of (B0 := W.heap.size) (w := x4) (fun i => [(splitOf a0).1, (splitOf a0).1, fieldsOf a0 a1, fieldsOf a0 a1].getD i []) (fun i => [w0.heap.size, w1.heap.size, w2.heap.size, w3.heap.size].getD i 0) (fun i => [w1.heap.size, w2.heap.size, w3.heap.size, w4.heap.size].getD i 0) HK4.out (by simp) (by have := S8.out.size; have := B6.out.size; omega)
      (by
        have e8 : Hid (Below w6.heap.size w6 w8) := Lib.hid S8.out
        have f1 : ∀ {base n : Nat} {v : Value} {xs : List Value} {w' : World}, w'.ownsRow base 9 1 v n xs → W.heap.size ≤ base → Below w'.heap.size w' w8 → x4.ownsRow W.heap.size 9 1 v n xs := fun {base n v xs w'} h hb hl => own_weaken (pw_own_below (pw_own_below h hl) X4.out) hb
        have z0 := B0.out.size
        have z1 := S1.out.size
        have z2 := S2.out.size
        have z3 := S3.out.size
        have z4 := S4.out.size
        have z5 := S5.out.size
        have z6 := S6.out.size
        have z8 := S8.out.size
        have n1 : (splitOf a0).1.length ≤ 8796093022000 := by have := L1.out; have := HS.out; omega
        have n2 : (fieldsOf a0 a1).length ≤ 8796093022000 := by have := L2.out; have := HS.out; omega
        intro i hi
        have hi4 : i < 4 := hi
        rcases (show i = 0 ∨ i = 1 ∨ i = 2 ∨ i = 3 by omega) with rfl | rfl | rfl | rfl
        · exact ⟨f1 O1.out (by omega) (bth T1.out S8.out), iv_of O1.out, (by show w1.heap.size ≤ w8.heap.size; omega), (by show (1 : Nat) < 100; omega), rfl, n1⟩
        · exact ⟨f1 O2.out (by omega) (bth T2.out S8.out), iv_of O2.out, (by show w2.heap.size ≤ w8.heap.size; omega), (by show (2 : Nat) < 100; omega), rfl, n1⟩
        · exact ⟨f1 O3.out (by omega) (bth T3.out S8.out), iv_of O3.out, (by show w3.heap.size ≤ w8.heap.size; omega), (by show (3 : Nat) < 100; omega), rfl, n2⟩
        · exact ⟨f1 O4.out (by omega) (bth T4.out S8.out), iv_of O4.out, (by show w4.heap.size ≤ w8.heap.size; omega), (by show (4 : Nat) < 100; omega), rfl, n2⟩)
      (by
        have z2 := S2.out.size
        have z3 := S3.out.size
        intro i j hij hj
        have hj4 : j < 4 := hj
        rcases (show (i = 0 ∧ j = 1) ∨ (i = 0 ∧ j = 2) ∨ (i = 0 ∧ j = 3) ∨ (i = 1 ∧ j = 2) ∨ (i = 1 ∧ j = 3) ∨ (i = 2 ∧ j = 3) by omega) with ⟨rfl, rfl⟩ | ⟨rfl, rfl⟩ | ⟨rfl, rfl⟩ | ⟨rfl, rfl⟩ | ⟨rfl, rfl⟩ | ⟨rfl, rfl⟩
        · show w1.heap.size ≤ w1.heap.size; omega
        · show w1.heap.size ≤ w2.heap.size; omega
        · show w1.heap.size ≤ w3.heap.size; omega
        · show w2.heap.size ≤ w2.heap.size; omega
        · show w2.heap.size ≤ w3.heap.size; omega
        · show w3.heap.size ≤ w3.heap.size; omega))
    go_wp2_with (go_at_call 11; refine (apart_calls W.heap.size w8.heap.size 4 _ _ _ _ hrdy.out).mono ?_)
    rintro e w9 ⟨rfl, hb9⟩
    go_wp2
    go_ret
    exact ⟨rfl, (bth (bth B6.out S8.out) X4.out).trans hb9⟩
end Go.Proofs.YtgbhcanfjmefiaaDoor.P

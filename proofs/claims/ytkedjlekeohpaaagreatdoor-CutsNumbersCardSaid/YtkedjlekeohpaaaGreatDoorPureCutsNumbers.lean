/- CutsNumbers: the walk of the law: for all lines and numbers it returns true. -/
import Derived.Test.YtkedjlekeohpaaaGreatDoorRefNumber
import Derived.Test.YtkedjlekeohpaaaGreatDoorSameSelf
import Derived.Test.YtkedjlekeohpaaaGreatDoorSizes1
import Derived.Test.YtkedjlekeohpaaaGreatDoorTwin
import Derived.Test.YtkedjlekeohpaaaGreatDoorBook6
set_option linter.unusedVariables false
set_option linter.unusedSimpArgs false
namespace Go.Proofs.YtkedjlekeohpaaaGreatDoor.P
open Go.RowKit Go.Proofs Go.Proofs.YtkedjlekeohpaaaGreatDoor.Q Go.Proofs.YtkedjlekeohpaaaGreatDoor.H Go.Proofs.YtkedjlekeohpaaaGreatDoor.C Go.Proofs.YtkedjlekeohpaaaGreatDoor.S Go.Proofs.YtkedjlekeohpaaaGreatDoorW.PrintWords Go.Proofs.YtkedjlekeohpaaaGreatDoorW.PrintLast

theorem own_R {W : World} {base : Nat} {ok : Nat → Prop} {v : Value} {l : List ByteArray} (h : Kd.R Kd.string 9 W base ok v l) : ∃ A c, v = .slice A l.length c ∧ l.length ≤ c ∧ Kd.C Kd.string W A l.length l := Kd.R_reads h
theorem below_al {w w' : World} {o : Obj} (h : Below w.heap.size (w.alloc o) w') : Below w.heap.size w w' := ((Below.refl _ w).alloc (Nat.le_refl _) o).trans h
theorem reads_own {W : World} {base n : Nat} {v : Value} {l : List ByteArray} (h : W.ownsRow base 9 1 v n (strs l)) : ∃ A c, v = .slice A l.length c ∧ l.length ≤ c ∧ Kd.C Kd.string W A l.length l := Kd.R_reads (R_of_own h)
theorem clamp_nat (a m : Int) : ∃ F : Nat, clampI a m = (F : Int) := Int.eq_ofNat_of_zero_le (by unfold clampI; omega)
/-- A twin is a row of the call's own that holds the texts. -/
theorem own_twin {W : World} {base g cap : Nat} {l : List ByteArray} {x : ByteArray} (h : W.ownsRow base 9 1 (.slice (some ⟨g, 0, none⟩) (l.length + 1) cap) (l.length + 1) (strs (l ++ [x]))) :
    W.ownsRow base 9 1 (.slice (some ⟨g, 0, none⟩) l.length cap) l.length (strs l) := by
  have := own_take h (Nat.le_succ l.length)
  rw [Nat.mul_one] at this
  have e : (strs (l ++ [x])).take l.length = strs l := by
    unfold strs
    rw [List.map_append, List.take_left' (by simp)]
  rw [e] at this
  exact this
set_option maxHeartbeats 4000000 in
set_option maxRecDepth 100000 in
theorem CutsNumbers_walk (A0 : Option Addr) (z0 : Nat) (l0 : List ByteArray) (a1 : Int) (a2 : Int) (W : World) (hE : Lib.TabIs Tryz.prog W "internal/strconv.uint64pow10" .u64 Lib.pow10Tab) (hr0 : Kd.C Kd.string W A0 l0.length l0) (hc0 : l0.length ≤ z0) (ok0 : (∀ a ∈ l0, a.size ≤ 140737488351232) ∧ l0.length * 16 ≤ 140737488351232) (ok1 : (Lit.int .i64 a1).wf = true) (ok2 : (Lit.int .i64 a2).wf = true) :
    Calls Tryz.prog 3 #[.slice A0 l0.length z0, .int .i64 a1, .int .i64 a2] W fun e W' => e = .returned (.bool true) ∧ Below W.heap.size W W' := by
  obtain ⟨n, hn, hn0, hn1, hn2⟩ := textsSize_tells l0 ok0.1 (by omega)
  obtain ⟨nn, rfl⟩ := Int.eq_ofNat_of_zero_le hn0
  obtain ⟨kb, hkb⟩ := (beyond_one nn (by omega)).at_
  have HE := Lib.hid hE
  have HN := Lib.hid hn
  have HR := Lib.hid hr0
  have OK := Lib.hid ok0
  have hll := ok0.2
  clear hE hn hr0 ok0 ok1 ok2
  by_cases hbig : nn > 1048576
  · rw [decide_eq_true hbig] at hkb
    have KB := Lib.hid hkb
    clear hkb hbig hn2
    go_enter Tryz.func3, Tryz.ntmps3
    go_wp2_with (go_at_call 6; refine (toolchestlaw01_TextsSize.calls (l0.length + 1) A0 z0 l0 (nn : Int) _ HR.out hc0 HN.out).mono ?_)
    rintro e w0 ⟨rfl, hb0⟩
    have B0 := Lib.hid hb0.below
    clear hb0
    go_wp2_with (go_at_call 5; refine (toolchestlaw01_Beyond.calls kb (some ⟨w0.heap.size, 0, none⟩) 1 [(nn : Int)] true _ (C_ints w0 .i64 3 [(nn : Int)] (by simp)) (Nat.le_refl _) KB.out).mono ?_)
    rintro e w1 ⟨rfl, hb1⟩
    go_wp2
    go_ret
    exact ⟨rfl, bth (bal B0.out _) hb1.below⟩
  · rw [decide_eq_false hbig] at hkb
    have hN := hn2 (by omega)
    have hlen : l0.length ≤ 1048576 := by
      have : (nn : Int) = (textsN l0 : Int) := hN
      unfold textsN at this
      omega
    obtain ⟨F, hF⟩ := clamp_nat a1 2147483647
    obtain ⟨Wd, hWd⟩ := clamp_nat a2 32
    obtain ⟨kf, hkf⟩ := (ref_number_f l0 a1 a2 F Wd hF hWd (by omega) OK.out.1).at_
    have nc := fun (A : Option Addr) (c : Nat) (w : World) h1 h2 h3 => number_calls A c l0 a1 a2 F Wd hF hWd w h1 h2 h3 (by omega) OK.out.1
    obtain ⟨L, hL⟩ : ∃ L, numL Wd F l0 = L := ⟨_, rfl⟩
    have hLl : L.length = l0.length := by rw [← hL, num_len]
    rw [hL] at hkf nc
    obtain ⟨k1, hk1⟩ := (same_self L (by omega)).at_
    have nc2 : ∀ (A : Option Addr) (c : Nat) (w : World), Lib.TabIs Tryz.prog w "internal/strconv.uint64pow10" .u64 Lib.pow10Tab → Kd.C Kd.string w A l0.length l0 → l0.length ≤ c → Calls Tryz.prog 8 #[.slice A l0.length c, .int .i64 a1, .int .i64 a2] w fun e w' => ∃ v, e = .returned v ∧ w'.ownsRow w.heap.size 9 1 v L.length (strs L) ∧ Below w.heap.size w w' := fun A c w h1 h2 h3 => by
      have := nc A c w h1 h2 h3
      rw [hLl]
      exact this
    have KB := Lib.hid hkb
    have NC := Lib.hid nc2
    have KF := Lib.hid hkf
    have K1 := Lib.hid hk1
    have HLL := Lib.hid hLl
    have hL2 : L.length ≤ 1048576 := by omega
    clear hkb hbig nc nc2 hkf hk1 hL hF hWd hN hn2 hLl
    go_enter Tryz.func3, Tryz.ntmps3
    go_wp2_with (go_at_call 6; refine (toolchestlaw01_TextsSize.calls (l0.length + 1) A0 z0 l0 (nn : Int) _ HR.out hc0 HN.out).mono ?_)
    rintro e w0 ⟨rfl, hb0⟩
    have B0 := Lib.hid hb0.below
    clear hb0
    go_wp2_with (go_at_call 5; refine (toolchestlaw01_Beyond.calls kb (some ⟨w0.heap.size, 0, none⟩) 1 [(nn : Int)] false _ (C_ints w0 .i64 3 [(nn : Int)] (by simp)) (Nat.le_refl _) KB.out).mono ?_)
    rintro e w1 ⟨rfl, hb1⟩
    have B1 := Lib.hid (bth (bal B0.out _) hb1.below)
    clear hb1
    go_wp2_with (go_at_call 7; refine (twinTexts A0 z0 l0 _ (Kd.C_below HR.out B1.out) hc0 (by omega)).mono ?_)
    rintro e w2 ⟨g, cap, rfl, ho2, hb2⟩
    have O2 := Lib.hid ho2
    have B2 := Lib.hid (bth B1.out hb2)
    have S2 := Lib.hid hb2
    have CT := Lib.hid (show Kd.C Kd.string w2 (some ⟨g, 0, none⟩) l0.length l0 by have := C_of_own ho2 l0.length (by simp); simpa using this)
    have hcap := (twin_cap ho2).1
    have hcap2 : l0.length ≤ cap := by omega
    clear ho2 hb2 hcap
    go_wp2_with (go_at_call 8; refine (NC.out _ _ _ (TabIs_below (g := 0) (by kernel_rfl) HE.out B2.out) CT.out hcap2).mono ?_)
    rintro e w3 ⟨v3, rfl, ho3, hb3⟩
    obtain ⟨A3, c3, rfl, hc3, hr3⟩ := reads_own ho3
    have O3 := Lib.hid ho3
    have B3 := Lib.hid (bth B2.out hb3)
    have S3 := Lib.hid hb3
    clear hb3 ho3 hr3
    go_wp2_with (go_at_call 8; refine (NC.out _ _ _ (TabIs_below (g := 0) (by kernel_rfl) HE.out B3.out) (Kd.C_below CT.out S3.out) hcap2).mono ?_)
    rintro e w4 ⟨v4, rfl, ho4, hb4⟩
    obtain ⟨A4, c4, rfl, hc4, hr4⟩ := reads_own ho4
    have O4 := Lib.hid ho4
    have B4 := Lib.hid (bth B3.out hb4)
    have S4 := Lib.hid hb4
    clear hb4 ho4 hr4
    go_wp2_with (go_at_call 10; refine (toolchestref07_Number.calls kf A0 z0 l0 a1 a2 L _ (Kd.C_below HR.out B4.out) hc0 KF.out).mono ?_)
    rintro e w5 ⟨v5, rfl, ho5, hb5⟩
    obtain ⟨A5, c5, rfl, hc5, hr5⟩ := own_R ho5
    have R5 := Lib.hid hr5
    have B5 := Lib.hid (bth B4.out hb5)
    have S5 := Lib.hid hb5
    clear hb5 ho5 hr5
    have q3 : Hid (Kd.C Kd.string w5 A3 L.length L) := Lib.hid (by
      obtain ⟨A, c, e, _, h⟩ := reads_own (pw_own_below (pw_own_below O3.out S4.out) S5.out); cases e; exact h)
    go_wp2_with (first | (go_at_call 9; with_reducible refine (toolchestlaw01_SameTexts.calls k1 A3 c3 L A5 c5 L true _ q3.out hc3 R5.out hc5 K1.out).mono ?_))
    rintro e w6 ⟨rfl, hb6⟩
    have S6 := Lib.hid (bth S5.out hb6.below)
    have B6 := Lib.hid (bth B5.out hb6.below)
    clear hb6
    have O6 := Lib.hid (pw_own_below (pw_own_below (pw_own_below O2.out S3.out) S4.out) S6.out)
    go_wp2_with (go_at_call 11; refine (leftTexts g cap _ A0 z0 l0 _ (Kd.C_below HR.out B6.out) hc0 O6.out).mono ?_)
    rintro e w7 ⟨rfl, hb7⟩
    have S7 := Lib.hid (bth S6.out hb7)
    have B7 := Lib.hid (bth B6.out hb7)
    clear hb7
    go_wp2_with (go_at_call 12; refine (texts_calls w7.heap.size _ 0 _ (some ⟨g, 0, none⟩) l0.length cap _ (book_new w7) (by decide) (by simp)).mono ?_)
    rintro e x1 ⟨rfl, ⟨t1, hk1⟩, hx1⟩
    have HK1 := Lib.hid hk1
    have X1 := Lib.hid (below_al hx1)
    clear hk1 hx1
    go_wp2_with (go_at_call 12; refine (texts_calls w7.heap.size _ 1 _ A3 L.length c3 _ HK1.out (by decide) (by simp)).mono ?_)
    rintro e x2 ⟨rfl, ⟨t2, hk2⟩, hx2⟩
    have HK2 := Lib.hid hk2
    have X2 := Lib.hid (X1.out.trans hx2)
    clear hk2 hx2
    go_wp2_with (go_at_call 12; refine (texts_calls w7.heap.size _ 2 _ A4 L.length c4 _ HK2.out (by decide) (by simp)).mono ?_)
    rintro e x3 ⟨rfl, ⟨t3, hk3⟩, hx3⟩
    have HK3 := Lib.hid hk3
    have X3 := Lib.hid (X2.out.trans hx3)
    clear hk3 hx3
    have hrdy := Lib.hid (ready_of (B0 := W.heap.size) (w := x3) (fun i => [l0, L, L].getD i []) (fun i => [w1.heap.size, w2.heap.size, w3.heap.size].getD i 0) (fun i => [w2.heap.size, w3.heap.size, w4.heap.size].getD i 0) HK3.out (by simp) (by have := B7.out.size; omega)
      (by
        have f1 : ∀ {base n : Nat} {v : Value} {xs : List Value} {w' : World}, w'.ownsRow base 9 1 v n xs → W.heap.size ≤ base → Below w'.heap.size w' w7 → x3.ownsRow W.heap.size 9 1 v n xs := fun {base n v xs w'} h hb hl => own_weaken (pw_own_below (pw_own_below h hl) X3.out) hb
        have z1 := B1.out.size
        have z2 := S2.out.size
        have z3 := S3.out.size
        have z4 := S4.out.size
        have z7 := S7.out.size
        have OT := own_twin O2.out
        intro i hi
        have hi3 : i < 3 := hi
        rcases (show i = 0 ∨ i = 1 ∨ i = 2 by omega) with rfl | rfl | rfl
        · exact ⟨f1 OT (by omega) (bth (bth S3.out S4.out) S7.out), iv_of OT, (by show w2.heap.size ≤ w7.heap.size; omega), (by show (1 : Nat) < 100; omega), rfl, (by show l0.length ≤ _; omega)⟩
        · exact ⟨f1 O3.out (by omega) (bth S4.out S7.out), iv_of O3.out, (by show w3.heap.size ≤ w7.heap.size; omega), (by show (2 : Nat) < 100; omega), rfl, (by show L.length ≤ _; omega)⟩
        · exact ⟨f1 O4.out (by omega) S7.out, iv_of O4.out, (by show w4.heap.size ≤ w7.heap.size; omega), (by show (3 : Nat) < 100; omega), rfl, (by show L.length ≤ _; omega)⟩)
      (by
        have z3 := S3.out.size
        intro i j hij hj
        have hj3 : j < 3 := hj
        rcases (show (i = 0 ∧ j = 1) ∨ (i = 0 ∧ j = 2) ∨ (i = 1 ∧ j = 2) by omega) with ⟨rfl, rfl⟩ | ⟨rfl, rfl⟩ | ⟨rfl, rfl⟩
        · show w2.heap.size ≤ w2.heap.size; omega
        · show w2.heap.size ≤ w3.heap.size; omega
        · show w3.heap.size ≤ w3.heap.size; omega))
    go_wp2_with (go_at_call 13; refine (apart_calls W.heap.size w7.heap.size 3 _ _ _ _ hrdy.out).mono ?_)
    rintro e w9 ⟨rfl, hb9⟩
    go_wp2
    go_ret
    exact ⟨rfl, (bth B7.out X3.out).trans hb9⟩
end Go.Proofs.YtkedjlekeohpaaaGreatDoor.P

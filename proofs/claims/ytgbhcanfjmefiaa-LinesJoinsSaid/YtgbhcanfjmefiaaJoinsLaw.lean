/- The walk of LinesJoins: for every list of texts it returns true. -/
import Derived.Test.YtgbhcanfjmefiaaJoin
import Derived.Test.YtgbhcanfjmefiaaTwin
import Derived.Test.YtgbhcanfjmefiaaSizes
import Derived.StillTailTactics
import Derived.BigQuiet
import Derived.Outline
set_option linter.unusedVariables false
set_option linter.unusedSimpArgs false
namespace Go.Proofs.Ytgbhcanfjmefiaa.Q
open Go.RowKit Go.Proofs.YtgbhcanfjmefiaaW.PrintWords Go.Proofs.YtgbhcanfjmefiaaW.PrintLast Go.Proofs.Ytgbhcanfjmefiaa.H Go.Proofs.Ytgbhcanfjmefiaa.B

theorem joinL_size (l : List ByteArray) : (joinL l).length = textsN l := by
  unfold textsN
  induction l with
  | nil => rfl
  | cons a l ih =>
    have h2 : a.data.toList.length = a.size := Array.length_toList
    simp only [joinL, List.flatMap_cons, List.length_append, List.length_cons, List.length_nil, List.map_cons, List.sum_cons] at ih ⊢
    omega

set_option maxHeartbeats 1000000 in
set_option maxRecDepth 100000 in
theorem LinesJoins_walk (A0 : Option Addr) (z0 : Nat) (l0 : List ByteArray) (W : World) (hr0 : Kd.C Kd.string W A0 l0.length l0) (hc0 : l0.length ≤ z0) (ok0 : (∀ a ∈ l0, a.size ≤ 140737488351232) ∧ l0.length * 16 ≤ 140737488351232) :
    Calls Try.prog 3 #[.slice A0 l0.length z0] W fun e W' => e = .returned (.bool true) ∧ Below W.heap.size W W' := by
  obtain ⟨n, hn, hn0, hn1, hn2⟩ := textsSize_tells l0 ok0.1 (by omega)
  have hby := beyond_one n hn0 (by omega)
  have hr := Lib.hid hr0
  have hnh := Lib.hid hn
  clear hr0 hn
  by_cases hbig : n > 1048576
  · rw [decide_eq_true hbig] at hby
    have hbh := Lib.hid hby
    clear hby
    go_enter Try.func3, Try.ntmps3
    go_wp2_with (go_at_call 13; refine (toolchestlaw01_TextsSize.calls (l0.length + 1) A0 z0 l0 n _ hr.out hc0 hnh.out).mono ?_)
    rintro e w1 ⟨rfl, hb1⟩
    go_wp2_with (go_at_call 12; refine (toolchestlaw01_Beyond.calls 2 (some ⟨w1.heap.size, 0, none⟩) 1 [n] true _ (C_ints w1 .i64 3 [n] (by simp)) (Nat.le_refl _) hbh.out).mono ?_)
    rintro e w2 ⟨rfl, hb2⟩
    go_wp2
    go_ret
    exact ⟨rfl, bth (bal hb1.below _) hb2.below⟩
  · rw [decide_eq_false hbig] at hby
    have hbh := Lib.hid hby
    have hN := hn2 (by omega)
    have hj : (joinL l0).length ≤ 140737488355328 := by rw [joinL_size]; omega
    have hsm : n ≤ 1048576 := by omega
    clear hby hn2 hN hbig
    go_enter Try.func3, Try.ntmps3
    go_wp2_with (go_at_call 13; refine (toolchestlaw01_TextsSize.calls (l0.length + 1) A0 z0 l0 n _ hr.out hc0 hnh.out).mono ?_)
    rintro e w1 ⟨rfl, hb1⟩
    go_wp2_with (go_at_call 12; refine (toolchestlaw01_Beyond.calls 2 (some ⟨w1.heap.size, 0, none⟩) 1 [n] false _ (C_ints w1 .i64 3 [n] (by simp)) (Nat.le_refl _) hbh.out).mono ?_)
    rintro e w2 ⟨rfl, hb2⟩
    have HB2 := Lib.hid (bth (bal hb1.below _) hb2.below)
    clear hb1 hb2
    have hr2 := Lib.hid (Kd.C_below hr.out HB2.out)
    go_wp2_with (go_at_call 14; refine (twinTexts A0 z0 l0 _ hr2.out hc0 (by omega)).mono ?_)
    rintro e w3 ⟨g, cap, rfl, ho3, hb3⟩
    have HO3 := Lib.hid ho3
    have HB3 := Lib.hid (bth HB2.out hb3)
    have hr3 := Lib.hid (Kd.C_below hr2.out hb3)
    clear ho3 hb3 hr2 HB2
    have hct := Lib.hid (show Kd.C Kd.string w3 (some ⟨g, 0, none⟩) l0.length l0 by have := C_of_own HO3.out l0.length (by simp); simpa using this)
    have hcap := (twin_cap HO3.out).1
    go_wp2_with (go_at_call 15; refine (lines_Join_walk (some ⟨g, 0, none⟩) cap l0 _ hct.out (by omega) hj).mono ?_)
    rintro e w4 ⟨rfl, hb4⟩
    have HB4 := Lib.hid (bth HB3.out hb4)
    have hr4 := Lib.hid (Kd.C_below hr3.out hb4)
    have HO4 := Lib.hid (pw_own_below HO3.out hb4)
    clear hb4 hct HO3 HB3 hr3
    go_wp2_with (go_at_call 16; refine (ref_Join_walk A0 z0 l0 _ hr4.out hc0 hj).mono ?_)
    rintro e w5 ⟨rfl, hb5⟩
    have HB5 := Lib.hid (bth HB4.out hb5)
    have hr5 := Lib.hid (Kd.C_below hr4.out hb5)
    have HO5 := Lib.hid (pw_own_below HO4.out hb5)
    clear hb5 HO4 HB4 hr4
    go_wp2_with (go_at_call 17; refine (leftTexts g cap _ A0 z0 l0 _ hr5.out hc0 HO5.out).mono ?_)
    rintro e w6 ⟨rfl, hb6⟩
    have HB6 := Lib.hid (bth HB5.out hb6)
    clear hb6
    go_wp2
    go_ret
    exact ⟨rfl, HB6.out⟩
end Go.Proofs.Ytgbhcanfjmefiaa.Q

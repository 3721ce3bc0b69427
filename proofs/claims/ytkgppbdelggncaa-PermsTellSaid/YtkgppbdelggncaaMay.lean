/- perms.May and perms.Owns: what the two functions compute, for every node and every user. -/
import Derived.Test.YtkgppbdelggncaaQx0
import Derived.Test.YtkgppbdelggncaaHelp
import Derived.WalkLawsBesides
import Derived.WalkSpells
import Derived.Lib.Hide
set_option linter.unusedVariables false
namespace Go.Proofs.Ytkgppbdelggncaa.Q
open Go.RowKit Go.Proofs.Ytkgppbdelggncaa.H Go.Proofs.YtkgppbdelggncaaW.PrintWords Go.Proofs.YtkgppbdelggncaaW.PrintLast

def mayP (k m u g eu eg what : Int) : Bool :=
  if what < 1 then false else if 7 < what then false else if k = 0 then false else
  if eu = 0 then (if bits .and .i64 what 1 = 0 then true else if k = 1 then bits .and .i64 m 73 != 0 else true)
  else if eu = u then bits .and .i64 (m / 64) what == what
  else if eg = g then bits .and .i64 (m / 8) what == what
  else bits .and .i64 m what == what

theorem ret_bool {a b : Bool} (h : a = b) : Ending.returned (.bool a) = .returned (.bool b) := by rw [h]

set_option maxHeartbeats 1000000 in
set_option maxRecDepth 100000 in
theorem may_any (k m u g ln t : Int) (d : Value) (tg : Value) (l : Value) (pa eu eg ek ed what : Int) (w : World) :
    Calls Try.prog 11 #[.agg #[.int .u8 k, .int .i64 m, .int .i64 u, .int .i64 g, .int .i64 ln, .int .i64 t, d, tg, l, .int .i64 pa], .agg #[.int .i64 eu, .int .i64 eg, .int .i64 ek, .int .i64 ed], .int .i64 what] w
      fun e w' => e = .returned (.bool (mayP k m u g eu eg what)) ∧ Below w.heap.size w w' := by
  have BB : ∀ (o1 o2 : Obj), Below w.heap.size w ((w.alloc o1).alloc o2) := fun o1 o2 => ((Below.refl _ _).alloc (Nat.le_refl _) _).alloc (by simp) _
  have bz := Lib.hid BB
  clear BB
  by_cases h1 : what < 1
  · have hp := Lib.hid (show mayP k m u g eu eg what = false by unfold mayP; rw [if_pos h1])
    go_enter Try.func11, Try.ntmps11
    go_wp2
    go_ret
    exact ⟨ret_bool hp.out.symm, bz.out _ _⟩
  by_cases h2 : 7 < what
  · have hp := Lib.hid (show mayP k m u g eu eg what = false by unfold mayP; rw [if_neg h1, if_pos h2])
    go_enter Try.func11, Try.ntmps11
    go_wp2
    go_ret
    exact ⟨ret_bool hp.out.symm, bz.out _ _⟩
  by_cases h3 : k = 0
  · have hp := Lib.hid (show mayP k m u g eu eg what = false by unfold mayP; rw [if_neg h1, if_neg h2, if_pos h3])
    subst h3
    go_enter Try.func11, Try.ntmps11
    go_wp2
    go_ret
    exact ⟨ret_bool hp.out.symm, bz.out _ _⟩
  have h3' : (k == 0) = false := by simpa using h3
  by_cases h4 : eu = 0
  · by_cases h5 : bits .and .i64 what 1 = 0
    · have hp := Lib.hid (show mayP k m u g eu eg what = true by unfold mayP; rw [if_neg h1, if_neg h2, if_neg h3, if_pos h4, if_pos h5])
      subst h4
      have h5' : (bits .and .i64 what 1 == 0) = true := by simpa using h5
      clear h3 h5
      go_enter Try.func11, Try.ntmps11
      go_wp2
      all_goals
        go_ret
        exact ⟨ret_bool hp.out.symm, bz.out _ _⟩
    · have h5' : (bits .and .i64 what 1 == 0) = false := by simpa using h5
      by_cases h6 : k = 1
      · have hp := Lib.hid (show mayP k m u g eu eg what = (bits .and .i64 m 73 != 0) by unfold mayP; rw [if_neg h1, if_neg h2, if_neg h3, if_pos h4, if_neg h5, if_pos h6])
        subst h4
        subst h6
        clear h3 h5
        go_enter Try.func11, Try.ntmps11
        go_wp2
        all_goals
          go_ret
          exact ⟨ret_bool hp.out.symm, bz.out _ _⟩
      · have hp := Lib.hid (show mayP k m u g eu eg what = true by unfold mayP; rw [if_neg h1, if_neg h2, if_neg h3, if_pos h4, if_neg h5, if_neg h6])
        subst h4
        have h6' : (k == 1) = false := by simpa using h6
        have h6'' : (k != 1) = true := by simpa using h6
        clear h3 h5 h6
        go_enter Try.func11, Try.ntmps11
        go_wp2
        all_goals
          go_ret
          exact ⟨ret_bool hp.out.symm, bz.out _ _⟩
  · have h4' : (eu == 0) = false := by simpa using h4
    by_cases h5 : eu = u
    · have hp := Lib.hid (show mayP k m u g eu eg what = (bits .and .i64 (m / 64) what == what) by unfold mayP; rw [if_neg h1, if_neg h2, if_neg h3, if_neg h4, if_pos h5])
      subst h5
      clear h3 h4
      go_enter Try.func11, Try.ntmps11
      go_wp2
      all_goals
        go_ret
        exact ⟨ret_bool hp.out.symm, bz.out _ _⟩
    · have h5' : (eu == u) = false := by simpa using h5
      have h5'' : (eu != u) = true := by simpa using h5
      by_cases h6 : eg = g
      · have hp := Lib.hid (show mayP k m u g eu eg what = (bits .and .i64 (m / 8) what == what) by unfold mayP; rw [if_neg h1, if_neg h2, if_neg h3, if_neg h4, if_neg h5, if_pos h6])
        subst h6
        clear h3 h4 h5
        go_enter Try.func11, Try.ntmps11
        go_wp2
        all_goals
          go_ret
          exact ⟨ret_bool hp.out.symm, bz.out _ _⟩
      · have hp := Lib.hid (show mayP k m u g eu eg what = (bits .and .i64 m what == what) by unfold mayP; rw [if_neg h1, if_neg h2, if_neg h3, if_neg h4, if_neg h5, if_neg h6])
        have h6' : (eg == g) = false := by simpa using h6
        clear h3 h4 h5 h6
        go_enter Try.func11, Try.ntmps11
        go_wp2
        all_goals
          go_ret
          exact ⟨ret_bool hp.out.symm, bz.out _ _⟩
set_option maxHeartbeats 1000000 in
set_option maxRecDepth 100000 in
theorem owns_any (k m u g ln t : Int) (d : Value) (tg : Value) (l : Value) (pa eu eg ek ed : Int) (w : World) :
    Calls Try.prog 13 #[.agg #[.int .u8 k, .int .i64 m, .int .i64 u, .int .i64 g, .int .i64 ln, .int .i64 t, d, tg, l, .int .i64 pa], .agg #[.int .i64 eu, .int .i64 eg, .int .i64 ek, .int .i64 ed]] w
      fun e w' => e = .returned (.bool (eu == 0 || eu == u)) ∧ Below w.heap.size w w' := by
  by_cases h : eu = 0
  · subst h
    go_enter Try.func13, Try.ntmps13
    go_wp2
    all_goals
      go_ret
      exact ⟨by simp, bal (bal (Below.refl _ _) _) _⟩
  · have h' : (eu == 0) = false := by simpa using h
    clear h
    go_enter Try.func13, Try.ntmps13
    go_wp2
    all_goals
      go_ret
      exact ⟨by simp [h'], bal (bal (Below.refl _ _) _) _⟩
def perms_May.f (a0_0 : Int) (a0_1 : Int) (a0_2 : Int) (a0_3 : Int) (a0_4 : Int) (a0_5 : Int) (l0_6 : List Int) (a0_7 : ByteArray) (l0_8 : List (S58)) (a0_9 : Int) (a1_0 : Int) (a1_1 : Int) (a1_2 : Int) (a1_3 : Int) (a2 : Int) : Option Bool := some (mayP a0_0 a0_1 a0_2 a0_3 a1_0 a1_1 a2)
theorem perms_May.calls (a0_0 : Int) (a0_1 : Int) (a0_2 : Int) (a0_3 : Int) (a0_4 : Int) (a0_5 : Int) (A0_6 : Option Addr) (c0_6 : Nat) (l0_6 : List Int) (a0_7 : ByteArray) (A0_8 : Option Addr) (c0_8 : Nat) (l0_8 : List (S58)) (a0_9 : Int) (a1_0 : Int) (a1_1 : Int) (a1_2 : Int) (a1_3 : Int) (a2 : Int) (r : Bool) (w : World) (hr0_6 : Kd.C (Kd.int .u8) w A0_6 l0_6.length l0_6) (hc0_6 : l0_6.length ≤ c0_6) (hr0_8 : Kd.C k58 w A0_8 l0_8.length l0_8) (hc0_8 : l0_8.length ≤ c0_8) (h : perms_May.f a0_0 a0_1 a0_2 a0_3 a0_4 a0_5 l0_6 a0_7 l0_8 a0_9 a1_0 a1_1 a1_2 a1_3 a2 = some r) :
    Calls Try.prog 11 #[.agg #[.int .u8 a0_0, .int .i64 a0_1, .int .i64 a0_2, .int .i64 a0_3, .int .i64 a0_4, .int .i64 a0_5, .slice A0_6 l0_6.length c0_6, .string a0_7, .slice A0_8 l0_8.length c0_8, .int .i64 a0_9], .agg #[.int .i64 a1_0, .int .i64 a1_1, .int .i64 a1_2, .int .i64 a1_3], .int .i64 a2] w fun e w' => e = .returned (.bool r) ∧ Below w.heap.size w w' := by
  obtain rfl := Option.some.inj h
  exact fun _ => may_any a0_0 a0_1 a0_2 a0_3 a0_4 a0_5 _ _ _ a0_9 a1_0 a1_1 a1_2 a1_3 a2 w _
def perms_Owns.f (a0_0 : Int) (a0_1 : Int) (a0_2 : Int) (a0_3 : Int) (a0_4 : Int) (a0_5 : Int) (l0_6 : List Int) (a0_7 : ByteArray) (l0_8 : List (S58)) (a0_9 : Int) (a1_0 : Int) (a1_1 : Int) (a1_2 : Int) (a1_3 : Int) : Option Bool := some ((a1_0 == 0 || a1_0 == a0_2))
theorem perms_Owns.calls (a0_0 : Int) (a0_1 : Int) (a0_2 : Int) (a0_3 : Int) (a0_4 : Int) (a0_5 : Int) (A0_6 : Option Addr) (c0_6 : Nat) (l0_6 : List Int) (a0_7 : ByteArray) (A0_8 : Option Addr) (c0_8 : Nat) (l0_8 : List (S58)) (a0_9 : Int) (a1_0 : Int) (a1_1 : Int) (a1_2 : Int) (a1_3 : Int) (r : Bool) (w : World) (hr0_6 : Kd.C (Kd.int .u8) w A0_6 l0_6.length l0_6) (hc0_6 : l0_6.length ≤ c0_6) (hr0_8 : Kd.C k58 w A0_8 l0_8.length l0_8) (hc0_8 : l0_8.length ≤ c0_8) (h : perms_Owns.f a0_0 a0_1 a0_2 a0_3 a0_4 a0_5 l0_6 a0_7 l0_8 a0_9 a1_0 a1_1 a1_2 a1_3 = some r) :
    Calls Try.prog 13 #[.agg #[.int .u8 a0_0, .int .i64 a0_1, .int .i64 a0_2, .int .i64 a0_3, .int .i64 a0_4, .int .i64 a0_5, .slice A0_6 l0_6.length c0_6, .string a0_7, .slice A0_8 l0_8.length c0_8, .int .i64 a0_9], .agg #[.int .i64 a1_0, .int .i64 a1_1, .int .i64 a1_2, .int .i64 a1_3]] w fun e w' => e = .returned (.bool r) ∧ Below w.heap.size w w' := by
  obtain rfl := Option.some.inj h
  exact fun _ => owns_any a0_0 a0_1 a0_2 a0_3 a0_4 a0_5 _ _ _ a0_9 a1_0 a1_1 a1_2 a1_3 w _
theorem may_is {k m u g ln t : Int} {d : Value} {tg : Value} {l : Value} {pa eu eg ek ed what : Int} {w : World} (r : Bool) (h : mayP k m u g eu eg what = r) :
    Calls Try.prog 11 #[.agg #[.int .u8 k, .int .i64 m, .int .i64 u, .int .i64 g, .int .i64 ln, .int .i64 t, d, tg, l, .int .i64 pa], .agg #[.int .i64 eu, .int .i64 eg, .int .i64 ek, .int .i64 ed], .int .i64 what] w
      fun e w' => e = .returned (.bool r) ∧ Below w.heap.size w w' := by subst h; exact fun _ => may_any k m u g ln t d tg l pa eu eg ek ed what w _

theorem owns_is {k m u g ln t : Int} {d : Value} {tg : Value} {l : Value} {pa eu eg ek ed : Int} {w : World} (r : Bool) (h : (eu == 0 || eu == u) = r) :
    Calls Try.prog 13 #[.agg #[.int .u8 k, .int .i64 m, .int .i64 u, .int .i64 g, .int .i64 ln, .int .i64 t, d, tg, l, .int .i64 pa], .agg #[.int .i64 eu, .int .i64 eg, .int .i64 ek, .int .i64 ed]] w
      fun e w' => e = .returned (.bool r) ∧ Below w.heap.size w w' := by subst h; exact fun _ => owns_any k m u g ln t d tg l pa eu eg ek ed w _


set_option maxHeartbeats 4000000 in
set_option maxRecDepth 100000 in
theorem lives_any (w : World) :
    Calls Try.prog 9 #[] w fun e w' => e = .returned (.bool true) ∧ Below w.heap.size w w' := by
  go_enter Try.func9, Try.ntmps9
  go_wp2_with fail
  refine (may_is true ?h1).mono ?_
  case h1 => decide +kernel
  rintro e w1 ⟨rfl, hb1⟩
  have L1 : w.heap.size < w1.heap.size := by have := hb1.size; first | omega | (simp at this; omega)
  obtain ⟨hc, hf⟩ := bcell hb1
  go_wp2_with fail
  refine (may_is true ?h1).mono ?_
  case h1 => decide +kernel
  rintro e w2 ⟨rfl, hb2⟩
  have L2 : w.heap.size < w2.heap.size := by have := hb2.size; first | omega | (simp at this; omega)
  obtain ⟨hc, hf⟩ := bcell hb2
  go_wp2_with fail
  refine (may_is false ?h1).mono ?_
  case h1 => decide +kernel
  rintro e w3 ⟨rfl, hb3⟩
  have L3 : w.heap.size < w3.heap.size := by have := hb3.size; first | omega | (simp at this; omega)
  obtain ⟨hc, hf⟩ := bcell hb3
  go_wp2_with fail
  refine (may_is true ?h1).mono ?_
  case h1 => decide +kernel
  rintro e w4 ⟨rfl, hb4⟩
  have L4 : w.heap.size < w4.heap.size := by have := hb4.size; first | omega | (simp at this; omega)
  obtain ⟨hc, hf⟩ := bcell hb4
  go_wp2_with fail
  refine (may_is false ?h1).mono ?_
  case h1 => decide +kernel
  rintro e w5 ⟨rfl, hb5⟩
  have L5 : w.heap.size < w5.heap.size := by have := hb5.size; first | omega | (simp at this; omega)
  obtain ⟨hc, hf⟩ := bcell hb5
  go_wp2_with fail
  refine (may_is false ?h1).mono ?_
  case h1 => decide +kernel
  rintro e w6 ⟨rfl, hb6⟩
  have L6 : w.heap.size < w6.heap.size := by have := hb6.size; first | omega | (simp at this; omega)
  obtain ⟨hc, hf⟩ := bcell hb6
  go_wp2_with fail
  refine (owns_is true ?h1).mono ?_
  case h1 => decide +kernel
  rintro e w7 ⟨rfl, hb7⟩
  have L7 : w.heap.size < w7.heap.size := by have := hb7.size; first | omega | (simp at this; omega)
  obtain ⟨hc, hf⟩ := bcell hb7
  go_wp2_with fail
  refine (owns_is false ?h1).mono ?_
  case h1 => decide +kernel
  rintro e w8 ⟨rfl, hb8⟩
  have L8 : w.heap.size < w8.heap.size := by have := hb8.size; first | omega | (simp at this; omega)
  obtain ⟨hc, hf⟩ := bcell hb8
  go_wp2_with fail
  refine (owns_is true ?h1).mono ?_
  case h1 => decide +kernel
  rintro e w9 ⟨rfl, hb9⟩
  have L9 : w.heap.size < w9.heap.size := by have := hb9.size; first | omega | (simp at this; omega)
  obtain ⟨hc, hf⟩ := bcell hb9
  go_wp2_with fail
  go_ret
  exact ⟨rfl, bth (bth (bth (bth (bth (bth (bth (bth (bth (bal (Below.refl _ _) _) hb1) hb2) hb3) hb4) hb5) hb6) hb7) hb8) hb9⟩

def toolchestlaw13_lives.f : Option Bool := some true
theorem toolchestlaw13_lives.calls (r : Bool) (w : World) (h : toolchestlaw13_lives.f = some r) :
    Calls Try.prog 9 #[] w fun e w' => e = .returned (.bool r) ∧ Below w.heap.size w w' := by
  obtain rfl := Option.some.inj h
  exact fun _ => lives_any w _
end Go.Proofs.Ytkgppbdelggncaa.Q

/- strings.IndexRune at " \t" and a rune that is no ASCII one; what a rune that is no ASCII one has read. -/
import Derived.Test.YtkedjlekeohpaaaGreatDoorShelf
import Derived.Test.YtkedjlekeohpaaaGreatDoorHelp
import Derived.Laws.Runes
import Derived.Laws.RangeAny
import Derived.Laws.Strings
import Derived.Below
import Derived.WalkKit
import Derived.Lib.Hide
import Derived.Lib.TrimUEq
import Derived.Outline
import Derived.Lib.OthersKept
import Derived.Deep.LoopGhost
import Derived.Deep.QuietTactic
import Derived.BigQuiet
import Derived.KernelRfl
set_option linter.unusedVariables false
set_option linter.unusedSimpArgs false
namespace Go.Proofs.YtkedjlekeohpaaaGreatDoor.K
open Go.RowKit

theorem quiet_add_same {P : Program} {f : FuncId} {args : Array Value} {w : World} {a n : Nat} {v : Value}
    (h : Calls P f args (w.drewN (a + n)) fun e w' => e = .returned v ∧ w' = w.drewN (a + n)) :
    Calls P f args (w.drewN (a + n)) fun e w'' => e = .returned v ∧ ∃ m, w'' = w.drewN (a + m) :=
  h.mono fun _ _ ⟨he, hm⟩ => ⟨he, n, hm⟩
set_option maxHeartbeats 2000000 in
set_option maxRecDepth 100000 in
theorem indexRune_err (w : World) :
    Calls Tryz.prog 99 #[.string ⟨#[32, 9]⟩, .int .i32 65533] w fun e w' => e = .returned (.int .i64 (-1)) ∧ Below w.heap.size w w' := by
  go_enter Tryz.func99, Tryz.ntmps99
  go_wp2_with fail
  go_loopg [5, 6] 2 (fun g _ _ wx => ∃ i : Nat, i + g = 2 ∧ wx = w.iter ⟨#[32, 9]⟩ i)
  case atStart => exact ⟨0, rfl, rfl⟩
  case round =>
    obtain ⟨i, hig, rfl⟩ := hrel
    cases gk with
    | zero =>
      obtain rfl : i = 2 := by omega
      have hnx := run_next_end (P := Tryz.prog) w ⟨#[32, 9]⟩ 2
      go_wp2
      go_ret
      exact ⟨rfl, (Below.refl _ _).alloc (Nat.le_refl _) _⟩
    | succ g =>
      rcases (show i = 0 ∨ i = 1 by omega) with rfl | rfl
      · have hnx := fun ty => run_next_ascii (P := Tryz.prog) w ⟨#[32, 9]⟩ 0 ty (by decide) (by decide)
        go_wp2
        go_roundg g
        case measure => omega
        case rel => exact ⟨1, by omega, rfl⟩
      · have hnx := fun ty => run_next_ascii (P := Tryz.prog) w ⟨#[32, 9]⟩ 1 ty (by decide) (by decide)
        go_wp2
        go_roundg g
        case measure => omega
        case rel => exact ⟨2, by omega, rfl⟩
theorem valid_of (r : Int) (h : Lib.validRune r = true) : Utf8.valid r = true := by
  rw [validRune_eq]
  unfold Lib.validRune at h
  unfold validRune
  simpa using h
set_option maxHeartbeats 4000000 in
set_option maxRecDepth 100000 in
theorem indexRune_high (r : Int) (w : World) (h0 : 128 ≤ r) (h1 : r ≤ 2147483647) :
    Calls Tryz.prog 99 #[.string ⟨#[32, 9]⟩, .int .i32 r] w fun e w' => e = .returned (.int .i64 (-1)) ∧ Below w.heap.size w w' := by
  by_cases he : r = 65533
  · subst he; exact indexRune_err w
  · have hne : (r == 65533) = false := beq_eq_false_iff_ne.2 he
    clear he
    cases hv : Lib.validRune r with
    | false =>
      have HV := Lib.hid hv
      clear hv
      go_enter Tryz.func99, Tryz.ntmps99
      go_wp2_with fail
      refine (Tryz.utf8_ValidRune r _).mono ?_
      rintro e w' ⟨rfl, rfl⟩
      rw [HV.out]
      go_wp2
      go_ret
      exact ⟨rfl, Below.refl _ _⟩
    | true =>
      obtain ⟨e1, e2, e3⟩ := encode_facts r (valid_of r hv) h0
      have HV := Lib.hid hv
      clear hv
      go_enter Tryz.func99, Tryz.ntmps99
      go_wp2_with fail
      refine (Tryz.utf8_ValidRune r _).mono ?_
      rintro e w' ⟨rfl, rfl⟩
      rw [HV.out]
      have hcv := fun (W : World) => run_convert_int_string (P := Tryz.prog) W 21 9 .i32 r (by rw [Tryz.underlying21]; rfl) Tryz.underlying9
      generalize Utf8.encode r = E at e1 e2 e3 hcv
      go_wp2
      go_step3
      go_wp2
      go_loop [9] (fun i => i = .int .i64 ((E.size : Int) - 1)) (fun _ => 0)
      case atStart => rfl
      case round =>
        obtain rfl := hrel
        by_cases hz : E.size = 2
        · have hb1 : 128 ≤ (E[1]'(by omega)).toNat := by
            have := e3 (by omega)
            simpa [hz] using this
          have hl1 : (1 : Int) < (E.size : Int) := by omega
          have hne9 : ((((⟨#[32, 9]⟩ : ByteArray)[1]'(by decide)).toNat : Int) != ((E[1]'(by omega)).toNat : Int)) = true := by
            rw [bne_iff_ne]
            show (9 : Int) ≠ _
            omega
          clear e3 e1 e2
          go_wp2
          go_step3
          go_wp2
          go_quiet (fail)
          go_wp2
          go_quiet ((go_at_call 110; exact quiet_add_same (Tryz.strings_IndexByte _ _ _)))
          rename_i hcont
          refine hcont _ _ ?_
          have hneg : Lib.indexByte ByteArray.empty.data.toList (((E[1]'(by omega)).toNat : Int)).toNat.toUInt8 < 0 := by
            show (-1 : Int) < 0
            decide
          go_wp2
          simp only [Exit.noGoto_ret]
          go_wp2
          simp only [Exit.noGoto_ret]
          go_wp2
          try (simp only [Exit.noGoto_ret]; go_wp2)
          go_ret
          exact ⟨rfl, Go.Proofs.YtkedjlekeohpaaaGreatDoor.H.bdn (Below.refl _ _) _⟩
        · have hge : ¬ (E.size : Int) - 1 < 2 := by omega
          go_wp2
          go_ret
          exact ⟨rfl, Below.refl _ _⟩
theorem get_pos (s : ByteArray) (j : Nat) (h : j < s.size) : s.get! j = s[j]'h := by
  simp [ByteArray.get!, getElem!_pos, h]
  rfl
theorem decode_bytes (s : ByteArray) (pos : Nat) (h : pos < s.size) (ha : 128 ≤ (s[pos]'h).toNat) :
    pos + (Utf8.decode s pos).2 ≤ s.size ∧ ∀ j, pos ≤ j → j < pos + (Utf8.decode s pos).2 → 128 ≤ (s.get! j).toNat := by
  have hn : ¬ (s[pos]'h).toNat < 128 := by omega
  have h0 : 128 ≤ (s.get! pos).toNat := by rw [get_pos s pos h]; exact ha
  have one : pos + 1 ≤ s.size ∧ ∀ j, pos ≤ j → j < pos + 1 → 128 ≤ (s.get! j).toNat := by
    refine ⟨by omega, fun j h1 h2 => ?_⟩
    obtain rfl : j = pos := by omega
    exact h0
  have cont : ∀ k, (decide (pos + k < s.size) && (s.get! (pos + k)).toNat / 64 == 2) = true → pos + k < s.size ∧ 128 ≤ (s.get! (pos + k)).toNat := by
    intro k hk
    simp only [Bool.and_eq_true, decide_eq_true_eq, beq_iff_eq] at hk
    omega
  simp only [Utf8.decode, get_at s pos h, hn, if_false]
  split
  · rename_i h1
    rw [Bool.and_eq_true] at h1
    have c1 := cont 1 h1.2
    split
    · refine ⟨by show pos + 2 ≤ _; omega, fun j h2 h3 => ?_⟩
      have h3' : j < pos + 2 := h3
      rcases (show j = pos ∨ j = pos + 1 by omega) with rfl | rfl
      · exact h0
      · exact c1.2
    · exact one
  · split
    · rename_i h1
      simp only [Bool.and_eq_true] at h1
      have c1 := cont 1 (by simpa only [Bool.and_eq_true] using h1.1.2)
      have c2 := cont 2 (by simpa only [Bool.and_eq_true] using h1.2)
      split
      · refine ⟨by show pos + 3 ≤ _; omega, fun j h2 h3 => ?_⟩
        have h3' : j < pos + 3 := h3
        rcases (show j = pos ∨ j = pos + 1 ∨ j = pos + 2 by omega) with rfl | rfl | rfl
        · exact h0
        · exact c1.2
        · exact c2.2
      · exact one
    · split
      · rename_i h1
        simp only [Bool.and_eq_true] at h1
        have c1 := cont 1 (by simpa only [Bool.and_eq_true] using h1.1.1.2)
        have c2 := cont 2 (by simpa only [Bool.and_eq_true] using h1.1.2)
        have c3 := cont 3 (by simpa only [Bool.and_eq_true] using h1.2)
        split
        · refine ⟨by show pos + 4 ≤ _; omega, fun j h2 h3 => ?_⟩
          have h3' : j < pos + 4 := h3
          rcases (show j = pos ∨ j = pos + 1 ∨ j = pos + 2 ∨ j = pos + 3 by omega) with rfl | rfl | rfl | rfl
          · exact h0
          · exact c1.2
          · exact c2.2
          · exact c3.2
        · exact one
      · exact one
end Go.Proofs.YtkedjlekeohpaaaGreatDoor.K

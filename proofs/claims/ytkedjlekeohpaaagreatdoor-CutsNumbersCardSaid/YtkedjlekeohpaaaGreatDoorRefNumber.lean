/- toolchestref07.Number, over lists of bytes alone. -/
import Derived.Test.YtkedjlekeohpaaaGreatDoorQx1
import Derived.Test.YtkedjlekeohpaaaGreatDoorCNumber
import Derived.Test.YtkedjlekeohpaaaGreatDoorSpl
import Derived.Test.YtkedjlekeohpaaaGreatDoorEvs
set_option linter.unusedVariables false
set_option linter.unusedSimpArgs false
namespace Go.Proofs.YtkedjlekeohpaaaGreatDoor.P
open Go.RowKit Go.Proofs.YtkedjlekeohpaaaGreatDoor.Q Go.Proofs.YtkedjlekeohpaaaGreatDoor.H Go.Proofs.YtkedjlekeohpaaaGreatDoor.C Go.Proofs.YtkedjlekeohpaaaGreatDoor.S Go.Proofs.YtkedjlekeohpaaaGreatDoorW.PrintWords Go.Proofs.YtkedjlekeohpaaaGreatDoorW.PrintLast

theorem append_bytes (a b : ByteArray) : (a ++ b).data.toList = a.data.toList ++ b.data.toList := by
  rw [ByteArray.data_append, Array.toList_append]
theorem digit_piece : ∀ a, a < 10 → (⟨#[48, 49, 50, 51, 52, 53, 54, 55, 56, 57]⟩ : ByteArray).extract a (a + 1) = ⟨#[UInt8.ofNat (48 + a)]⟩ := by decide +kernel
theorem dec_short (n : Nat) (h : n < 10000000000) : (Lib.decDigits n).length ≤ 10 := by
  rw [Lib.decDigits_length]
  have h1 : ∀ k, ∀ n, n < 10 ^ (k + 1) → Lib.nDigits n ≤ k + 1 := by
    intro k
    induction k with
    | zero => intro n h; rw [Lib.nDigits_small (by simpa using h)]; exact Nat.le_refl _
    | succ k ih =>
      intro n h
      by_cases h9 : n < 10
      · rw [Lib.nDigits_small h9]; omega
      · rw [Lib.nDigits_big h9]
        have := ih (n / 10) (by rw [Nat.pow_succ] at h; omega)
        omega
  exact h1 9 n (by simpa using h)
theorem digits_f (n : Nat) (hn : n < 10000000000) : Ev (fun k => toolchestref07_digits.f k (n : Int)) (dig n) := by
  induction n using Nat.strongRecOn with
  | ind n ih =>
    by_cases h : n < 10
    · have e : dig n = ⟨#[UInt8.ofNat (48 + n)]⟩ := by unfold dig; rw [Lib.decDigits_one h]
      have w1 := wrap_one n (by omega)
      rw [e]
      refine Ev.now fun k => ?_
      simp only [toolchestref07_digits.f]
      rw [if_pos (by omega), if_pos (nat_nn n), w1, if_pos (by omega), if_pos (by omega), Int.toNat_natCast, Int.toNat_natCast, digit_piece n h]
    · have h2 := ih (n / 10) (by omega) (by omega)
      have e : dig n = dig (n / 10) ++ ⟨#[UInt8.ofNat (48 + n % 10)]⟩ := by
        apply ext_bytes
        rw [append_bytes, dig_toList, dig_toList]
        conv => lhs; rw [Lib.decDigits, dif_neg h]
      have t1 : Int.tdiv (n : Int) 10 = ((n / 10 : Nat) : Int) := rfl
      have t2 : Int.tmod (n : Int) 10 = ((n % 10 : Nat) : Int) := rfl
      have w1 : wrap64 ((n / 10 : Nat) : Int) = ((n / 10 : Nat) : Int) := by unfold wrap64; omega
      have w2 := wrap_one (n % 10) (by omega)
      have hz : (dig (n / 10)).size ≤ 10 := by rw [Lib.size_eq, dig_toList]; exact dec_short _ (by omega)
      rw [e]
      refine Ev.next h2 fun k hk => ?_
      simp only [toolchestref07_digits.f]
      rw [if_neg (by omega), t1, t2, w1, hk, Option.bind_some, if_pos (nat_nn _), w2, if_pos (by omega), if_pos (by omega), Int.toNat_natCast, Int.toNat_natCast, digit_piece _ (by omega), if_pos (by show _ + 1 ≤ _; omega)]
theorem spaces_succ (m : Nat) (x : ByteArray) : spaces (m + 1) ++ x = spaces m ++ (⟨#[32]⟩ ++ x) := by
  apply ext_bytes
  rw [append_bytes, append_bytes, append_bytes]
  simp [spaces, List.replicate_succ']
theorem spaces_zero (x : ByteArray) : spaces 0 ++ x = x := by
  apply ext_bytes
  rw [append_bytes]
  simp [spaces]
theorem num_pad (l : List ByteArray) (F Wd i : Nat) (acc R : List ByteArray) (hi : i < l.length) (hil : i ≤ 9000000) (hW : Wd ≤ 32) (hs : l[i].size ≤ 140737488351232) (hacc : acc.length ≤ 9000000) (m : Nat) : ∀ (x : ByteArray), x.size + m ≤ 100 → Wd - x.size = m →
    Ev (fun k => toolchestref07_Number.l0 k l (F : Int) (Wd : Int) (acc ++ [spaces m ++ x ++ ⟨#[9]⟩ ++ l[i]]) ((i + 1 : Nat) : Int)) R → Ev (fun k => toolchestref07_Number.l1 k l (F : Int) (Wd : Int) acc (i : Int) x) R := by
  induction m with
  | zero =>
    intro x h1 h2 h3
    rw [spaces_zero] at h3
    have hr := rdOf_at l i hi
    have hw := wrap_one i (by omega)
    obtain ⟨y, hy⟩ : ∃ y, l[i] = y := ⟨_, rfl⟩
    rw [hy] at hr h3 hs
    have hsum : (x ++ (⟨#[9]⟩ : ByteArray)).size + y.size ≤ 9223372036854775807 := by
      rw [ByteArray.size_append]
      show x.size + 1 + _ ≤ _
      omega
    refine Ev.step h3 fun k hk => ?_
    simp only [toolchestref07_Number.l1]
    have c1 : ¬ (x.size : Int) < (Wd : Int) := by omega
    have c2 : x.size + 1 ≤ 9223372036854775807 := by omega
    have c3 : acc.length < 8796093022208 := by omega
    rw [if_neg c1, if_pos c2, if_pos (nat_nn i), if_pos (nat_lt hi), hr, if_pos hsum, if_pos c3, hw]
    exact hk
  | succ m ih =>
    intro x h1 h2 h3
    rw [spaces_succ] at h3
    have hz : ((⟨#[32]⟩ : ByteArray) ++ x).size = x.size + 1 := by rw [ByteArray.size_append]; show 1 + _ = _; omega
    obtain ⟨y, hy⟩ : ∃ y, (⟨#[32]⟩ : ByteArray) ++ x = y := ⟨_, rfl⟩
    rw [hy] at h3 hz
    have h := ih y (by omega) (by omega) h3
    refine Ev.step h fun k hk => ?_
    simp only [toolchestref07_Number.l1]
    have c1 : (x.size : Int) < (Wd : Int) := by omega
    have c2 : 1 + x.size ≤ 9223372036854775807 := by omega
    rw [if_pos c1, if_pos c2, hy]
    exact hk
theorem num_l0 (l : List ByteArray) (F Wd : Nat) (hF : F ≤ 2147483647) (hW : Wd ≤ 32) (hl : l.length ≤ 2000000) (hs : ∀ s ∈ l, s.size ≤ 140737488351232) (m : Nat) : ∀ (i : Nat), i + m = l.length →
    Ev (fun k => toolchestref07_Number.l0 k l (F : Int) (Wd : Int) (numL Wd F (l.take i)) (i : Int)) (numL Wd F l) := by
  induction m with
  | zero =>
    intro i hi
    obtain rfl : i = l.length := by omega
    rw [List.take_length]
    refine Ev.now fun k => ?_
    simp only [toolchestref07_Number.l0]
    rw [if_neg (by omega)]
  | succ m ihm =>
    intro i hi
    have hlt : i < l.length := by omega
    have ih := ihm (i + 1) (by omega)
    have e : numL Wd F (l.take (i + 1)) = numL Wd F (l.take i) ++ [spaces (Wd - (dig (F + i)).size) ++ dig (F + i) ++ ⟨#[9]⟩ ++ l[i]] := by
      rw [List.take_succ_eq_append_getElem hlt, num_snoc, List.length_take, Nat.min_eq_left (by omega)]
      rfl
    rw [e] at ih
    have hd : (dig (F + i)).size ≤ 10 := by rw [Lib.size_eq, dig_toList]; exact dec_short _ (by omega)
    have hp := num_pad l F Wd i (numL Wd F (l.take i)) _ hlt (by omega) hW (hs _ (List.getElem_mem hlt)) (by rw [num_len, List.length_take]; omega) _ (dig (F + i)) (by omega) rfl ih
    have hw := wrap_add F i (by omega)
    obtain ⟨k0, hk⟩ := Ev.and (digits_f (F + i) (by omega)) hp
    refine ⟨k0 + 1, fun k hk1 => ?_⟩
    obtain ⟨j, rfl⟩ : ∃ j, k = j + 1 := ⟨k - 1, by omega⟩
    obtain ⟨a1, a2⟩ := hk j (by omega)
    simp only [toolchestref07_Number.l0]
    rw [if_pos (nat_lt hlt), hw, a1, Option.bind_some]
    exact a2
theorem mxmn (a m : Int) : mx 0 (mn a m) = clampI a m := by
  unfold mx mn clampI
  split <;> split <;> omega
theorem ref_number_f (l : List ByteArray) (a b : Int) (F Wd : Nat) (hF : clampI a 2147483647 = (F : Int)) (hWd : clampI b 32 = (Wd : Int)) (hl : l.length ≤ 2000000) (hs : ∀ s ∈ l, s.size ≤ 140737488351232) : Ev (fun k => toolchestref07_Number.f k l a b) (numL Wd F l) := by
  have f1 : F ≤ 2147483647 := by unfold clampI at hF; omega
  have w1 : Wd ≤ 32 := by unfold clampI at hWd; omega
  have h := num_l0 l F Wd f1 w1 hl hs l.length 0 (by omega)
  refine h.map fun k hk => ?_
  simp only [toolchestref07_Number.f]
  rw [mxmn, mxmn, hF, hWd]
  exact hk
end Go.Proofs.YtkedjlekeohpaaaGreatDoor.P

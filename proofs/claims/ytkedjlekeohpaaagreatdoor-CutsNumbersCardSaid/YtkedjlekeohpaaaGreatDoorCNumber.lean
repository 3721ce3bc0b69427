/- cuts.Number: lines with their numbers. -/
import Derived.Test.YtkedjlekeohpaaaGreatDoorRep
import Derived.Test.YtkedjlekeohpaaaGreatDoorBoxApp
import Derived.Test.YtkedjlekeohpaaaGreatDoorEnvW
import Derived.Test.YtkedjlekeohpaaaGreatDoorShelf
import Derived.WalkLawsBesides
import Derived.Lib.AppendIntMem
set_option linter.unusedVariables false
set_option linter.unusedSimpArgs false
namespace Go.Proofs.YtkedjlekeohpaaaGreatDoor.C
open Go.RowKit Go.Proofs Go.Proofs.YtkedjlekeohpaaaGreatDoor.H Go.Proofs.YtkedjlekeohpaaaGreatDoor.B Go.Proofs.YtkedjlekeohpaaaGreatDoorW.PrintWords

/-- The digits of a number. -/
def dig (n : Nat) : ByteArray := ⟨(Lib.decDigits n).toArray⟩
theorem dig_toList (n : Nat) : (dig n).data.toList = Lib.decDigits n := by simp [dig]
theorem dec_len : ∀ n : Nat, (Lib.decDigits n).length ≤ n + 1 := by
  intro n
  induction n using Nat.strongRecOn with
  | ind n ih =>
    rw [Lib.decDigits]
    split
    · simp
    · have := ih (n / 10) (by omega)
      simp
      omega
theorem dig_size (n : Nat) : (dig n).size ≤ n + 1 := by rw [Lib.size_eq, dig_toList]; exact dec_len n
theorem itoa_calls (x : Int) (n : Nat) (hx : x = (n : Int)) (w : World) (hn : n ≤ 4611686018427387904) (ht : Lib.TabIs Tryz.prog w "internal/strconv.uint64pow10" .u64 Lib.pow10Tab) :
    Calls Tryz.prog 16 #[.int .i64 x] w fun e w' => e = .returned (.string (dig n)) ∧ Below w.heap.size w w' := by
  subst hx
  refine (Tryz.strconv_Itoa n (by omega) (by omega) w ht).mono ?_
  rintro e w' ⟨rfl, k, os, rfl⟩
  refine ⟨?_, Lib.below_grow w.heap.size w (Nat.le_refl _) k os⟩
  have : Lib.itoa (n : Int) = Lib.decDigits n := by unfold Lib.itoa; rw [if_neg (by omega)]; rfl
  rw [this]; rfl
theorem str_add (T : TypeId) (a b : ByteArray) (h : a.size + b.size ≤ 9223372036854775807) : binOp .add T (.string a) (.string b) = pure (.string (a ++ b)) := by
  simp only [binOp, Op.stringOp]
  rw [if_neg]
  rw [show IntKind.i64.max = 9223372036854775807 from rfl]
  omega
/-- A line with its number. -/
def lineN (n wd : Nat) (s : ByteArray) : ByteArray := spaces (wd - (dig n).size) ++ dig n ++ ⟨#[9]⟩ ++ s
def numL (wd : Nat) : Nat → List ByteArray → List ByteArray
  | _, [] => []
  | n, s :: l => lineN n wd s :: numL wd (n + 1) l
theorem num_snoc (wd : Nat) (s : ByteArray) : ∀ (l : List ByteArray) (n : Nat), numL wd n (l ++ [s]) = numL wd n l ++ [lineN (n + l.length) wd s]
  | [], n => rfl
  | x :: l, n => by
    have e : n + (x :: l).length = n + 1 + l.length := by simp; omega
    rw [e, List.cons_append]
    simp only [numL, num_snoc wd s l (n + 1), List.cons_append]
theorem num_len (wd : Nat) : ∀ (l : List ByteArray) (n : Nat), (numL wd n l).length = l.length
  | [], _ => rfl
  | x :: l, n => by simp [numL, num_len wd l (n + 1)]
def clampI (x m : Int) : Int := max 0 (min x m)
set_option maxHeartbeats 2000000 in
set_option maxRecDepth 100000 in
theorem number_calls (A : Option Addr) (c : Nat) (l : List ByteArray) (from_ wide : Int) (F Wd : Nat) (hF : clampI from_ 2147483647 = (F : Int)) (hWd : clampI wide 32 = (Wd : Int)) (w : World) (ht : Lib.TabIs Tryz.prog w "internal/strconv.uint64pow10" .u64 Lib.pow10Tab) (hr : Kd.C Kd.string w A l.length l) (hcl : l.length ≤ c) (hl : l.length ≤ 2000000) (hsz : ∀ s ∈ l, s.size ≤ 140737488351232) :
    Calls Tryz.prog 8 #[.slice A l.length c, .int .i64 from_, .int .i64 wide] w fun e w' => ∃ v, e = .returned v ∧ w'.ownsRow w.heap.size 9 1 v l.length (strs (numL Wd F l)) ∧ Below w.heap.size w w' := by
  obtain ⟨i0, hi, hz0, hz1, hz2⟩ := info_parts infoS
  have HR := Lib.hid hr
  have HT := Lib.hid ht
  have HF : Hid (max 0 (min from_ 2147483647) = (F : Int)) := Lib.hid hF
  have HW : Hid (max 0 (min wide 32) = (Wd : Int)) := Lib.hid hWd
  have f1 : F ≤ 2147483647 := by unfold clampI at hF; omega
  have w1 : Wd ≤ 32 := by unfold clampI at hWd; omega
  have HSZ := Lib.hid hsz
  clear hr ht hF hWd hsz
  go_enter Tryz.func8, Tryz.ntmps8
  go_wp2
  rw [HF.out, HW.out]
  go_loopw [6, 18] (fun v i wr => ∃ k : Nat, k ≤ l.length ∧ i = .int .i64 k ∧ Hid (wr.ownsRow w.heap.size 9 1 v k (strs (numL Wd F (l.take k))) ∧ Below w.heap.size w wr)) (fun _ i _ => l.length - (intOf i).toNat)
  case atStart => exact ⟨0, Nat.zero_le _, rfl, Lib.hid ⟨World.ownsRow_nil _ _ _ _, Below.refl _ _⟩⟩
  case round =>
    obtain ⟨k, hk, rfl, hrr⟩ := hrel
    obtain ⟨ba, bc, hb⟩ := own_slice hrr.out.1
    subst hb
    by_cases hlt : k < l.length
    · obtain ⟨ad, hA, hcell⟩ := C_at HR.out hrr.out.2 k hlt
      subst hA
      have hq : wrap64 ((F : Int) + (k : Int)) = ((F + k : Nat) : Int) := by unfold wrap64; omega
      have HQ := Lib.hid hq
      have HT1 := Lib.hid (TabIs_below (g := 0) (by kernel_rfl) HT.out hrr.out.2)
      have hzw := hrr.out.2.size
      clear hq
      go_wp2_with fail
      refine (itoa_calls _ (F + k) (by first | omega | exact HQ.out) _ (by omega) HT1.out).mono ?_
      rintro e w2 ⟨rfl, hb2⟩
      have hds := dig_size (F + k)
      obtain ⟨D, hD⟩ : ∃ D, dig (F + k) = D := ⟨_, rfl⟩
      rw [hD] at hds ⊢
      have HD := Lib.hid hD
      have HR2 := Lib.hid (And.intro (pw_own_below hrr.out.1 hb2) (bth hrr.out.2 hb2))
      have hz2' := hb2.size
      have hm : max (0 : Int) (wrap64 ((Wd : Int) - (D.size : Int))) = ((Wd - D.size : Nat) : Int) := by unfold wrap64; omega
      have HM := Lib.hid hm
      clear hb2 hm hD hrr
      go_wp2_with fail
      refine (rep_calls _ (Wd - D.size) (by first | exact HM.out | omega) _ (by omega)).mono ?_
      rintro e w3 ⟨rfl, hb3⟩
      have HR3 := Lib.hid (And.intro (pw_own_below HR2.out.1 hb3) (bth HR2.out.2 hb3))
      have hz3 := hb3.size
      have hlk := HSZ.out l[k] (List.getElem_mem hlt)
      have hsp := spaces_size (Wd - D.size)
      have hst := Lib.hid (show strs (numL Wd F (l.take (k + 1))) = strs (numL Wd F (l.take k)) ++ [.string (spaces (Wd - D.size) ++ D ++ ⟨#[9]⟩ ++ l[k])] by
        rw [List.take_succ_eq_append_getElem hlt, num_snoc, List.length_take, Nat.min_eq_left (by omega), strs_append]
        unfold lineN
        rw [HD.out]
        rfl)
      obtain ⟨SP, hSP⟩ : ∃ SP, spaces (Wd - D.size) = SP := ⟨_, rfl⟩
      rw [hSP] at hsp hst ⊢
      have hc1 := fun (T : TypeId) => str_add T SP D (by omega)
      have hc2 := fun (T : TypeId) => str_add T (SP ++ D) ⟨#[9]⟩ (by rw [ByteArray.size_append]; show _ + 1 ≤ _; omega)
      have hc3 := fun (T : TypeId) => str_add T (SP ++ D ++ ⟨#[9]⟩) l[k] (by rw [ByteArray.size_append, ByteArray.size_append]; show _ + 1 + _ ≤ _; omega)
      clear hb3 HR2 hsp hSP
      go_wp2_with (at_builtin; refine wpList_append_own _ rfl _ _ 22 rfl w.heap.size 9 i0 (.string ⟨#[]⟩) 1 16 Tryz.underlying22 hi hz0 hz1 hz2 rfl (by decide) _ _ _ rfl (HR3.out.1.alloc _) ⟨w3.heap.size, 0, none⟩ 1 1 [.string (SP ++ D ++ ⟨#[9]⟩ ++ l[k])] rfl rfl (cell_one_new _ _ _) (by simp [Value.oneCell']) (by unfold maxLen; omega) (by omega) (by simp; omega) ?_)
      intro v4 w4 hown4 hg4 _
      have H4 := Lib.hid (And.intro hown4 (b_own (bal HR3.out.2 (.cells #[.string (SP ++ D ++ ⟨#[9]⟩ ++ l[k])] 9)) (HR3.out.1.alloc _) hg4))
      clear hown4 hg4 hc1 hc2 hc3
      go_wp2
      go_roundw
      case rel => exact ⟨k + 1, by omega, by go_num, Lib.hid ⟨by rw [hst.out]; exact H4.out.1, H4.out.2⟩⟩
      case measure => simp [intOf]; omega
    · obtain rfl : k = l.length := by omega
      rw [List.take_length] at hrr
      go_wp2
      go_ret
      exact ⟨_, rfl, hrr.out.1, hrr.out.2⟩
end Go.Proofs.YtkedjlekeohpaaaGreatDoor.C

/- ViewsSums: the reference's sum and dump; the walk of the law. -/
import Derived.Test.YthkaekeelokajaaDoorQx1
import Derived.Test.YthkaekeelokajaaDoorEvs
import Derived.Test.YthkaekeelokajaaDoorVSum
import Derived.Test.YthkaekeelokajaaDoorVDump2
import Derived.Test.YthkaekeelokajaaDoorVApp
import Derived.Test.YthkaekeelokajaaDoorVEnv
import Derived.Deep.RegionHeld3
set_option linter.unusedVariables false
set_option linter.unusedSimpArgs false
namespace Go.Proofs.YthkaekeelokajaaDoor.P
open Go.RowKit Go.Proofs Go.Proofs.YthkaekeelokajaaDoor.Q Go.Proofs.YthkaekeelokajaaDoor.H Go.Proofs.YthkaekeelokajaaDoor.C Go.Proofs.YthkaekeelokajaaDoor.Crc Go.Proofs.YthkaekeelokajaaDoor.Oct Go.Proofs.YthkaekeelokajaaDoorW.PrintWords Go.Proofs.YthkaekeelokajaaDoorW.PrintLast

theorem further_loop : ∀ (d i : Nat) (X : BitVec 32), i + d = 8 → Ev (fun k => toolchestref08_further.l0 k (X.toNat : Int) (i : Int)) ((stN d X).toNat : Int)
  | 0, i, X, h => by
    obtain rfl : i = 8 := by omega
    refine Ev.now fun k => ?_
    rw [toolchestref08_further.l0, if_neg (by omega)]
    rfl
  | d + 1, i, X, h => by
    refine (further_loop d (i + 1) (st X) (by omega)).step fun k hk => ?_
    have hx := X.isLt
    have hs := shl32 X 1
    rw [show (2 : Int) ^ 1 = 2 from rfl] at hs
    have ht := step32 X
    have hw : wrap64 ((i : Int) + 1) = ((i + 1 : Nat) : Int) := by unfold wrap64; omega
    rw [toolchestref08_further.l0, if_pos (by omega), hw]
    by_cases h1 : (X.toNat : Int) / 2147483648 = 1
    · rw [if_pos h1]
      rw [h1, show (1 : Int) * 79764919 % 4294967296 = 79764919 from rfl] at ht
      rw [ht]
      exact hk
    · have h0 : (X.toNat : Int) / 2147483648 = 0 := by omega
      rw [if_neg h1]
      rw [h0, show (0 : Int) * 79764919 % 4294967296 = ((0#32).toNat : Int) from rfl, hs, xor32, BitVec.xor_zero] at ht
      rw [hs, ht]
      exact hk
theorem further_f (X : BitVec 32) (c : UInt8) : Ev (fun k => toolchestref08_further.f k (X.toNat : Int) (c.toNat : Int)) ((fu X c).toNat : Int) := by
  have h := further_loop 8 0 (X ^^^ BitVec.ofNat 32 (c.toNat * 2 ^ 24)) rfl
  have e : Go.bits .xor .u32 (X.toNat : Int) ((((c.toNat : Int)) % 4294967296) * 16777216 % 4294967296) = ((X ^^^ BitVec.ofNat 32 (c.toNat * 2 ^ 24)).toNat : Int) := by
    rw [← xor32, ofNat_small _ (by have := c.toNat_lt; omega)]
    congr 1
    have := c.toNat_lt
    omega
  unfold toolchestref08_further.f
  rw [e]
  exact h
theorem further_calls (X : BitVec 32) (c : UInt8) (w : World) : Calls Tryd.prog 76 #[.int .u32 (X.toNat : Int), .int .u8 (c.toNat : Int)] w fun e w' => e = .returned (.int .u32 ((fu X c).toNat : Int)) ∧ Drawn0 w w' := by
  obtain ⟨k, hk⟩ := (further_f X c).at_
  exact toolchestref08_further.calls k _ _ _ w hk
set_option maxHeartbeats 2000000 in
set_option maxRecDepth 100000 in
theorem refSum_calls (s : ByteArray) (hs : s.size ≤ 100000000) (w : World) : Calls Tryd.prog 23 #[.string s] w fun e w' => e = .returned (.int .u32 ((sumL s.data.toList).toNat : Int)) ∧ Below w.heap.size w w' := by
  have hsl : s.data.toList.length = s.size := (Lib.size_eq s).symm
  have HSL := Lib.hid hsl
  have hs0 : (0 : Int) ≤ (s.size : Int) := by omega
  clear hsl
  go_enter Tryd.func23, Tryd.ntmps23
  go_wp2
  go_loopw [3, 4] (fun x i wr => ∃ k : Nat, k ≤ s.size ∧ i = .int .i64 (k : Int) ∧ x = .int .u32 ((run 0#32 (s.data.toList.take k)).toNat : Int) ∧ Hid (Below w.heap.size w wr)) (fun _ i _ => s.size - (intOf i).toNat)
  case atStart => exact ⟨0, Nat.zero_le _, rfl, by simp [run], Lib.hid (Below.refl _ _)⟩
  case round =>
    obtain ⟨k, hk, rfl, rfl, hb⟩ := hrel
    by_cases hlt : k < s.size
    · have hlt' : k < s.data.toList.length := by rw [HSL.out]; exact hlt
      have hrun := Lib.hid (show run 0#32 (s.data.toList.take (k + 1)) = fu (run 0#32 (s.data.toList.take k)) s[k] by
        rw [List.take_succ_eq_append_getElem hlt', run_append]; rfl)
      obtain ⟨X, hX⟩ : ∃ X, run 0#32 (s.data.toList.take k) = X := ⟨_, rfl⟩
      rw [hX] at hrun ⊢
      clear hX
      go_wp2_with fail
      refine (further_calls X s[k] _).mono ?_
      rintro e w1 ⟨rfl, hd⟩
      have B1 := Lib.hid (bth hb.out hd.below)
      clear hd
      go_wp2
      go_roundw
      case rel => exact ⟨k + 1, by omega, by go_num, by rw [hrun.out], B1⟩
      case measure => simp [intOf]; omega
    · obtain rfl : k = s.size := by omega
      have e : s.data.toList.take s.size = s.data.toList := List.take_of_length_le (by rw [HSL.out]; omega)
      rw [e]
      clear e
      go_wp2
      go_loopw [3, 5] (fun x i wr => ∃ n : Nat, n ≤ s.size ∧ i = .int .i64 (n : Int) ∧ ∃ X : BitVec 32, x = .int .u32 (X.toNat : Int) ∧ Hid (Below w.heap.size w wr ∧ run X (lenBytes n) = run 0#32 (s.data.toList ++ lenBytes s.size))) (fun _ i _ => (intOf i).toNat)
      case atStart => exact ⟨s.size, Nat.le_refl _, rfl, _, rfl, Lib.hid ⟨hb.out, by rw [run_append]⟩⟩
      case round =>
        obtain ⟨n, hn, rfl, X, rfl, hr⟩ := hrel
        by_cases hp : 0 < n
        · obtain ⟨c, hc⟩ : ∃ c, UInt8.ofNat (n % 256) = c := ⟨_, rfl⟩
          have hcn : ((n : Int) % 256) = (c.toNat : Int) := by rw [← hc]; simp
          have HC := Lib.hid (And.intro hc hcn)
          clear hc hcn
          go_wp2_with fail
          rw [HC.out.2]
          refine (further_calls X c _).mono ?_
          rintro e w1 ⟨rfl, hd⟩
          have B1 := Lib.hid (And.intro (bth hr.out.1 hd.below) (show run (fu X c) (lenBytes (n / 256)) = run 0#32 (s.data.toList ++ lenBytes s.size) by rw [← hr.out.2, lenBytes_pos n hp, HC.out.1]; rfl))
          clear hd
          go_wp2
          go_roundw
          case rel => exact ⟨n / 256, by omega, by go_num, fu X c, rfl, B1⟩
          case measure => simp [intOf]; omega
        · obtain rfl : n = 0 := by omega
          have hx : X = run 0#32 (s.data.toList ++ lenBytes s.size) := by
            have := hr.out.2
            rw [lenBytes_zero] at this
            exact this
          subst hx
          go_wp2
          go_ret
          exact ⟨(sum_end _ _).trans (by rw [← HSL.out]; rfl), hr.out.1⟩
theorem oct_piece (n : Nat) (s : List UInt8) : ((⟨#[48, 49, 50, 51, 52, 53, 54, 55]⟩ : ByteArray).extract (n % 8) (n % 8 + 1)) ++ (⟨s.toArray⟩ : ByteArray) = ⟨(dg n :: s).toArray⟩ ∧ ((⟨#[48, 49, 50, 51, 52, 53, 54, 55]⟩ : ByteArray).extract (n % 8) (n % 8 + 1)).size = 1 := by
  have h : ∀ d : Nat, d < 8 → ((⟨#[48, 49, 50, 51, 52, 53, 54, 55]⟩ : ByteArray).extract d (d + 1)) = ⟨#[dg d]⟩ := by decide +kernel
  rw [h (n % 8) (by omega), ← dg_mod]
  exact ⟨bt_app [dg n] s, rfl⟩
theorem oct_round (n wide : Nat) (s : List UInt8) (k : Nat) (hn : n < 8 ^ 14) (hs : s.length ≤ 9000000000000) :
    (if 0 ≤ (Int.tmod (n : Int) 8) then (if (Int.tmod (n : Int) 8) ≤ (wrap64 ((Int.tmod (n : Int) 8) + 1)) then (if (wrap64 ((Int.tmod (n : Int) 8) + 1)) ≤ 8 then (if ((⟨#[48, 49, 50, 51, 52, 53, 54, 55]⟩ : ByteArray).extract ((Int.tmod (n : Int) 8) : Int).toNat ((wrap64 ((Int.tmod (n : Int) 8) + 1)) : Int).toNat).size + (⟨s.toArray⟩ : ByteArray).size ≤ 9223372036854775807 then (toolchestref08_octal.l0 k (wrap64 (Int.tdiv (n : Int) 8)) (wide : Int) (((⟨#[48, 49, 50, 51, 52, 53, 54, 55]⟩ : ByteArray).extract ((Int.tmod (n : Int) 8) : Int).toNat ((wrap64 ((Int.tmod (n : Int) 8) + 1)) : Int).toNat) ++ (⟨s.toArray⟩ : ByteArray))) else (none)) else (none)) else (none)) else (none)) =
      toolchestref08_octal.l0 k ((n / 8 : Nat) : Int) (wide : Int) ⟨(dg n :: s).toArray⟩ := by
  have hn0 : n < 4398046511104 := by simpa using hn
  have e1 : Int.tmod (n : Int) 8 = ((n % 8 : Nat) : Int) := by rw [Int.tmod_eq_emod_of_nonneg (by omega)]; omega
  have e2 : wrap64 (((n % 8 : Nat) : Int) + 1) = ((n % 8 + 1 : Nat) : Int) := by unfold wrap64; omega
  have e3 : wrap64 (Int.tdiv (n : Int) 8) = ((n / 8 : Nat) : Int) := by rw [Int.tdiv_eq_ediv_of_nonneg (by omega)]; unfold wrap64; omega
  obtain ⟨p1, p2⟩ := oct_piece n s
  rw [e1, e2, e3, Int.toNat_natCast, Int.toNat_natCast, if_pos (by omega), if_pos (by omega), if_pos (by omega), p1, p2, if_pos (by rw [bt_size]; omega)]
theorem oct_loop (wide : Nat) : ∀ (f n : Nat) (s : List UInt8), n + (wide - s.length) ≤ f → n < 8 ^ 14 → s.length + f ≤ 9000000000000 →
    Ev (fun k => toolchestref08_octal.l0 k (n : Int) (wide : Int) ⟨s.toArray⟩) ⟨((if 0 < n ∨ 0 < wide - s.length then octP n (wide - s.length) else []) ++ s).toArray⟩
  | 0, n, s, h1, h2, h3 => by
    rw [if_neg (by omega)]
    refine Ev.now fun k => ?_
    rw [toolchestref08_octal.l0, if_neg (by omega), if_neg (by rw [bt_size]; omega)]
    rfl
  | f + 1, n, s, h1, h2, h3 => by
    by_cases hc : 0 < n ∨ 0 < wide - s.length
    · have ih := oct_loop wide f (n / 8) (dg n :: s) (by rw [List.length_cons]; omega) (by omega) (by rw [List.length_cons]; omega)
      rw [if_pos hc, octP_step n (wide - s.length), List.append_assoc]
      rw [List.length_cons] at ih
      have e : ((if 0 < n / 8 ∨ 0 < wide - (s.length + 1) then octP (n / 8) (wide - (s.length + 1)) else []) ++ dg n :: s) = ((if 0 < n / 8 ∨ 1 < wide - s.length then octP (n / 8) (wide - s.length - 1) else []) ++ ([dg n] ++ s)) := by
        rw [show wide - (s.length + 1) = wide - s.length - 1 by omega]
        by_cases hq : 0 < n / 8 ∨ 1 < wide - s.length
        · rw [if_pos hq, if_pos (by omega)]; rfl
        · rw [if_neg hq, if_neg (by omega)]; rfl
      rw [e] at ih
      refine ih.step fun k hk => ?_
      rw [toolchestref08_octal.l0]
      by_cases hn : 0 < n
      · rw [if_pos (by omega), oct_round n wide s k h2 (by omega)]
        exact hk
      · rw [if_neg (by omega), if_pos (by rw [bt_size]; omega), oct_round n wide s k h2 (by omega)]
        exact hk
    · rw [if_neg hc]
      refine Ev.now fun k => ?_
      rw [toolchestref08_octal.l0, if_neg (by omega), if_neg (by rw [bt_size]; omega)]
      rfl
theorem refOctal_calls (n wide : Nat) (hn : n < 8 ^ 14) (hw : wide ≤ 1000) (hw0 : 0 < wide) (w : World) : Calls Tryd.prog 82 #[.int .i64 (n : Int), .int .i64 (wide : Int)] w fun e w' => e = .returned (.string ⟨(octP n wide).toArray⟩) ∧ Drawn0 w w' := by
  have hn0 : n < 4398046511104 := by simpa using hn
  have h := oct_loop wide (n + wide) n [] (by simp) hn (by simp; omega)
  rw [if_pos (by simp; omega)] at h
  simp only [List.length_nil, Nat.sub_zero, List.append_nil] at h
  obtain ⟨k, hk⟩ := h.at_
  exact toolchestref08_octal.calls k _ _ _ w hk
theorem DS.all {w : World} {v : Value} {L : List UInt8} {V : World} (h : DS w v L V) : DS w v L V ∧ (convert 53 9 v).run Tryd.prog V = .ok (.string ⟨L.toArray⟩) V := ⟨h, bts_text h.bts⟩
/-- The state of the reference's dump: what has been told; what is left tells the rest. -/
structure DR (w : World) (l : List UInt8) (k : Nat) (v : Value) (L : List UInt8) (W : World) : Prop where
  bts : Bts w.heap.size v L W
  low : Below w.heap.size w W
  eq : L ++ tailR k (l.drop k) = tailR 0 l
  len : L.length ≤ 20 * k
theorem tail_step (l : List UInt8) (k : Nat) (h : k < l.length) : tailR k (l.drop k) = (if k % 16 = 0 then (if 0 < k then [10] else []) ++ octP k 7 else []) ++ (32 :: octP l[k].toNat 3) ++ tailR (k + 1) (l.drop (k + 1)) := by
  rw [List.drop_eq_getElem_cons h]
  rfl
theorem tail_end (l : List UInt8) : tailR l.length (l.drop l.length) = if 0 < l.length then [10] else [] := by
  rw [List.drop_eq_nil_of_le (Nat.le_refl _)]; rfl
set_option maxHeartbeats 4000000 in
set_option maxRecDepth 100000 in
theorem refDump_calls (s : ByteArray) (hs : s.size ≤ 100000000) (w : World) : Calls Tryd.prog 25 #[.string s] w fun e w' => e = .returned (.string ⟨(dumpL s.data.toList).toArray⟩) ∧ Below w.heap.size w w' := by
  have hsl : s.data.toList.length = s.size := (Lib.size_eq s).symm
  have HSL := Lib.hid hsl
  have hs0 : (0 : Int) ≤ (s.size : Int) := by omega
  have hp8 : (8 : Nat) ^ 14 = 4398046511104 := rfl
  have HO7 := Lib.hid (show ∀ (k : Nat) (W : World), k ≤ 100000000 → Calls Tryd.prog 82 #[.int .i64 (k : Int), .int .i64 7] W fun e w' => e = .returned (.string ⟨(octP k 7).toArray⟩) ∧ Below W.heap.size W w' from fun k W h => (refOctal_calls k 7 (by omega) (by decide) (by decide) W).mono fun e w' q => ⟨q.1, q.2.below⟩)
  have HO3 := Lib.hid (show ∀ (k : Nat) (W : World), k ≤ 100000000 → Calls Tryd.prog 82 #[.int .i64 (k : Int), .int .i64 3] W fun e w' => e = .returned (.string ⟨(octP k 3).toArray⟩) ∧ Below W.heap.size W w' from fun k W h => (refOctal_calls k 3 (by omega) (by decide) (by decide) W).mono fun e w' q => ⟨q.1, q.2.below⟩)
  have HP8 := Lib.hid hp8
  clear hsl hp8
  go_enter Tryd.func25, Tryd.ntmps25
  go_wp2
  go_loopw [3, 4] (fun v i wr => ∃ (k : Nat) (L : List UInt8), k ≤ s.size ∧ i = .int .i64 (k : Int) ∧ Hid (DR w s.data.toList k v L wr)) (fun _ i _ => s.size - (intOf i).toNat)
  case atStart => exact ⟨0, [], Nat.zero_le _, rfl, Lib.hid ⟨Bts.nil _ _, Below.refl _ _, by simp, by simp⟩⟩
  case round =>
    obtain ⟨k, L, hk, rfl, hr⟩ := hrel
    by_cases hlt : k < s.size
    · have hlt' : k < s.data.toList.length := by rw [HSL.out]; exact hlt
      have hst := Lib.hid (tail_step s.data.toList k hlt')
      have hcb : (s[k].toNat : Int) ≤ 255 := by have := s[k].toNat_lt; omega
      have hcb0 : 0 ≤ (s[k].toNat : Int) := by omega
      have ho3 := oct_len 3 s[k].toNat (by have := s[k].toNat_lt; omega) (by decide)
      have ho7 := oct_len 14 k (by have := HP8.out; omega) (by decide)
      have hadd := fun t => (show binOp .add t (.string ⟨#[32]⟩) (.string ⟨(octP s[k].toNat 3).toArray⟩) = pure (.string ⟨(32 :: octP s[k].toNat 3).toArray⟩) from bt_add [32] (octP s[k].toNat 3) t (by rw [octP_len, List.length_singleton]; omega))
      have HOL := Lib.hid (And.intro ho3 ho7)
      clear ho3 ho7
      have DL := Lib.hid (show DS w u3 L wr from ⟨hr.out.bts, hr.out.low⟩)
      have hlen := hr.out.len
      have HLEN := Lib.hid hlen
      clear hlen
      by_cases h16 : k % 16 = 0
      · have h16b : ((k : Int) % 16 == 0) = true := by rw [beq_iff_eq]; omega
        by_cases hk0 : 0 < k
        · obtain ⟨L1, hL1⟩ : ∃ L1, L ++ [10] = L1 := ⟨_, rfl⟩
          obtain ⟨L2, hL2⟩ : ∃ L2, L1 ++ (⟨(octP k 7).toArray⟩ : ByteArray).data.toList = L2 := ⟨_, rfl⟩
          have HL1 := Lib.hid (And.intro hL1 (show L1.length = L.length + 1 by rw [← hL1]; simp))
          have HL2e := Lib.hid hL2
          have HL2 := Lib.hid (show L2.length ≤ 20 * k + 15 ∧ (L ++ ((if k % 16 = 0 then (if 0 < k then [10] else []) ++ octP k 7 else []) ++ (32 :: octP s[k].toNat 3) ++ tailR (k + 1) (s.data.toList.drop (k + 1)))) = L2 ++ ((32 :: octP s[k].toNat 3) ++ tailR (k + 1) (s.data.toList.drop (k + 1))) by
            rw [← hL2, ← hL1, if_pos h16, if_pos hk0]
            refine ⟨?_, by simp⟩
            have h1 := HOL.out; have h2 := HLEN.out
            rw [List.length_append, List.length_append, List.length_singleton]
            have h3 := octP_len k 7
            show _ + (octP k 7).length ≤ _
            omega)
          clear hL1 hL2
          go_wp2_with (at_builtin; go_loud (refine app_lit wr w.heap.size rfl (.tmp 16) (.tmp 17) rfl u3 L L1 10 HL1.out.1 10 rfl rfl rfl DL.out.bts DL.out.low.size (by have := HLEN.out; omega) ?_))
          intro v1 w1 hb1 hg1
          have D1 := Lib.hid (DL.out.app hb1 hg1)
          clear hb1 hg1
          go_wp2_with fail
          refine (HO7.out k _ (by omega)).mono ?_
          rintro e w2 ⟨rfl, hb2⟩
          have D1b := Lib.hid (D1.out.below hb2)
          clear hb2
          go_wp2_with (at_builtin; go_loud (refine app_str w2 w.heap.size rfl (.tmp 19) (.tmp 22) rfl v1 L1 L2 ⟨(octP k 7).toArray⟩ HL2e.out rfl _ rfl D1b.out.bts D1b.out.low.size (by rw [bt_size, octP_len]; have := HOL.out; have := HLEN.out; have := HL1.out.2; omega) ?_))
          intro v2 w2b hb2 hg2
          have D2 := Lib.hid (D1b.out.app hb2 hg2)
          clear hb2 hg2
          go_wp2_with fail
          refine (HO3.out s[k].toNat _ (by have := s[k].toNat_lt; omega)).mono ?_
          rintro e w3 ⟨rfl, hb3⟩
          have D3 := Lib.hid (D2.out.below hb3)
          clear hb3
          obtain ⟨L3, hL3⟩ : ∃ L3, L2 ++ (⟨(32 :: octP s[k].toNat 3).toArray⟩ : ByteArray).data.toList = L3 := ⟨_, rfl⟩
          have HL3 := Lib.hid hL3
          clear hL3
          go_wp2_with (at_builtin; go_loud (refine app_str w3 w.heap.size rfl (.tmp 24) (.tmp 31) rfl v2 L2 L3 ⟨(32 :: octP s[k].toNat 3).toArray⟩ HL3.out rfl _ rfl D3.out.bts D3.out.low.size (by rw [bt_size, List.length_cons, octP_len]; have := HOL.out; have := HL2.out.1; omega) ?_))
          intro v4 w4 hb4 hg4
          have D4 := Lib.hid (D3.out.app hb4 hg4)
          clear hb4 hg4
          go_wp2
          go_roundw
          case rel =>
            refine ⟨k + 1, L3, by omega, by go_num, Lib.hid ⟨D4.out.bts, D4.out.low, ?_, ?_⟩⟩
            · rw [← hr.out.eq, hst.out, ← HL3.out]
              refine Eq.trans ?_ HL2.out.2.symm
              simp only [List.append_assoc]
            · rw [← HL3.out, List.length_append]
              have h1 : (⟨(32 :: octP s[k].toNat 3).toArray⟩ : ByteArray).data.toList.length = (octP s[k].toNat 3).length + 1 := rfl
              rw [h1, octP_len]
              have := HOL.out; have := HL2.out.1; omega
          case measure => simp [intOf]; omega
        · obtain ⟨L2, hL2⟩ : ∃ L2, L ++ (⟨(octP k 7).toArray⟩ : ByteArray).data.toList = L2 := ⟨_, rfl⟩
          have HL2e := Lib.hid hL2
          have HL2 := Lib.hid (show L2.length ≤ 20 * k + 15 ∧ (L ++ ((if k % 16 = 0 then (if 0 < k then [10] else []) ++ octP k 7 else []) ++ (32 :: octP s[k].toNat 3) ++ tailR (k + 1) (s.data.toList.drop (k + 1)))) = L2 ++ ((32 :: octP s[k].toNat 3) ++ tailR (k + 1) (s.data.toList.drop (k + 1))) by
            rw [← hL2, if_pos h16, if_neg hk0]
            refine ⟨?_, by simp⟩
            have h1 := HOL.out; have h2 := HLEN.out
            rw [List.length_append]
            have h3 := octP_len k 7
            show _ + (octP k 7).length ≤ _
            omega)
          clear hL2
          go_wp2_with fail
          refine (HO7.out k _ (by omega)).mono ?_
          rintro e w2 ⟨rfl, hb2⟩
          have D1b := Lib.hid (DL.out.below hb2)
          clear hb2
          go_wp2_with (at_builtin; go_loud (refine app_str w2 w.heap.size rfl (.tmp 19) (.tmp 22) rfl u3 L L2 ⟨(octP k 7).toArray⟩ HL2e.out rfl _ rfl D1b.out.bts D1b.out.low.size (by rw [bt_size, octP_len]; have := HOL.out; have := HLEN.out; omega) ?_))
          intro v2 w2b hb2 hg2
          have D2 := Lib.hid (D1b.out.app hb2 hg2)
          clear hb2 hg2
          go_wp2_with fail
          refine (HO3.out s[k].toNat _ (by have := s[k].toNat_lt; omega)).mono ?_
          rintro e w3 ⟨rfl, hb3⟩
          have D3 := Lib.hid (D2.out.below hb3)
          clear hb3
          obtain ⟨L3, hL3⟩ : ∃ L3, L2 ++ (⟨(32 :: octP s[k].toNat 3).toArray⟩ : ByteArray).data.toList = L3 := ⟨_, rfl⟩
          have HL3 := Lib.hid hL3
          clear hL3
          go_wp2_with (at_builtin; go_loud (refine app_str w3 w.heap.size rfl (.tmp 24) (.tmp 31) rfl v2 L2 L3 ⟨(32 :: octP s[k].toNat 3).toArray⟩ HL3.out rfl _ rfl D3.out.bts D3.out.low.size (by rw [bt_size, List.length_cons, octP_len]; have := HOL.out; have := HL2.out.1; omega) ?_))
          intro v4 w4 hb4 hg4
          have D4 := Lib.hid (D3.out.app hb4 hg4)
          clear hb4 hg4
          go_wp2
          go_roundw
          case rel =>
            refine ⟨k + 1, L3, by omega, by go_num, Lib.hid ⟨D4.out.bts, D4.out.low, ?_, ?_⟩⟩
            · rw [← hr.out.eq, hst.out, ← HL3.out]
              refine Eq.trans ?_ HL2.out.2.symm
              simp only [List.append_assoc]
            · rw [← HL3.out, List.length_append]
              have h1 : (⟨(32 :: octP s[k].toNat 3).toArray⟩ : ByteArray).data.toList.length = (octP s[k].toNat 3).length + 1 := rfl
              rw [h1, octP_len]
              have := HOL.out; have := HL2.out.1; omega
          case measure => simp [intOf]; omega
      · have h16b : ((k : Int) % 16 == 0) = false := by rw [beq_eq_false_iff_ne]; omega
        have D2 := Lib.hid DL.out
        have HL2 := Lib.hid (show L.length ≤ 20 * k + 15 ∧ (L ++ ((if k % 16 = 0 then (if 0 < k then [10] else []) ++ octP k 7 else []) ++ (32 :: octP s[k].toNat 3) ++ tailR (k + 1) (s.data.toList.drop (k + 1)))) = L ++ ((32 :: octP s[k].toNat 3) ++ tailR (k + 1) (s.data.toList.drop (k + 1))) by
          rw [if_neg h16]
          exact ⟨by have := HLEN.out; omega, by simp⟩)
        go_wp2_with fail
        refine (HO3.out s[k].toNat _ (by have := s[k].toNat_lt; omega)).mono ?_
        rintro e w3 ⟨rfl, hb3⟩
        have D3 := Lib.hid (D2.out.below hb3)
        clear hb3
        obtain ⟨L3, hL3⟩ : ∃ L3, L ++ (⟨(32 :: octP s[k].toNat 3).toArray⟩ : ByteArray).data.toList = L3 := ⟨_, rfl⟩
        have HL3 := Lib.hid hL3
        clear hL3
        go_wp2_with (at_builtin; go_loud (refine app_str w3 w.heap.size rfl (.tmp 24) (.tmp 31) rfl u3 L L3 ⟨(32 :: octP s[k].toNat 3).toArray⟩ HL3.out rfl _ rfl D3.out.bts D3.out.low.size (by rw [bt_size, List.length_cons, octP_len]; have := HOL.out; have := HL2.out.1; omega) ?_))
        intro v4 w4 hb4 hg4
        have D4 := Lib.hid (D3.out.app hb4 hg4)
        clear hb4 hg4
        go_wp2
        go_roundw
        case rel =>
          refine ⟨k + 1, L3, by omega, by go_num, Lib.hid ⟨D4.out.bts, D4.out.low, ?_, ?_⟩⟩
          · rw [← hr.out.eq, hst.out, ← HL3.out]
            refine Eq.trans ?_ HL2.out.2.symm
            simp only [List.append_assoc]
          · rw [← HL3.out, List.length_append]
            have h1 : (⟨(32 :: octP s[k].toNat 3).toArray⟩ : ByteArray).data.toList.length = (octP s[k].toNat 3).length + 1 := rfl
            rw [h1, octP_len]
            have := HOL.out; have := HL2.out.1; omega
        case measure => simp [intOf]; omega
    · obtain rfl : k = s.size := by omega
      have hos := oct_len 14 s.size (by have := HP8.out; omega) (by decide)
      have HOS := Lib.hid hos
      have HOQ := Lib.hid (fun W => HO7.out s.size W hs)
      have hte := tail_end s.data.toList
      rw [HSL.out] at hte
      have heq := hr.out.eq
      rw [hte, ref_dump] at heq
      have hlen := hr.out.len
      have DL := Lib.hid (show DS w u3 L wr from ⟨hr.out.bts, hr.out.low⟩)
      clear hos hte
      by_cases hp : 0 < s.size
      · rw [if_pos hp] at heq
        obtain ⟨L1, hL1⟩ : ∃ L1, L ++ [10] = L1 := ⟨_, rfl⟩
        have HE1 := Lib.hid hL1
        have HX1 := Lib.hid (And.intro (show L1.length ≤ 2000000001 by rw [← hL1, List.length_append, List.length_singleton]; omega) (show L1 = rows 0 s.data.toList by rw [← hL1]; exact heq))
        clear hL1 heq hlen
        go_wp2_with (at_builtin; go_loud (refine app_lit wr w.heap.size rfl (.tmp 36) (.tmp 37) rfl u3 L L1 10 HE1.out 10 rfl rfl rfl DL.out.bts DL.out.low.size (by have := HX1.out.1; have := congrArg List.length HE1.out; rw [List.length_append, List.length_singleton] at this; omega) ?_))
        intro v1 w1 hb1 hg1
        have DD := Lib.hid (DL.out.app hb1 hg1)
        clear hb1 hg1
        go_wp2
        have HEND := Lib.hid (show Ending.returned (Value.string (⟨(L1 ++ (octP s.size 7 ++ [10])).toArray⟩ : ByteArray)) = Ending.returned (Value.string (⟨(dumpL s.data.toList).toArray⟩ : ByteArray)) by rw [HX1.out.2]; unfold dumpL; rw [HSL.out, List.append_assoc])
        have HD := Lib.hid (show DS w v1 L1 _ from DD.out)
        have hadd1 := fun t => bt_add L1 (octP s.size 7) t (by rw [octP_len]; have := HX1.out.1; have := HOS.out; omega)
        have hadd2 := fun t => (show binOp .add t (.string ⟨(L1 ++ octP s.size 7).toArray⟩) (.string ⟨#[10]⟩) = pure (.string ⟨(L1 ++ octP s.size 7 ++ [10]).toArray⟩) from bt_add (L1 ++ octP s.size 7) [10] t (by rw [List.length_append, octP_len, List.length_singleton]; have := HX1.out.1; have := HOS.out; omega))
        go_region_held3 (fun V => DS w v1 L1 V ∧ (convert 53 9 v1).run Tryd.prog V = .ok (.string ⟨L1.toArray⟩) V) (with_reducible first | assumption | exact DS.all (DS.below (show DS w v1 L1 _ ∧ _ from by assumption).1 hbq) | exact DS.all ((HD.out.below (bdr (Below.refl _ _))).below hbq) | exact DS.all (HD.out.below hbq) | exact DS.all (HD.out.below (bdr (Below.refl _ _))) | exact DS.all HD.out) ((go_at_call 82; with_reducible refine (HOQ.out _).mono ?_; rintro e w' ⟨rfl, hbq⟩))
        all_goals go_wp2
        all_goals go_ret
        all_goals exact ⟨HEND.out, (show DS w v1 L1 _ ∧ _ from by assumption).1.low⟩
      · have hz : s.size = 0 := by omega
        rw [if_neg hp, List.append_nil] at heq
        have HX1 := Lib.hid (And.intro (show L.length ≤ 2000000001 by omega) heq)
        have DD := Lib.hid DL.out
        clear heq hlen hz
        go_wp2
        have HEND := Lib.hid (show Ending.returned (Value.string (⟨(L ++ (octP s.size 7 ++ [10])).toArray⟩ : ByteArray)) = Ending.returned (Value.string (⟨(dumpL s.data.toList).toArray⟩ : ByteArray)) by rw [HX1.out.2]; unfold dumpL; rw [HSL.out, List.append_assoc])
        have HD := Lib.hid (show DS w u3 L _ from DD.out)
        have hadd1 := fun t => bt_add L (octP s.size 7) t (by rw [octP_len]; have := HX1.out.1; have := HOS.out; omega)
        have hadd2 := fun t => (show binOp .add t (.string ⟨(L ++ octP s.size 7).toArray⟩) (.string ⟨#[10]⟩) = pure (.string ⟨(L ++ octP s.size 7 ++ [10]).toArray⟩) from bt_add (L ++ octP s.size 7) [10] t (by rw [List.length_append, octP_len, List.length_singleton]; have := HX1.out.1; have := HOS.out; omega))
        go_region_held3 (fun V => DS w u3 L V ∧ (convert 53 9 u3).run Tryd.prog V = .ok (.string ⟨L.toArray⟩) V) (with_reducible first | assumption | exact DS.all (DS.below (show DS w u3 L _ ∧ _ from by assumption).1 hbq) | exact DS.all ((HD.out.below (bdr (Below.refl _ _))).below hbq) | exact DS.all (HD.out.below hbq) | exact DS.all (HD.out.below (bdr (Below.refl _ _))) | exact DS.all HD.out) ((go_at_call 82; with_reducible refine (HOQ.out _).mono ?_; rintro e w' ⟨rfl, hbq⟩))
        all_goals go_wp2
        all_goals go_ret
        all_goals exact ⟨HEND.out, (show DS w u3 L _ ∧ _ from by assumption).1.low⟩
theorem beyond_one (n : Nat) (h : n ≤ 4611686018427387) : Ev (fun k => toolchestlaw01_Beyond.f k [(n : Int)]) (decide (n > 1048576)) := by
  have w1 : wrap64 (n : Int) = n := by unfold wrap64; omega
  have w2 : wrap64 1 = 1 := by unfold wrap64; omega
  refine ⟨2, fun k hk => ?_⟩
  obtain ⟨j, rfl⟩ : ∃ j, k = j + 1 + 1 := ⟨k - 2, by omega⟩
  simp [toolchestlaw01_Beyond.f, toolchestlaw01_Beyond.l0, rd, w1, w2]
  by_cases h : 1048576 < n
  · rw [if_pos (by omega)]; simp; omega
  · rw [if_neg (by omega)]; simp; omega
set_option maxHeartbeats 2000000 in
set_option maxRecDepth 100000 in
theorem ViewsSums_walk (a0 : ByteArray) (W : World) (hT : TzW W) (ok0 : a0.size ≤ 140737488351232) :
    Calls Tryd.prog 4 #[.string a0] W fun e W' => e = .returned (.bool true) ∧ Below W.heap.size W W' := by
  obtain ⟨kb, hkb⟩ := (beyond_one a0.size (by omega)).at_
  have KB := Lib.hid hkb
  have HT := Lib.hid hT
  clear hkb hT
  by_cases hbig : a0.size > 1048576
  · rw [decide_eq_true hbig] at KB
    go_enter Tryd.func4, Tryd.ntmps4
    go_wp2_with (go_at_call 21; refine (toolchestlaw01_Beyond.calls kb (some ⟨W.heap.size, 0, none⟩) 1 [(a0.size : Int)] true _ (C_ints W .i64 3 [(a0.size : Int)] (by simp)) (Nat.le_refl _) KB.out).mono ?_)
    first | (rintro e w2 rfl hb2) | (rintro e w2 ⟨rfl, hb2⟩)
    go_wp2
    go_ret
    exact ⟨rfl, bth (bal (Below.refl _ _) _) hb2.below⟩
  · rw [decide_eq_false hbig] at KB
    have hs0 : a0.size ≤ 100000000 := by omega
    have HS := Lib.hid (fun w => sum_calls a0 hs0 w)
    have HD := Lib.hid (fun w h => dump_calls a0 hs0 w h)
    have HRS := Lib.hid (fun w => refSum_calls a0 hs0 w)
    have HRD := Lib.hid (fun w => refDump_calls a0 hs0 w)
    obtain ⟨X, hX⟩ : ∃ X, ((sumL a0.data.toList).toNat : Int) = X := ⟨_, rfl⟩
    obtain ⟨Y, hY⟩ : ∃ Y, (⟨(dumpL a0.data.toList).toArray⟩ : ByteArray) = Y := ⟨_, rfl⟩
    rw [hX] at HS HRS
    rw [hY] at HD HRD
    clear hX hY hbig
    go_enter Tryd.func4, Tryd.ntmps4
    go_wp2_with (go_at_call 21; refine (toolchestlaw01_Beyond.calls kb (some ⟨W.heap.size, 0, none⟩) 1 [(a0.size : Int)] false _ (C_ints W .i64 3 [(a0.size : Int)] (by simp)) (Nat.le_refl _) KB.out).mono ?_)
    first | (rintro e w2 rfl hb2) | (rintro e w2 ⟨rfl, hb2⟩)
    have B2 := Lib.hid (bth (bal (Below.refl _ _) _) hb2.below)
    clear hb2
    go_wp2_with fail
    refine (HS.out _).mono ?_
    rintro e w3 ⟨rfl, hb3⟩
    have B3 := Lib.hid (bth B2.out hb3)
    clear hb3
    go_wp2_with fail
    refine (HRS.out _).mono ?_
    rintro e w4 ⟨rfl, hb4⟩
    have B4 := Lib.hid (bth B3.out hb4)
    clear hb4
    go_wp2_with fail
    refine (HD.out _ (HT.out.below B4.out)).mono ?_
    rintro e w5 ⟨rfl, hb5⟩
    have B5 := Lib.hid (bth B4.out hb5)
    clear hb5
    go_wp2_with fail
    refine (HRD.out _).mono ?_
    rintro e w6 ⟨rfl, hb6⟩
    have B6 := Lib.hid (bth B5.out hb6)
    clear hb6
    go_wp2
    go_ret
    exact ⟨rfl, B6.out⟩
end Go.Proofs.YthkaekeelokajaaDoor.P

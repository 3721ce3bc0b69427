/- SortsRuns: the walk of the law. -/
import Derived.Test.YtaekgfmcelckoaaDoorRunsLaw
set_option linter.unusedVariables false
set_option linter.unusedSimpArgs false
namespace Go.Proofs.YtaekgfmcelckoaaDoor.P
open Go.RowKit Go.Proofs Go.Proofs.YtaekgfmcelckoaaDoor.Q Go.Proofs.YtaekgfmcelckoaaDoor.H Go.Proofs.YtaekgfmcelckoaaDoor.K Go.Proofs.YtaekgfmcelckoaaDoor.S Go.Proofs.YtaekgfmcelckoaaDoorW.PrintWords Go.Proofs.YtaekgfmcelckoaaDoorW.PrintLast

set_option maxHeartbeats 1000000 in
set_option maxRecDepth 100000 in
theorem SortsRuns_walk (A0 : Option Addr) (z0 : Nat) (l0 : List ByteArray) (a1 : Int) (a2 : Int) (W : World) (hr0 : Kd.C Kd.string W A0 l0.length l0) (hc0 : l0.length ≤ z0) (ok0 : (∀ a ∈ l0, a.size ≤ 140737488351232) ∧ l0.length * 16 ≤ 140737488351232) (ok1 : (Lit.int .i64 a1).wf = true) (ok2 : (Lit.int .i64 a2).wf = true) :
    Calls Tryd.prog 3 #[.slice A0 l0.length z0, .int .i64 a1, .int .i64 a2] W fun e W' => e = .returned (.bool true) ∧ Below W.heap.size W W' := by
  have hf1 : -9223372036854775808 ≤ a1 ∧ a1 ≤ 9223372036854775807 := by simpa [Lit.wf, IntKind.min, IntKind.max, IntKind.signed, IntKind.bits] using ok1
  have HR := Lib.hid hr0
  obtain ⟨r, hts, r0, r1, r2⟩ := textsSize_tells l0 ok0.1 (by omega)
  obtain ⟨n, rfl⟩ := Int.eq_ofNat_of_zero_le r0
  obtain ⟨kb, hkb⟩ := (beyond_one n (by omega)).at_
  have HTS := Lib.hid hts
  have HTN := Lib.hid r2
  clear hr0 hts r2 ok0 ok1 ok2 r0
  obtain ⟨bg, hbg⟩ : ∃ bg, decide (n > 1048576) = bg := ⟨_, rfl⟩
  rw [hbg] at hkb
  have HKB := Lib.hid hkb
  clear hkb
  go_enter Tryd.func3, Tryd.ntmps3
  go_wp2_with fail
  with_reducible refine (toolchestlaw01_TextsSize.calls (l0.length + 1) A0 z0 l0 (n : Int) _ HR.out hc0 HTS.out).mono ?_
  first | (rintro e w2 rfl hb2) | (rintro e w2 ⟨rfl, hb2⟩)
  have B2 := Lib.hid hb2.below
  clear hb2
  go_wp2_with fail
  refine (toolchestlaw01_Beyond.calls kb (some ⟨w2.heap.size, 0, none⟩) 1 [(n : Int)] bg _ (C_ints w2 .i64 3 [(n : Int)] (by simp)) (Nat.le_refl _) HKB.out).mono ?_
  first | (rintro e w3 rfl hb3) | (rintro e w3 ⟨rfl, hb3⟩)
  have B3 := Lib.hid (bth B2.out (bth (bal (Below.refl _ _) _) hb3.below))
  clear hb3
  cases bg with
  | true =>
    go_wp2
    go_ret
    exact ⟨rfl, B3.out⟩
  | false =>
    have hn2 : n ≤ 1048576 := by have := of_decide_eq_false hbg; omega
    have htn := texts_bound l0 (by have := HTN.out (by omega); omega)
    have hll := htn.1
    have hmt : ∀ s ∈ l0, s.size ≤ 100000000 := fun s hs => Nat.le_trans (htn.2 s hs) (by decide)
    clear hbg hn2 r1
    have HTW := Lib.hid (fun w h => twinTexts A0 z0 l0 w h hc0 (by omega))
    have HMT := Lib.hid (And.intro hmt hf1)
    clear hmt hf1 htn
    go_wp2_with fail
    with_reducible refine (HTW.out _ (Kd.C_below HR.out B3.out)).mono ?_
    rintro e w4 ⟨gt, ct, rfl, ho4, hb4⟩
    have B4 := Lib.hid (bth B3.out hb4)
    have O4 := Lib.hid ho4
    have hct : l0.length ≤ ct := by have := (twin_cap ho4).1; omega
    have C4 := Lib.hid (show Kd.C Kd.string w4 (some ⟨gt, 0, none⟩) l0.length l0 by have := C_of_own ho4 l0.length (by simp); simpa using this)
    clear hb4 ho4
    have HRN := Lib.hid (fun w h => runs_calls (some ⟨gt, 0, none⟩) ct l0 a1 a2 HMT.out.2 w h hct (by omega) HMT.out.1)
    have HRF := Lib.hid (fun w h => refRuns_calls A0 z0 l0 a1 a2 HMT.out.2 w h hc0 (by omega) HMT.out.1)
    have hrl := runsN_len a1 a2 l0 l0.length
    have HNUM := Lib.hid (runsN_num a1 a2 l0 l0.length)
    obtain ⟨R, hR⟩ : ∃ R, runsN a1 a2 l0 l0.length = R := ⟨_, rfl⟩
    rw [hR] at HRN HRF hrl HNUM
    clear hR
    go_wp2_with fail
    with_reducible refine (HRN.out _ C4.out).mono ?_
    rintro e w5 ⟨va, rfl, ho5, hb5⟩
    have B5 := Lib.hid (bth B4.out hb5)
    have O5 := Lib.hid (And.intro (pw_own_below O4.out hb5) ho5)
    have C5 := Lib.hid (Kd.C_below C4.out hb5)
    clear hb5 ho5
    go_wp2_with fail
    with_reducible refine (HRN.out _ C5.out).mono ?_
    rintro e w6 ⟨vb, rfl, ho6, hb6⟩
    have B6 := Lib.hid (bth B5.out hb6)
    have O6 := Lib.hid (And.intro (pw_own_below O5.out.1 hb6) (And.intro (pw_own_below O5.out.2 hb6) ho6))
    have z56 := Lib.hid hb6.size
    clear hb6 ho6
    go_wp2_with fail
    with_reducible refine (HRF.out _ (Kd.C_below HR.out B6.out)).mono ?_
    rintro e w7 ⟨vw, rfl, ho7, hb7⟩
    have B7 := Lib.hid (bth B6.out hb7)
    have O7 := Lib.hid (And.intro (pw_own_below O6.out.1 hb7) (And.intro (pw_own_below O6.out.2.1 hb7) (And.intro (pw_own_below O6.out.2.2 hb7) ho7)))
    have z67 := Lib.hid hb7.size
    clear hb7 ho7
    obtain ⟨Aa, ca, rfl⟩ := own_sliceN O7.out.2.1
    obtain ⟨Ab, cb, rfl⟩ := own_sliceN O7.out.2.2.1
    obtain ⟨Aw, cw, rfl⟩ := own_sliceN O7.out.2.2.2
    have hne : ((R.length : Int) != (R.length : Int)) = false := by simp
    go_wp2_with fail
    with_reducible refine (leftTexts gt ct w3.heap.size A0 z0 l0 _ (Kd.C_below HR.out B7.out) hc0 O7.out.1).mono ?_
    rintro e w8 ⟨rfl, hb8⟩
    have B8 := Lib.hid (bth B7.out hb8)
    have O8 := Lib.hid (And.intro (pw_own_below O7.out.2.1 hb8) (And.intro (pw_own_below O7.out.2.2.1 hb8) (pw_own_below O7.out.2.2.2 hb8)))
    have HW4 := Lib.hid (show W.heap.size ≤ w4.heap.size from B4.out.size)
    clear hb8
    go_wp2
    go_loopw [11] (fun i wr => ∃ k : Nat, k ≤ R.length ∧ i = .int .i64 (k : Int) ∧ Hid (RL W w8 w4.heap.size (.slice Aa R.length ca) R k wr)) (fun i _ => R.length - (intOf i).toNat)
    case atStart => exact ⟨0, Nat.zero_le _, rfl, Lib.hid ⟨O8.out.1, B8.out, fun _ _ _ => rfl⟩⟩
    case round =>
      obtain ⟨k, hk, rfl, hst⟩ := hrel
      by_cases hlt : k < R.length
      · obtain ⟨ga, xa, ea, ha1, -, -, -⟩ := own_formN hst.out.own (by omega)
        obtain ⟨ga', xa', ea', -, ha2, -, -⟩ := own_formN O5.out.2 (by omega)
        obtain ⟨gb, xb, eb, hb1, hb2, -, -⟩ := own_formN O8.out.2.1 (by omega)
        obtain ⟨gw, xw, ew, hw1, hw2, -, -⟩ := own_formN O8.out.2.2 (by omega)
        rw [ea] at ea'
        injection ea with ea1 _ ea3
        injection ea' with ea4 _ ea6
        injection eb with eb1 _ eb3
        injection ew with ew1 _ ew3
        have hgg : ga = ga' := by simpa using ea4
        subst hgg
        subst ea1 eb1 ew1; clear ea3 eb3 ew3 ea6
        obtain ⟨c0, c1, f0, f1, f2⟩ := hst.out.cells hlt
        obtain ⟨x0, x1⟩ := flatR_get R k hlt
        have b0 := O8.out.2.1.cells (g := gb) rfl (k * 2) _ x0
        have b1 := O8.out.2.1.cells (g := gb) rfl (k * 2 + 1) _ x1
        have q0 := O8.out.2.2.cells (g := gw) rfl (k * 2) _ x0
        have q1 := O8.out.2.2.cells (g := gw) rfl (k * 2 + 1) _ x1
        rw [add_plain] at b0 b1 q0 q1
        have fb := hst.out.far gb hb2 (by simp [Value.ownBlock]; omega)
        have fw := hst.out.far gw hw2 (by have := z56.out; simp [Value.ownBlock]; omega)
        rw [← World.cell?_of_block (w' := wr) (w := w8) (a := ⟨gb, k * 2, none⟩) fb] at b0
        rw [← World.cell?_of_block (w' := wr) (w := w8) (a := ⟨gb, k * 2 + 1, none⟩) fb] at b1
        rw [← World.cell?_of_block (w' := wr) (w := w8) (a := ⟨gw, k * 2, none⟩) fw] at q0
        rw [← World.cell?_of_block (w' := wr) (w := w8) (a := ⟨gw, k * 2 + 1, none⟩) fw] at q1
        have HB := Lib.hid (Nat.le_trans HW4.out ha1)
        generalize R[k].1 = x at c0 b0 q0
        generalize R[k].2 = m at c1 b1 q1
        clear x0 x1 fb fw
        go_wp2_with fail
        go_quiet (fail)
        have HQ : RL W w8 w4.heap.size (.slice (some ⟨ga, 0, none⟩) R.length _) R k (wr.drewN nq) := ⟨pw_own_below hst.out.own (bdn (Below.refl wr.heap.size wr) nq), bdn hst.out.low nq, hst.out.far⟩
        obtain ⟨d0, d1, g0, g1, g2⟩ := HQ.cells hlt
        have NEW := Lib.hid (RL.step HQ hlt HB.out)
        clear HQ c0 c1 f0 f1 f2 b0 b1 q0 q1
        generalize wr.drewN nq = wq at d0 d1 g0 g1 g2 NEW ⊢
        go_wp2
        go_roundw
        case rel => exact ⟨k + 1, hlt, by go_num, NEW⟩
        case measure => simp [intOf]; omega
      · obtain rfl : k = R.length := by omega
        have HST := Lib.hid hst.out
        go_wp2
        go_loopw [12] (fun i wr => ∃ k : Nat, k ≤ R.length ∧ i = .int .i64 (k : Int) ∧ Hid (RL W w8 w4.heap.size (.slice Aa R.length ca) R R.length wr)) (fun i _ => R.length - (intOf i).toNat)
        case atStart => exact ⟨0, Nat.zero_le _, rfl, HST⟩
        case round =>
          obtain ⟨k, hk, rfl, hsj⟩ := hrel
          by_cases hlt : k < R.length
          · obtain ⟨ga, xa, ea, ha1, -, -, -⟩ := own_formN hsj.out.own (by omega)
            obtain ⟨ga', xa', ea', -, ha2, -, -⟩ := own_formN O5.out.2 (by omega)
            obtain ⟨gb, xb, eb, hb1, hb2, -, -⟩ := own_formN O8.out.2.1 (by omega)
            rw [ea] at ea'
            injection ea with ea1 _ ea3
            injection ea' with ea4 _ ea6
            injection eb with eb1 _ eb3
            have hgg : ga = ga' := by simpa using ea4
            subst hgg
            subst ea1 eb1; clear ea3 eb3 ea6
            obtain ⟨x0, x1⟩ := flatR_get R k hlt
            have b1 := O8.out.2.1.cells (g := gb) rfl (k * 2 + 1) _ x1
            rw [add_plain] at b1
            have fb := hsj.out.far gb hb2 (by simp [Value.ownBlock]; omega)
            rw [← World.cell?_of_block (w' := wr) (w := w8) (a := ⟨gb, k * 2 + 1, none⟩) fb] at b1
            have hm1 := (HNUM.out R[k] (List.getElem_mem hlt)).1
            generalize R[k].2 = m at b1 hm1
            clear x0 x1 fb
            have e1 : ((m : Int) == 0) = false := beq_eq_false_iff_ne.2 (by omega)
            have e2 : decide ((m : Int) = 0) = false := decide_eq_false (by omega)
            have e3 : decide (m = 0) = false := decide_eq_false (by omega)
            have e4 : ¬ m = 0 := by omega
            go_wp2
            go_roundw
            case rel => exact ⟨k + 1, hlt, by go_num, hsj⟩
            case measure => simp [intOf]; omega
          · obtain rfl : k = R.length := by omega
            go_wp2
            go_ret
            exact ⟨rfl, hsj.out.low⟩
end Go.Proofs.YtaekgfmcelckoaaDoor.P

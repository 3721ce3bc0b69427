/- SortsRunsBack: the walk of the law. -/
import Derived.Test.YtaekgfmcelckoaaDoorSBack
import Derived.Deep.RegionHeld3
import Derived.BigQuiet
import Derived.Laws.IdiomStrings
set_option linter.unusedVariables false
set_option linter.unusedSimpArgs false
namespace Go.Proofs.YtaekgfmcelckoaaDoor.P
open Go.RowKit Go.Proofs Go.Proofs.YtaekgfmcelckoaaDoor.Q Go.Proofs.YtaekgfmcelckoaaDoor.H Go.Proofs.YtaekgfmcelckoaaDoor.K Go.Proofs.YtaekgfmcelckoaaDoor.S Go.Proofs.YtaekgfmcelckoaaDoorW.PrintWords Go.Proofs.YtaekgfmcelckoaaDoorW.PrintLast

theorem start_of {f b : Int} {l : List ByteArray} {S : List RN} (h : runsN f b l l.length = S) : ∀ (i : Nat) (hi : i < S.length), ∃ hp : totR (S.take i) < l.length, l[totR (S.take i)] = S[i].1 := by subst h; exact start_at f b l
theorem back_of {l : List ByteArray} {S : List RN} (h : runsN 0 0 l l.length = S) : ∀ (i : Nat) (hi : i + 1 < S.length), S[i + 1].1 ≠ S[i].1 := by subst h; exact back_at l
theorem expand_le (R : List RN) (i : Nat) (h : i < R.length) : (expandR (R.take i)).length + R[i].2 ≤ (expandR R).length := by
  have e : expandR R = expandR (R.take (i + 1)) ++ expandR (R.drop (i + 1)) := by rw [← expand_app, List.take_append_drop]
  have e2 := expand_take R i h
  rw [e, e2, List.length_append, List.length_append, List.length_replicate]
  omega
def RunsIn (W : World) (A : Option Addr) (R : List RN) : Prop := ∀ V, Below W.heap.size W V → ∀ i (h : i < R.length), ∃ g, A = some ⟨g, 0, none⟩ ∧ V.cell? ⟨g, i * 2, none⟩ = some (.string R[i].1) ∧ V.cell? ⟨g, i * 2 + 1, none⟩ = some (.int .i64 (R[i].2 : Int))
theorem runs_rd (A : Option Addr) (c : Nat) (l : List ByteArray) (f b : Int) (R : List RN) (hR : runsN f b l l.length = R) (hf : -9223372036854775808 ≤ f ∧ f ≤ 9223372036854775807) (w : World) (hr : Kd.C Kd.string w A l.length l) (hc : l.length ≤ c) (hl : l.length ≤ 2000000) (hs : ∀ s ∈ l, s.size ≤ 100000000) :
    Calls Tryd.prog 13 #[.slice A l.length c, .int .i64 f, .int .i64 b] w fun e w' => (∃ A' c', e = .returned (.slice A' R.length c') ∧ RunsIn w' A' R) ∧ Below w.heap.size w w' := by
  refine (runs_calls A c l f b hf w hr hc hl hs).mono ?_
  rw [hR]
  rintro e w' ⟨v, rfl, ho, hb⟩
  obtain ⟨A', c', rfl⟩ := own_sliceN ho
  refine ⟨⟨A', c', rfl, fun V hV i hi => ?_⟩, hb⟩
  obtain ⟨g, cap, e, h1, h2, h3, h4⟩ := own_formN ho (by omega)
  injection e with e1 _ _
  subst e1
  obtain ⟨x0, x1⟩ := flatR_get R i hi
  have c0 := ho.cells (g := g) rfl (i * 2) _ x0
  have c1 := ho.cells (g := g) rfl (i * 2 + 1) _ x1
  rw [add_plain] at c0 c1
  exact ⟨g, rfl, pw_cell_below hV c0, pw_cell_below hV c1⟩
theorem texts_bound (l : List ByteArray) (h : textsN l ≤ 1048576) : l.length ≤ 1048576 ∧ ∀ s ∈ l, s.size ≤ 1048576 := by
  refine ⟨by unfold textsN at h; omega, fun s hs => ?_⟩
  have : ∀ m : List ByteArray, s ∈ m → s.size ≤ textsN m := by
    intro m
    induction m with
    | nil => intro h; cases h
    | cons x m ih =>
      intro h
      have e : textsN (x :: m) = textsN m + (x.size + 1) := by simp [textsN]; omega
      rcases List.mem_cons.1 h with rfl | h
      · omega
      · have := ih h; omega
  have := this l hs
  omega
set_option maxHeartbeats 4000000 in
set_option maxRecDepth 100000 in
theorem SortsRunsBack_walk (A0 : Option Addr) (z0 : Nat) (l0 : List ByteArray) (a1 : Int) (a2 : Int) (W : World) (hr0 : Kd.C Kd.string W A0 l0.length l0) (hc0 : l0.length ≤ z0) (ok0 : (∀ a ∈ l0, a.size ≤ 140737488351232) ∧ l0.length * 16 ≤ 140737488351232) (ok1 : (Lit.int .i64 a1).wf = true) (ok2 : (Lit.int .i64 a2).wf = true) :
    Calls Tryd.prog 7 #[.slice A0 l0.length z0, .int .i64 a1, .int .i64 a2] W fun e W' => e = .returned (.bool true) ∧ Below W.heap.size W W' := by
  have hf1 : -9223372036854775808 ≤ a1 ∧ a1 ≤ 9223372036854775807 := by simpa [Lit.wf, IntKind.min, IntKind.max, IntKind.signed, IntKind.bits] using ok1
  have HAL := Lib.hid (fun w => alive_calls w)
  have HR := Lib.hid hr0
  obtain ⟨r, hts, r0, r1, r2⟩ := textsSize_tells l0 ok0.1 (by omega)
  obtain ⟨n, rfl⟩ := Int.eq_ofNat_of_zero_le r0
  obtain ⟨kb, hkb⟩ := (beyond_one n (by omega)).at_
  have HTS := Lib.hid hts
  have HTN := Lib.hid r2
  clear hr0 hts r2 ok0 ok1 ok2 r0
  obtain ⟨bg, hbg⟩ : ∃ bg, decide (n > 1048576) = bg := ⟨_, rfl⟩
  rw [hbg] at hkb
  have HKB := Lib.hid hkb
  clear hkb
  go_enter Tryd.func7, Tryd.ntmps7
  go_wp2_with fail
  with_reducible refine (HAL.out _).mono ?_
  rintro e w1 ⟨rfl, hb1⟩
  have B1 := Lib.hid hb1
  clear hb1
  go_wp2_with fail
  with_reducible refine (toolchestlaw01_TextsSize.calls (l0.length + 1) A0 z0 l0 (n : Int) _ (Kd.C_below HR.out B1.out) hc0 HTS.out).mono ?_
  first | (rintro e w2 rfl hb2) | (rintro e w2 ⟨rfl, hb2⟩)
  have B2 := Lib.hid (bth B1.out hb2.below)
  clear hb2
  go_wp2_with fail
  refine (toolchestlaw01_Beyond.calls kb (some ⟨w2.heap.size, 0, none⟩) 1 [(n : Int)] bg _ (C_ints w2 .i64 3 [(n : Int)] (by simp)) (Nat.le_refl _) HKB.out).mono ?_
  first | (rintro e w3 rfl hb3) | (rintro e w3 ⟨rfl, hb3⟩)
  have B3 := Lib.hid (bth B2.out (bth (bal (Below.refl _ _) _) hb3.below))
  clear hb3
  cases bg with
  | true =>
    go_wp2_with fail
    with_reducible refine (HAL.out _).mono ?_
    rintro e w9 ⟨rfl, hb9⟩
    have B9 := Lib.hid (bth B3.out hb9)
    clear hb9
    go_wp2
    go_ret
    exact ⟨rfl, B9.out⟩
  | false =>
    have hn2 : n ≤ 1048576 := by have := of_decide_eq_false hbg; omega
    have htn := texts_bound l0 (by have := HTN.out (by omega); omega)
    have hll := htn.1
    have HSS := Lib.hid htn.2
    clear hbg htn hn2 r1
    obtain ⟨R, hR⟩ : ∃ R, runsN 0 0 l0 l0.length = R := ⟨_, rfl⟩
    obtain ⟨S, hS⟩ : ∃ S, runsN a1 a2 l0 l0.length = S := ⟨_, rfl⟩
    have hRn := runsN_num 0 0 l0 l0.length
    have hSn := runsN_num a1 a2 l0 l0.length
    have hRb := back_of hR
    have hRa := back_all l0
    have hSR := runs_len a1 a2 l0 l0.length
    have hSt := start_of hS
    have hSa := tot_all a1 a2 l0
    have hRl := runsN_len 0 0 l0 l0.length
    simp only [hR, hS] at hRn hSn hRa hSR hSa hRl
    have HRN := Lib.hid hRn
    have HSN := Lib.hid hSn
    have HRB := Lib.hid hRb
    have HRA := Lib.hid hRa
    have HSR := Lib.hid hSR
    have HST := Lib.hid hSt
    have HSA := Lib.hid hSa
    have HRL := Lib.hid hRl
    have hmt : ∀ s ∈ l0, s.size ≤ 100000000 := fun s hs => Nat.le_trans (HSS.out s hs) (by decide)
    have HC1 := Lib.hid (fun w h => runs_rd A0 z0 l0 0 0 R hR (by decide) w h hc0 (by omega) hmt)
    have HC2 := Lib.hid (fun w h => runs_rd A0 z0 l0 a1 a2 S hS hf1 w h hc0 (by omega) hmt)
    obtain ⟨ks, hke⟩ := same_ev l0 (by omega)
    have HSM := Lib.hid (fun A c A' c' w h1 h2 h3 h4 => toolchestlaw01_SameTexts.calls ks A c l0 A' c' l0 true w h1 h2 h3 h4 hke)
    have hrl : R.length ≤ 1048576 := Nat.le_trans HRL.out hll
    have hsl : S.length ≤ 1048576 := Nat.le_trans HSR.out hrl
    clear hR hS hRn hSn hRb hRa hSR hSt hSa hRl hmt hke hf1
    go_wp2_with fail
    with_reducible refine (HC1.out _ (Kd.C_below HR.out B3.out)).mono ?_
    rintro e w4 ⟨⟨A4, c4, rfl, hC4⟩, hb4⟩
    have B4 := Lib.hid (bth B3.out hb4)
    have C4 := Lib.hid hC4
    clear hb4 hC4
    go_wp2
    go_loopw [7, 9] (fun v i wr => ∃ k : Nat, k ≤ R.length ∧ i = .int .i64 (k : Int) ∧ Hid (Txs w4.heap.size v (expandR (R.take k)) wr ∧ Below w4.heap.size w4 wr)) (fun _ i _ => R.length - (intOf i).toNat)
    case atStart => exact ⟨0, Nat.zero_le _, rfl, Lib.hid ⟨Txs.nil _ _, Below.refl _ _⟩⟩
    case round =>
      obtain ⟨k, hk, rfl, hst⟩ := hrel
      by_cases hlt : k < R.length
      · obtain ⟨g, rfl, -, -⟩ := C4.out _ hst.out.2 k hlt
        obtain ⟨x, hx⟩ : ∃ x, R[k].1 = x := ⟨_, rfl⟩
        obtain ⟨n1, hn1⟩ : ∃ n1, R[k].2 = n1 := ⟨_, rfl⟩
        have HCE := Lib.hid (show ∀ V, Below w4.heap.size w4 V → V.cell? ⟨g, k * 2, none⟩ = some (.string x) ∧ V.cell? ⟨g, k * 2 + 1, none⟩ = some (.int .i64 (n1 : Int)) from fun V hV => by
          obtain ⟨g', e, h1, h2⟩ := C4.out _ hV k hlt
          obtain rfl : g = g' := by simpa using e
          rw [← hx, ← hn1]
          exact ⟨h1, h2⟩)
        have hnn := HRN.out _ (List.getElem_mem hlt)
        rw [hn1] at hnn
        have HEX := Lib.hid (show expandR (R.take (k + 1)) = expandR (R.take k) ++ List.replicate n1 x by rw [expand_take R k hlt, hx, hn1])
        have HLE := Lib.hid (show (expandR (R.take k)).length + n1 ≤ l0.length by have := expand_le R k hlt; rw [hn1, HRA.out] at this; exact this)
        have d1 : decide ((n1 : Int) < 1) = false := decide_eq_false (by omega)
        have d2 : decide ((l0.length : Int) < (n1 : Int)) = false := decide_eq_false (by omega)
        have d2' : decide (l0.length < n1) = false := decide_eq_false (by omega)
        obtain ⟨x0, x1⟩ := HCE.out _ hst.out.2
        by_cases hk0 : k = 0
        · have d3 : decide ((0 : Int) < (k : Int)) = false := decide_eq_false (by omega)
          have d3' : decide (0 < k) = false := decide_eq_false (by omega)
          clear hx hn1 hk0
          go_wp2_with fail
          go_quiet (fail)
          go_wp2
          go_loopw [7, 10] (fun v i wr => ∃ j : Nat, j ≤ n1 ∧ i = .int .i64 (j : Int) ∧ Hid (Txs w4.heap.size v (expandR (R.take k) ++ List.replicate j x) wr ∧ Below w4.heap.size w4 wr)) (fun _ i _ => n1 - (intOf i).toNat)
          case atStart => exact ⟨0, Nat.zero_le _, rfl, Lib.hid ⟨by rw [List.replicate_zero, List.append_nil]; first | exact hst.out.1.below (bdn (Below.refl _ _) _) | exact hst.out.1.below (bdr (Below.refl _ _)), by first | exact bdn hst.out.2 _ | exact bdr hst.out.2⟩⟩
          case round =>
            obtain ⟨j, hj, rfl, hsj⟩ := hrel
            obtain ⟨v0, v1⟩ := HCE.out _ hsj.out.2
            by_cases hjn : j < n1
            · have f1 : decide ((j : Int) < (n1 : Int)) = true := decide_eq_true (by omega)
              have f2 : decide (j < n1) = true := decide_eq_true hjn
              obtain ⟨L, hL⟩ : ∃ L, expandR (R.take k) ++ List.replicate j x = L := ⟨_, rfl⟩
              have hrev : L ++ [x] = expandR (R.take k) ++ List.replicate (j + 1) x := by rw [← hL, List.replicate_succ', List.append_assoc]
              have hln := Lib.hid (show L.length + 1 ≤ 8000000000000 by have := HLE.out; rw [← hL, List.length_append, List.length_replicate]; omega)
              have HREV := Lib.hid hrev
              rw [hL] at hsj
              clear hrev hL
              go_wp2_with (at_builtin; go_loud (refine app_txt _ w4.heap.size rfl (.tmp 74) (.tmp 80) rfl u7 L (expandR (R.take k) ++ List.replicate (j + 1) x) x HREV.out rfl rfl hsj.out.1 hsj.out.2.size hln.out ?_))
              intro v1 w5 h5 g5
              have D5 := Lib.hid (And.intro h5 (hsj.out.2.grown g5 hsj.out.2.size (fun b hb => own_base hsj.out.1 b hb)))
              clear h5 g5
              go_wp2
              go_roundw
              case rel => exact ⟨j + 1, hjn, by go_num, D5⟩
              case measure => simp [intOf]; omega
            · obtain rfl : j = n1 := by omega
              have f1 : decide ((j : Int) < (j : Int)) = false := decide_eq_false (by omega)
              go_wp2
              go_roundw
              case rel => exact ⟨k + 1, hlt, by go_num, Lib.hid ⟨by rw [HEX.out]; exact hsj.out.1, hsj.out.2⟩⟩
              case measure => simp [intOf]; omega
        · obtain ⟨q, hq⟩ : ∃ q, k = q + 1 := ⟨k - 1, by omega⟩
          have hq1 : (k : Int) - 1 = (q : Int) := by omega
          have hqR : q < R.length := by omega
          obtain ⟨g', e, y0, -⟩ := C4.out _ hst.out.2 q hqR
          obtain rfl : g = g' := by simpa using e
          obtain ⟨y, hy⟩ : ∃ y, R[q].1 = y := ⟨_, rfl⟩
          have hxy : x ≠ y := by
            subst hq
            rw [← hx, ← hy]
            exact HRB.out q hlt
          rw [hy] at y0
          have hwq : IntKind.i64.wrap (q : Int) = (q : Int) := IntWalk.i64_in _ (by omega)
          have d3 : decide ((0 : Int) < (k : Int)) = true := decide_eq_true (by omega)
          have d3' : decide (0 < k) = true := decide_eq_true (by omega)
          have q2 : decide (x = y) = false := decide_eq_false hxy
          have q3' : x.toList ≠ y.toList := fun h => hxy (K.ext_bytes (by rw [← ByteArray.toList_eq, ← ByteArray.toList_eq]; exact h))
          have q3 : decide (x.toList = y.toList) = false := decide_eq_false q3'
          have q4 : (x.toList == y.toList) = false := beq_eq_false_iff_ne.2 q3'
          clear hx hn1 hy hq e
          go_wp2_with fail
          go_quiet (fail)
          go_wp2
          go_loopw [7, 10] (fun v i wr => ∃ j : Nat, j ≤ n1 ∧ i = .int .i64 (j : Int) ∧ Hid (Txs w4.heap.size v (expandR (R.take k) ++ List.replicate j x) wr ∧ Below w4.heap.size w4 wr)) (fun _ i _ => n1 - (intOf i).toNat)
          case atStart => exact ⟨0, Nat.zero_le _, rfl, Lib.hid ⟨by rw [List.replicate_zero, List.append_nil]; first | exact hst.out.1.below (bdn (Below.refl _ _) _) | exact hst.out.1.below (bdr (Below.refl _ _)), by first | exact bdn hst.out.2 _ | exact bdr hst.out.2⟩⟩
          case round =>
            obtain ⟨j, hj, rfl, hsj⟩ := hrel
            obtain ⟨v0, v1⟩ := HCE.out _ hsj.out.2
            by_cases hjn : j < n1
            · have f1 : decide ((j : Int) < (n1 : Int)) = true := decide_eq_true (by omega)
              have f2 : decide (j < n1) = true := decide_eq_true hjn
              obtain ⟨L, hL⟩ : ∃ L, expandR (R.take k) ++ List.replicate j x = L := ⟨_, rfl⟩
              have hrev : L ++ [x] = expandR (R.take k) ++ List.replicate (j + 1) x := by rw [← hL, List.replicate_succ', List.append_assoc]
              have hln := Lib.hid (show L.length + 1 ≤ 8000000000000 by have := HLE.out; rw [← hL, List.length_append, List.length_replicate]; omega)
              have HREV := Lib.hid hrev
              rw [hL] at hsj
              clear hrev hL
              go_wp2_with (at_builtin; go_loud (refine app_txt _ w4.heap.size rfl (.tmp 74) (.tmp 80) rfl u7 L (expandR (R.take k) ++ List.replicate (j + 1) x) x HREV.out rfl rfl hsj.out.1 hsj.out.2.size hln.out ?_))
              intro v1 w5 h5 g5
              have D5 := Lib.hid (And.intro h5 (hsj.out.2.grown g5 hsj.out.2.size (fun b hb => own_base hsj.out.1 b hb)))
              clear h5 g5
              go_wp2
              go_roundw
              case rel => exact ⟨j + 1, hjn, by go_num, D5⟩
              case measure => simp [intOf]; omega
            · obtain rfl : j = n1 := by omega
              have f1 : decide ((j : Int) < (j : Int)) = false := decide_eq_false (by omega)
              go_wp2
              go_roundw
              case rel => exact ⟨k + 1, hlt, by go_num, Lib.hid ⟨by rw [HEX.out]; exact hsj.out.1, hsj.out.2⟩⟩
              case measure => simp [intOf]; omega
      · obtain rfl : k = R.length := by omega
        have hT := hst.out.1
        rw [List.take_length, HRA.out] at hT
        obtain ⟨A7, c7, rfl, hc7, hC7⟩ := hT.reads
        have B5 := Lib.hid (bth B4.out hst.out.2)
        have C7 := Lib.hid hC7
        clear hT hC7 hst
        go_wp2_with fail
        with_reducible refine (HC2.out _ (Kd.C_below HR.out B5.out)).mono ?_
        rintro e w6 ⟨⟨A6, c6, rfl, hC6⟩, hb6⟩
        have B6 := Lib.hid (bth B5.out hb6)
        have C6 := Lib.hid hC6
        have C8 := Lib.hid (Kd.C_below C7.out hb6)
        clear hb6 hC6
        go_wp2
        go_loopw [11, 13] (fun v i wr => ∃ k m : Nat, k ≤ S.length ∧ m ≤ l0.length ∧ v = .int .i64 (m : Int) ∧ i = .int .i64 (k : Int) ∧ Hid (totR (S.take k) = m ∧ Below w6.heap.size w6 wr)) (fun _ i _ => S.length - (intOf i).toNat)
        case atStart => exact ⟨0, 0, Nat.zero_le _, Nat.zero_le _, rfl, rfl, Lib.hid ⟨rfl, Below.refl _ _⟩⟩
        case round =>
          obtain ⟨k, m, hk, hm, rfl, rfl, hst⟩ := hrel
          by_cases hlt : k < S.length
          · obtain ⟨g, rfl, y0, y1⟩ := C6.out _ hst.out.2 k hlt
            have h0 : ∃ hp : m < l0.length, l0[m] = S[k].1 := by
              have := HST.out k hlt
              rw [hst.out.1] at this
              exact this
            obtain ⟨hml, hmx⟩ := h0
            have hnn := HSN.out _ (List.getElem_mem hlt)
            have htt := tot_take S k hlt
            have htl : totR (S.take (k + 1)) ≤ l0.length := by
              have e : S = S.take (k + 1) ++ S.drop (k + 1) := (List.take_append_drop _ _).symm
              have := HSA.out
              rw [e, tot_app] at this
              omega
            obtain ⟨n1, hn1⟩ : ∃ n1, S[k].2 = n1 := ⟨_, rfl⟩
            rw [hn1, hst.out.1] at htt
            rw [htt] at htl
            have HTT := Lib.hid htt
            obtain ⟨ad, rfl, x0⟩ := C_at HR.out (bth B6.out hst.out.2) m hml
            rw [hmx] at x0
            obtain ⟨x, hx⟩ : ∃ x, S[k].1 = x := ⟨_, rfl⟩
            rw [hx] at x0 y0
            rw [hn1] at y1 hnn
            have HY1 := Lib.hid (show ∀ V, Below w6.heap.size w6 V → V.cell? ⟨g, k * 2 + 1, none⟩ = some (.int .i64 (n1 : Int)) from fun V hV => by
              obtain ⟨g', e, h1, h2⟩ := C6.out _ hV k hlt
              obtain rfl : g = g' := by simpa using e
              rw [← hn1]
              exact h2)
            clear hmx hx hn1 htt
            have d1 : decide ((n1 : Int) < 1) = false := decide_eq_false (by omega)
            have d2 : decide ((l0.length : Int) ≤ (m : Int)) = false := decide_eq_false (by omega)
            have d2' : decide (l0.length ≤ m) = false := decide_eq_false (by omega)
            go_wp2_with fail
            go_quiet (fail)
            have B9 := Lib.hid (bdn hst.out.2 nq)
            have y2 := HY1.out _ B9.out
            go_wp2
            go_roundw
            case rel => exact ⟨k + 1, m + n1, hlt, htl, by go_num, by go_num, Lib.hid ⟨HTT.out, B9.out⟩⟩
            case measure => simp [intOf]; omega
          · obtain rfl : k = S.length := by omega
            have hme := hst.out.1
            rw [List.take_length, HSA.out] at hme
            subst hme
            have f1 : decide ((S.length : Int) ≤ (R.length : Int)) = true := decide_eq_true (by have := HSR.out; omega)
            have f2 : decide (S.length ≤ R.length) = true := decide_eq_true HSR.out
            go_wp2_with fail
            with_reducible refine (HSM.out A7 c7 A0 z0 _ (Kd.C_below C8.out hst.out.2) hc7 (Kd.C_below HR.out (bth B6.out hst.out.2)) hc0).mono ?_
            first | (rintro e w10 rfl hb10) | (rintro e w10 ⟨rfl, hb10⟩)
            have B10 := Lib.hid (bth (bth B6.out hst.out.2) hb10.below)
            clear hb10
            go_wp2
            go_ret
            exact ⟨rfl, B10.out⟩
end Go.Proofs.YtaekgfmcelckoaaDoor.P

/- CutsParts: the walk of the law. -/
import Derived.Test.YtkedjlekeohpaaaDoorCAlive
import Derived.Test.YtkedjlekeohpaaaDoorCFold
import Derived.Deep.QuietTactic
import Derived.BigQuiet
import Derived.IntWalk
set_option linter.unusedVariables false
set_option linter.unusedSimpArgs false
namespace Go.Proofs.YtkedjlekeohpaaaDoor.P
open Go.RowKit Go.BigFrame Go.Proofs Go.Proofs.YtkedjlekeohpaaaDoor.Q Go.Proofs.YtkedjlekeohpaaaDoor.H Go.Proofs.YtkedjlekeohpaaaDoor.K Go.Proofs.YtkedjlekeohpaaaDoor.C Go.Proofs.YtkedjlekeohpaaaDoor.S Go.Proofs.YtkedjlekeohpaaaDoorW.PrintWords Go.Proofs.YtkedjlekeohpaaaDoorW.PrintLast

theorem beh_blank (l : List UInt8) : ∀ k, 0 < behTo l k → blankC (l.getD (behTo l k - 1) 0) = true
  | 0, h => by simp [behTo] at h
  | k + 1, h => by
    rw [beh_succ] at h ⊢
    split
    · rename_i hb
      exact hb
    · rename_i hb
      rw [if_neg hb] at h
      exact beh_blank l k h
theorem beh_after (l : List UInt8) : ∀ k j, behTo l k ≤ j → j < k → blankC (l.getD j 0) = false
  | 0, j, _, h => absurd h (Nat.not_lt_zero _)
  | k + 1, j, h, hj => by
    rw [beh_succ] at h
    split at h
    · omega
    · rename_i hb
      by_cases e : j = k
      · subst e
        simpa using hb
      · exact beh_after l k j h (by omega)
theorem bdn {w W : World} (h : Below w.heap.size w W) (n : Nat) : Below w.heap.size w (W.drewN n) := ⟨h.os, h.tape, h.output, h.size, h.block⟩
theorem getD_take (l : List UInt8) (n j : Nat) (h : j < n) : (l.take n).getD j 0 = l.getD j 0 := by
  rw [List.getD_eq_getElem?_getD, List.getD_eq_getElem?_getD, List.getElem?_take, if_pos h]
theorem getD_drop (l : List UInt8) (n j : Nat) : (l.drop n).getD j 0 = l.getD (n + j) 0 := by
  rw [List.getD_eq_getElem?_getD, List.getD_eq_getElem?_getD, List.getElem?_drop]
/-- How far the parts of T are gone through: k of them, p bytes. -/
def PSt (M : Nat) (bl : Bool) (T : List UInt8) (L : List (List UInt8)) (p k : Nat) : Prop :=
  (L.drop k = foldL M bl (T.drop p) ∧ (p < T.length ∨ T.length = 0)) ∨ (k = L.length ∧ p = T.length)
theorem fold_ne (M : Nat) (bl : Bool) (hM : 1 ≤ M) (T : List UInt8) : foldL M bl T ≠ [] := by
  rw [fold_step M bl hM]; split <;> simp
theorem fold_len (M : Nat) (bl : Bool) (hM : 1 ≤ M) : ∀ (n : Nat) (T : List UInt8), T.length ≤ n → (foldL M bl T).length ≤ T.length + 1
  | 0, T, h => by
    rw [fold_step M bl hM, if_neg (by omega)]
    simp
  | n + 1, T, h => by
    rw [fold_step M bl hM]
    split
    · rename_i hlt
      have hc := cut_pos M bl T hM
      have := fold_len M bl hM n (T.drop (cutN M bl T)) (by rw [List.length_drop]; omega)
      rw [List.length_drop] at this
      rw [List.length_cons]
      omega
    · simp
theorem parts_round (M : Nat) (bl : Bool) (hM : 1 ≤ M) (T : List UInt8) (L : List (List UInt8)) (p k : Nat) (hp : p ≤ T.length) (hk : k < L.length) (h : PSt M bl T L p k) :
    L[k].length ≤ M ∧ p + L[k].length ≤ T.length ∧ (T.drop p).take L[k].length = L[k] ∧ (0 < L[k].length ∨ T.length = 0) ∧ PSt M bl T L (p + L[k].length) (k + 1) ∧
    (k + 1 < L.length → p + M < T.length ∧ 0 < L[k].length ∧ (L[k].length < M → bl = true ∧ blankC (L[k].getD (L[k].length - 1) 0) = true) ∧ (bl = true → ∀ j, p + L[k].length ≤ j → j < p + M → blankC (T.getD j 0) = false)) := by
  rcases h with ⟨h, hpos⟩ | ⟨rfl, _⟩
  · rw [List.drop_eq_getElem_cons hk, fold_step M bl hM] at h
    by_cases hlt : M < (T.drop p).length
    · rw [if_pos hlt] at h
      obtain ⟨h1, h2⟩ := List.cons.inj h
      rw [List.length_drop] at hlt
      have hc := cut_le M bl (T.drop p)
      have hc1 := cut_pos M bl (T.drop p) hM
      have hlen : L[k].length = cutN M bl (T.drop p) := by rw [h1, List.length_take, List.length_drop]; omega
      rw [hlen]
      have hM2 : M < (T.drop p).length := by rw [List.length_drop]; exact hlt
      refine ⟨hc, by omega, h1.symm, .inl (by omega), .inl ⟨?_, by omega⟩, fun _ => ⟨by omega, by omega, fun hcm => ?_, fun hb j hj1 hj2 => ?_⟩⟩
      · rw [h2, List.drop_drop]
      · unfold cutN at hcm ⊢
        split at hcm
        · rename_i hif
          rw [if_pos hif]
          simp at hif
          refine ⟨hif.1, ?_⟩
          have hcc : cutN M bl (T.drop p) = behL ((T.drop p).take M) := by unfold cutN; rw [if_pos (by simp [hif])]
          rw [h1, hcc, getD_take _ _ _ (by omega)]
          have hb2 := beh_blank ((T.drop p).take M) ((T.drop p).take M).length hif.2
          have e2 : behTo ((T.drop p).take M) ((T.drop p).take M).length = behL ((T.drop p).take M) := rfl
          rw [e2, getD_take _ _ _ (by omega)] at hb2
          exact hb2
        · omega
      · unfold cutN at hj1
        split at hj1
        · rename_i hif
          have ha := beh_after ((T.drop p).take M) ((T.drop p).take M).length (j - p) (by show behL _ ≤ _; omega) (by rw [List.length_take]; omega)
          rw [getD_take _ _ _ (by omega), getD_drop, show p + (j - p) = j by omega] at ha
          exact ha
        · omega
    · rw [if_neg hlt] at h
      obtain ⟨h1, h2⟩ := List.cons.inj h
      have h3 : L.length = k + 1 := by
        have := congrArg List.length h2
        rw [List.length_drop] at this
        simp at this
        omega
      rw [List.length_drop] at hlt
      have hlen : L[k].length = T.length - p := by rw [h1, List.length_drop]
      rw [hlen]
      refine ⟨by omega, by omega, ?_, by omega, .inr ⟨by omega, by omega⟩, fun h => by omega⟩
      rw [h1]
      exact List.take_of_length_le (by rw [List.length_drop]; exact Nat.le_refl _)
  · omega
set_option maxHeartbeats 4000000 in
set_option maxRecDepth 100000 in
theorem cutsParts (s : ByteArray) (n : Nat) (bl : Bool) (hn : n < 65536) (w : World) (hE : EnvW w) (hs : s.size ≤ 140737488351232) :
    Calls Tryd.prog 6 #[.string s, .int .u16 (n : Int), .bool bl] w fun e w' => e = .returned (.bool true) ∧ Below w.heap.size w w' := by
  have HE := Lib.hid hE
  clear hE
  by_cases hbig : 50000 < s.size
  · have hd : decide ((50000 : Int) < (s.size : Int)) = true := decide_eq_true (by omega)
    clear hbig
    go_enter Tryd.func6, Tryd.ntmps6
    go_wp2_with fail
    refine (alive_calls _ HE.out).mono ?_
    rintro e w2 ⟨rfl, hb2⟩
    have B2 := Lib.hid hb2
    clear hb2
    go_wp2_with fail
    refine (alive_calls _ (HE.out.below B2.out)).mono ?_
    rintro e w3 ⟨rfl, hb3⟩
    have B3 := Lib.hid (bth B2.out hb3)
    clear hb3
    go_wp2
    go_ret
    exact ⟨rfl, B3.out⟩
  · have hd : decide ((50000 : Int) < (s.size : Int)) = false := decide_eq_false (by omega)
    obtain ⟨M, hM⟩ : ∃ M, n % 500 + 1 = M := ⟨_, rfl⟩
    have hM1 : 1 ≤ M := by omega
    have hM2 : M ≤ 500 := by omega
    have hMi : (n : Int) % 500 + 1 = (M : Int) := by omega
    have f1 := fun (W : World) h => fold_calls s (by omega) (M : Int) bl W h
    have fE : foldE (M : Int) bl s.data.toList = (foldL M bl s.data.toList, 0) := by unfold foldE; rw [if_neg (by omega), if_neg (by omega), Int.toNat_natCast]
    rw [fE] at f1
    have F1 := Lib.hid f1
    have HMI := Lib.hid hMi
    clear f1 fE hMi hM
    go_enter Tryd.func6, Tryd.ntmps6
    go_wp2_with fail
    refine (alive_calls _ HE.out).mono ?_
    rintro e w2 ⟨rfl, hb2⟩
    have B2 := Lib.hid hb2
    clear hb2
    go_wp2_with fail
    rw [HMI.out]
    refine (F1.out _ (HE.out.below B2.out).utf).mono ?_
    rintro e w3 ⟨v, rfl, ho, hb3⟩
    have B3 := Lib.hid (bth B2.out hb3)
    clear hb3
    obtain ⟨L, hL⟩ : ∃ L, foldL M bl s.data.toList = L := ⟨_, rfl⟩
    rw [hL] at ho
    obtain ⟨Am, Ac, rfl, hcap, hC⟩ := reads_own (l := L.map bs) (by simpa using ho)
    have HC := Lib.hid hC
    have HO := Lib.hid ho
    have hls : s.data.toList.length = s.size := (Lib.size_eq s).symm
    have HP0 := Lib.hid (show PSt M bl s.data.toList L 0 0 from .inl ⟨by rw [← hL]; rfl, by omega⟩)
    have hL0 : 0 < L.length := by rw [← hL]; exact List.length_pos_iff.2 (fold_ne M bl hM1 _)
    have hL5 : L.length ≤ 50001 := by
      have := fold_len M bl hM1 _ s.data.toList (Nat.le_refl _)
      rw [hL] at this
      omega
    have hLm : (L.map bs).length = L.length := List.length_map ..
    rw [hLm] at hcap ⊢
    have HLM := Lib.hid hLm
    have HLS := Lib.hid hls
    have hcL : ((L.length : Int) == 0) = false := by rw [beq_eq_false_iff_ne]; omega
    clear hC ho hls hL hLm
    go_wp2
    clear hcL
    go_loopw [10, 11] (fun a i wr => ∃ p k : Nat, k ≤ L.length ∧ p ≤ s.size ∧ a = .int .i64 p ∧ i = .int .i64 k ∧ Hid (PSt M bl s.data.toList L p k ∧ Below w3.heap.size w3 wr)) (fun _ i _ => L.length - (intOf i).toNat)
    case atStart => exact ⟨0, 0, Nat.zero_le _, Nat.zero_le _, rfl, rfl, Lib.hid ⟨HP0.out, Below.refl _ _⟩⟩
    case round =>
      obtain ⟨p, k, hk, hp, rfl, rfl, hst⟩ := hrel
      by_cases hlt : k < L.length
      · obtain ⟨r1, r2, r3, r4, r5, r6⟩ := parts_round M bl hM1 _ L p k (by rw [HLS.out]; exact hp) hlt hst.out.1
        rw [HLS.out] at r2 r4 r6
        obtain ⟨ad, hA, hcell⟩ := C_at HC.out hst.out.2 k (by rw [HLM.out]; exact hlt)
        subst hA
        obtain ⟨x, hx⟩ : ∃ x, (L.map bs)[k]'(by rw [HLM.out]; exact hlt) = x := ⟨_, rfl⟩
        rw [hx] at hcell
        have hxl : x.data.toList = L[k] := by rw [← hx, List.getElem_map, bs_toList]
        have hxs : x.size = L[k].length := by rw [Lib.size_eq, hxl]
        rw [← hxs] at r1 r2 r3 r4 r5 r6
        rw [← hxl] at r3 r6
        have g1 : decide ((M : Int) < (x.size : Int)) = false := decide_eq_false (by omega)
        have g2 : decide ((s.size : Int) < (p : Int) + (x.size : Int)) = false := decide_eq_false (by omega)
        have hex : s.extract p (p + x.size) = x := by
          apply ext_bytes
          rw [extract_bytes, Nat.add_sub_cancel_left, r3]
        have g3 : (!((s.extract p (p + x.size)).toList == x.toList)) = false := by rw [hex]; simp
        have HST := Lib.hid (And.intro r5 hst.out.2)
        have R6 := Lib.hid r6
        have hkl : (k : Int) < (L.length : Int) := by omega
        clear r3 r5 r6 hx hxl hxs hst hex
        by_cases hx0 : 0 < x.size
        · have g4 : ((x.size : Int) == 0) = false := by rw [beq_eq_false_iff_ne]; omega
          have p1 : ¬ M < x.size := by omega
          have p2 : ¬ (s.size : Int) < (p : Int) + (x.size : Int) := by omega
          have p3 : ¬ x.size = 0 := by omega
          have q1 : IntKind.i64.wrap ((p : Int) + (x.size : Int)) = (p : Int) + (x.size : Int) := IntWalk.i64_in _ (by omega)
          have q2 : (0 : Int) ≤ (p : Int) + (x.size : Int) := by omega
          have q3 : ((p : Int) + (x.size : Int)).toNat = p + x.size := by omega
          have q4 : (p : Int) + (x.size : Int) ≤ (s.size : Int) := by omega
          go_wp2_with fail
          go_quiet (fail)
          have BX := Lib.hid (bdn HST.out.2 nq)
          have cx : (wr.drewN nq).cell? (ad.add k) = some (.string x) := hcell
          clear hcell p1 p2 p3 q1 q2 q3 q4 g1 g2 g3 g4
          generalize wr.drewN nq = wx at BX cx ⊢
          clear nq
          by_cases hk1 : k + 1 < L.length
          · obtain ⟨t1, t2, t3, t4⟩ := R6.out hk1
            by_cases hm : x.size < M
            · obtain ⟨rfl, hbk⟩ := t3 hm
              obtain ⟨d, hd0⟩ : ∃ d, x.size = d + 1 := ⟨x.size - 1, by omega⟩
              have hT4 := Lib.hid (t4 rfl)
              have hdl : d < x.size := by omega
              have hbk2 : blankC x[d] = true := by
                rw [← getD_byte x d hdl]
                rw [hd0, Nat.add_sub_cancel] at hbk
                exact hbk
              have hy : x[d] = 32 ∨ x[d] = 9 := by
                unfold blankC at hbk2
                simpa using hbk2
              clear t3 t4 hbk hbk2
              have i1 : IntKind.i64.wrap ((x.size : Int) - 1) = (x.size : Int) - 1 := IntWalk.i64_in _ (by omega)
              have i2 : (0 : Int) ≤ (x.size : Int) - 1 := by omega
              have i3 : ((x.size : Int) - 1).toNat = d := by omega
              have i4 : (x.size : Int) - 1 < (x.size : Int) := by omega
              have i5 : IntKind.i64.wrap ((k : Int) + 1) = (k : Int) + 1 := IntWalk.i64_in _ (by omega)
              have j1 : (k : Int) + 1 < (L.length : Int) := by omega
              have hyz := Lib.hid hd0
              clear hd0 hx0
              have g5 : decide ((k : Int) + 1 < (L.length : Int)) = true := decide_eq_true (by omega)
              rcases hy with hy | hy <;> (
              go_wp2_with fail
              clear i1 i2 i3 i4 i5 j1 hy
              go_loopw [13] (fun j w0 => ∃ q : Nat, p + x.size ≤ q ∧ q ≤ p + M ∧ j = .int .i64 (q : Int) ∧ w0 = wx) (fun j _ => p + M - (intOf j).toNat)
              case atStart => exact ⟨p + x.size, Nat.le_refl _, by omega, by rw [Int.natCast_add], by simp⟩
              case round =>
                obtain ⟨q, hq1, hq2, rfl, rfl⟩ := hrel
                by_cases hq : q < p + M
                · have hqs : q < s.size := by omega
                  have hb := hT4.out q hq1 hq
                  rw [getD_byte s q hqs] at hb
                  obtain ⟨n1, n2⟩ : ¬ s[q] = 32 ∧ ¬ s[q] = 9 := by
                    unfold blankC at hb
                    simpa using hb
                  have e1 : ((s[q].toNat : Int) == 32) = false := by
                    rw [beq_eq_false_iff_ne]
                    intro e
                    exact n1 (by rw [← UInt8.toNat_inj]; show s[q].toNat = 32; omega)
                  have e2 : ((s[q].toNat : Int) == 9) = false := by
                    rw [beq_eq_false_iff_ne]
                    intro e
                    exact n2 (by rw [← UInt8.toNat_inj]; show s[q].toNat = 9; omega)
                  clear hb n1 n2
                  go_wp2
                  go_roundw
                  case rel => exact ⟨q + 1, by omega, by omega, by go_num, by trivial⟩
                  case measure => simp [intOf]; omega
                · go_wp2
                  go_roundw
                  case rel => exact ⟨p + x.size, k + 1, by omega, r2, by rw [Int.natCast_add], by rw [Int.natCast_add]; rfl, Lib.hid ⟨HST.out.1, BX.out⟩⟩
                  case measure => simp [intOf]; omega)
            · obtain rfl : x.size = M := by omega
              have g5 : decide ((k : Int) + 1 < (L.length : Int)) = true := decide_eq_true (by omega)
              clear t3 t4 hm
              cases bl <;> (
              go_wp2_with fail
              go_loopw [13] (fun j w0 => j = .int .i64 ((p : Int) + (x.size : Int)) ∧ w0 = wx) (fun _ _ => 0)
              case atStart => exact ⟨rfl, rfl⟩
              case round =>
                obtain ⟨rfl, rfl⟩ := hrel
                go_wp2
                go_roundw
                case rel => exact ⟨p + x.size, k + 1, by omega, r2, by rw [Int.natCast_add], by rw [Int.natCast_add]; rfl, Lib.hid ⟨HST.out.1, BX.out⟩⟩
                case measure => simp [intOf]; omega)
          · have g5 : decide ((k : Int) + 1 < (L.length : Int)) = false := decide_eq_false (by omega)
            go_wp2_with fail
            go_loopw [13] (fun j w0 => j = .int .i64 ((p : Int) + (x.size : Int)) ∧ w0 = wx) (fun _ _ => 0)
            case atStart => exact ⟨rfl, rfl⟩
            case round =>
              obtain ⟨rfl, rfl⟩ := hrel
              go_wp2
              go_roundw
              case rel => exact ⟨p + x.size, k + 1, by omega, r2, by rw [Int.natCast_add], by rw [Int.natCast_add]; rfl, Lib.hid ⟨HST.out.1, BX.out⟩⟩
              case measure => simp [intOf]; omega
        · have HZ := Lib.hid (show decide (x.size = 0) = true from decide_eq_true (by omega))
          have hz2 : ¬ 0 < s.size := by omega
          have hk1 : ¬ k + 1 < L.length := fun h => by have := (R6.out h).1; omega
          have g5 : decide ((k : Int) + 1 < (L.length : Int)) = false := decide_eq_false (by omega)
          have p1 : ¬ M < x.size := by omega
          have p2 : ¬ (s.size : Int) < (p : Int) + (x.size : Int) := by omega
          have q1 : IntKind.i64.wrap ((p : Int) + (x.size : Int)) = (p : Int) + (x.size : Int) := IntWalk.i64_in _ (by omega)
          have q2 : (0 : Int) ≤ (p : Int) + (x.size : Int) := by omega
          have q3 : ((p : Int) + (x.size : Int)).toNat = p + x.size := by omega
          have q4 : (p : Int) + (x.size : Int) ≤ (s.size : Int) := by omega
          go_wp2_with fail
          refine wp_region_quiet_lit (by kernel_rfl) (by kernel_rfl) ?_
          repeat (go_big_quiet_step (fail))
          first | rw [HZ.out] | rw [show ((x.size : Int) == 0) = true by rw [beq_iff_eq]; omega] | rw [show decide (x = ByteArray.empty) = true from decide_eq_true (ByteArray.size_eq_zero_iff.1 (by omega))]
          repeat (go_big_quiet_step (fail))
          refine wpQuiet_nil ?_
          intro _ hw'
          obtain ⟨nq, hw''⟩ := hw'
          subst hw''
          have BX := Lib.hid (bdn HST.out.2 nq)
          have cx : (wr.drewN nq).cell? (ad.add k) = some (.string x) := hcell
          clear hcell
          clear p1 p2 q1 q2 q3 q4 g1 g2 g3 hz2
          generalize wr.drewN nq = wx at BX cx ⊢
          clear nq
          go_wp2_with fail
          go_loopw [13] (fun j w0 => j = .int .i64 ((p : Int) + (x.size : Int)) ∧ w0 = wx) (fun _ _ => 0)
          case atStart => exact ⟨rfl, rfl⟩
          case round =>
            obtain ⟨rfl, rfl⟩ := hrel
            go_wp2
            go_roundw
            case rel => exact ⟨p + x.size, k + 1, by omega, r2, by rw [Int.natCast_add], by rw [Int.natCast_add]; rfl, Lib.hid ⟨HST.out.1, BX.out⟩⟩
            case measure => simp [intOf]; omega
      · obtain rfl : k = L.length := by omega
        have hpe : (p : Int) = (s.size : Int) := by
          rcases hst.out.1 with ⟨h, _⟩ | ⟨_, h⟩
          · rw [List.drop_length] at h
            exact absurd h.symm (fold_ne M bl hM1 _)
          · rw [h, HLS.out]
        rw [hpe]
        go_wp2
        go_ret
        exact ⟨rfl, bth B3.out hst.out.2⟩
theorem CutsParts_walk (a0 : ByteArray) (a1 : Int) (a2 : Bool) (W : World) (hE : EnvW W) (ok0 : a0.size ≤ 140737488351232) (ok1 : (Lit.int .u16 a1).wf = true) :
    Calls Tryd.prog 6 #[.string a0, .int .u16 a1, .bool a2] W fun e W' => e = .returned (.bool true) ∧ Below W.heap.size W W' := by
  have h' : 0 ≤ a1 ∧ a1 ≤ 65535 := by simpa [Lit.wf, IntKind.min, IntKind.max, IntKind.signed, IntKind.bits] using ok1
  obtain ⟨m, rfl⟩ := Int.eq_ofNat_of_zero_le h'.1
  exact cutsParts a0 m a2 (by omega) W hE ok0
end Go.Proofs.YtkedjlekeohpaaaDoor.P

/- CutsLines: the walk of the law. -/
import Derived.Test.YtkedjlekeohpaaaDoorCAlive
import Derived.Test.YtkedjlekeohpaaaDoorSizes1
import Derived.Deep.QuietTactic
import Derived.BigQuiet
import Derived.IntWalk
set_option linter.unusedVariables false
set_option linter.unusedSimpArgs false
namespace Go.Proofs.YtkedjlekeohpaaaDoor.P
open Go.RowKit Go.BigFrame Go.Proofs Go.Proofs.YtkedjlekeohpaaaDoor.Q Go.Proofs.YtkedjlekeohpaaaDoor.H Go.Proofs.YtkedjlekeohpaaaDoor.K Go.Proofs.YtkedjlekeohpaaaDoor.C Go.Proofs.YtkedjlekeohpaaaDoor.S Go.Proofs.YtkedjlekeohpaaaDoorW.PrintWords Go.Proofs.YtkedjlekeohpaaaDoorW.PrintLast

/-- What digits tell. -/
def valL (l : List UInt8) : Nat := l.foldl (fun v c => 10 * v + (c.toNat - 48)) 0
theorem val_snoc (l : List UInt8) (c : UInt8) : valL (l ++ [c]) = 10 * valL l + (c.toNat - 48) := by
  unfold valL; rw [List.foldl_append]; rfl
theorem val_le (l r : List UInt8) : valL l ≤ valL (l ++ r) := by
  induction r generalizing l with
  | nil => simp
  | cons c r ih =>
    have h := ih (l ++ [c])
    rw [val_snoc, List.append_assoc] at h
    exact Nat.le_trans (by omega) h
theorem dec_val (n : Nat) : valL (Lib.decDigits n) = n ∧ ∀ c ∈ Lib.decDigits n, 48 ≤ c.toNat ∧ c.toNat ≤ 57 := by
  induction n using Nat.strongRecOn with
  | ind n ih =>
    rw [Lib.decDigits]
    split
    · rename_i h
      refine ⟨?_, fun c hc => ?_⟩
      · show 10 * 0 + ((UInt8.ofNat (48 + n)).toNat - 48) = n
        rw [UInt8.toNat_ofNat']; omega
      · obtain rfl := List.mem_singleton.1 hc
        rw [UInt8.toNat_ofNat']; omega
    · obtain ⟨i1, i2⟩ := ih (n / 10) (by omega)
      refine ⟨?_, fun c hc => ?_⟩
      · rw [val_snoc, i1, UInt8.toNat_ofNat']; omega
      · rcases List.mem_append.1 hc with h | h
        · exact i2 c h
        · obtain rfl := List.mem_singleton.1 h
          rw [UInt8.toNat_ofNat']; omega
theorem dec_pos (n : Nat) : 1 ≤ (Lib.decDigits n).length := by rw [Lib.decDigits_length]; exact Lib.nDigits_pos n
theorem dec_short (n : Nat) (h : n < 10000000000) : (Lib.decDigits n).length ≤ 10 := by
  rw [Lib.decDigits_length]
  have h1 : ∀ k, ∀ n, n < 10 ^ (k + 1) → Lib.nDigits n ≤ k + 1 := by
    intro k
    induction k with
    | zero => intro n h; rw [Lib.nDigits_small (by simpa using h)]; exact Nat.le_refl _
    | succ k ih =>
      intro n h
      by_cases h9 : n < 10
      · rw [Lib.nDigits_small h9]; omega
      · rw [Lib.nDigits_big h9]
        have := ih (n / 10) (by rw [Nat.pow_succ] at h; omega)
        omega
  exact h1 9 n (by simpa using h)
theorem num_get (wd : Nat) : ∀ (l : List ByteArray) (n i : Nat) (h : i < l.length), (numL wd n l)[i]'(by rw [num_len]; exact h) = lineN (n + i) wd l[i]
  | x :: l, n, 0, _ => rfl
  | x :: l, n, i + 1, h => by
    have := num_get wd l (n + 1) i (by simpa using h)
    rw [show n + 1 + i = n + (i + 1) by omega] at this
    exact this
theorem append_bytes (a b : ByteArray) : (a ++ b).data.toList = a.data.toList ++ b.data.toList := by
  rw [ByteArray.data_append, Array.toList_append]
theorem spaces_toList (n : Nat) : (spaces n).data.toList = List.replicate n 32 := by simp [spaces]
theorem line_list (n wd : Nat) (s : ByteArray) : (lineN n wd s).data.toList = List.replicate (wd - (Lib.decDigits n).length) 32 ++ Lib.decDigits n ++ 9 :: s.data.toList := by
  unfold lineN
  rw [append_bytes, append_bytes, append_bytes, spaces_toList, dig_toList, Lib.size_eq, dig_toList]
  simp
theorem bdn {w W : World} (h : Below w.heap.size w W) (n : Nat) : Below w.heap.size w (W.drewN n) := ⟨h.os, h.tape, h.output, h.size, h.block⟩
set_option maxHeartbeats 4000000 in
set_option maxRecDepth 100000 in
theorem cutsLines (A : Option Addr) (z : Nat) (l : List ByteArray) (F0 W0 : Nat) (w : World) (hE : EnvW w) (hr : Kd.C Kd.string w A l.length l) (hc : l.length ≤ z) (hs : ∀ a ∈ l, a.size ≤ 140737488351232) (hll : l.length * 16 ≤ 140737488351232) (hF : F0 < 4294967296) (hW : W0 < 256) :
    Calls Tryd.prog 8 #[.slice A l.length z, .int .u32 (F0 : Int), .int .u8 (W0 : Int)] w fun e w' => e = .returned (.bool true) ∧ Below w.heap.size w w' := by
  obtain ⟨n, hn, hn0, hn1, hn2⟩ := textsSize_tells l hs (by omega)
  have HE := Lib.hid hE
  have HN := Lib.hid hn
  have HR := Lib.hid hr
  clear hE hn hr
  by_cases hbig : 2000 < l.length ∨ 50000 < n
  · by_cases h2 : 2000 < l.length
    · have d1 : decide ((2000 : Int) < (l.length : Int)) = true := decide_eq_true (by omega)
      clear hbig h2
      go_enter Tryd.func8, Tryd.ntmps8
      go_wp2_with fail
      refine (alive_calls _ HE.out).mono ?_
      rintro e w2 ⟨rfl, hb2⟩
      have B2 := Lib.hid hb2
      clear hb2
      go_wp2_with fail
      refine (alive_calls _ (HE.out.below B2.out)).mono ?_
      rintro e w3 ⟨rfl, hb3⟩
      have B3 := Lib.hid (bth B2.out hb3)
      clear hb3
      go_wp2
      go_ret
      exact ⟨rfl, B3.out⟩
    · have d1 : decide ((2000 : Int) < (l.length : Int)) = false := decide_eq_false (by omega)
      have d2 : decide ((50000 : Int) < n) = true := decide_eq_true (by omega)
      clear hbig h2
      go_enter Tryd.func8, Tryd.ntmps8
      go_wp2_with fail
      refine (alive_calls _ HE.out).mono ?_
      rintro e w2 ⟨rfl, hb2⟩
      have B2 := Lib.hid hb2
      have HR2 := Lib.hid (Kd.C_below HR.out hb2)
      clear hb2
      go_wp2_with fail
      refine (toolchestlaw01_TextsSize.calls (l.length + 1) A z l n _ HR2.out hc HN.out).mono ?_
      rintro e w3 ⟨rfl, hb3⟩
      have B3 := Lib.hid (bth B2.out hb3.below)
      clear hb3
      go_wp2_with fail
      refine (alive_calls _ (HE.out.below B3.out)).mono ?_
      rintro e w4 ⟨rfl, hb4⟩
      have B4 := Lib.hid (bth B3.out hb4)
      clear hb4
      go_wp2
      go_ret
      exact ⟨rfl, B4.out⟩
  · have hl2 : l.length ≤ 2000 := by omega
    have hn5 : n ≤ 50000 := by omega
    have HT := Lib.hid (hn2 (by omega))
    clear hbig hn2
    obtain ⟨Wd, hWd⟩ : ∃ Wd, W0 % 33 = Wd := ⟨_, rfl⟩
    obtain ⟨F, hFd⟩ : ∃ F, F0 % 2147483648 = F := ⟨_, rfl⟩
    have hWi : (W0 : Int) % 33 = (Wd : Int) := by omega
    have hFi : (F0 : Int) % 2147483648 = (F : Int) := by omega
    have hW2 : Wd ≤ 32 := by omega
    have hF2 : F ≤ 2147483647 := by omega
    have HWI := Lib.hid hWi
    have HFI := Lib.hid hFi
    have d1 : decide ((2000 : Int) < (l.length : Int)) = false := decide_eq_false (by omega)
    have d2 : decide ((50000 : Int) < n) = false := decide_eq_false (by omega)
    clear hWi hFi hWd hFd
    go_enter Tryd.func8, Tryd.ntmps8
    go_wp2_with fail
    refine (alive_calls _ HE.out).mono ?_
    rintro e w2 ⟨rfl, hb2⟩
    have B2 := Lib.hid hb2
    have HR2 := Lib.hid (Kd.C_below HR.out hb2)
    clear hb2
    go_wp2_with fail
    refine (toolchestlaw01_TextsSize.calls (l.length + 1) A z l n _ HR2.out hc HN.out).mono ?_
    rintro e w3 ⟨rfl, hb3⟩
    have B3 := Lib.hid (bth B2.out hb3.below)
    clear hb3
    go_wp2_with fail
    rw [HWI.out, HFI.out]
    refine (number_calls A z l (F : Int) (Wd : Int) F Wd (by unfold clampI; omega) (by unfold clampI; omega) _ (HE.out.below B3.out).pow (Kd.C_below HR.out B3.out) hc (by omega) hs).mono ?_
    rintro e w4 ⟨v, rfl, ho, hb4⟩
    have B4 := Lib.hid (bth B3.out hb4)
    clear hb4
    have hLm : (numL Wd F l).length = l.length := num_len Wd l F
    rw [← hLm] at ho
    obtain ⟨Am, Ac, rfl, hcap, hC⟩ := reads_own ho
    rw [hLm] at hcap ⊢
    have HC := Lib.hid hC
    have HLM := Lib.hid hLm
    have HR4 := Lib.hid (Kd.C_below HR.out B4.out)
    clear hC ho hLm
    go_wp2
    go_loopw [10] (fun i wr => ∃ k : Nat, k ≤ l.length ∧ i = .int .i64 k ∧ Hid (Below w4.heap.size w4 wr)) (fun i _ => l.length - (intOf i).toNat)
    case atStart => exact ⟨0, Nat.zero_le _, rfl, Lib.hid (Below.refl _ _)⟩
    case round =>
      obtain ⟨k, hk, rfl, hst⟩ := hrel
      by_cases hlt : k < l.length
      · obtain ⟨ad, hA, hcell⟩ := C_at HC.out hst.out k (by rw [HLM.out]; exact hlt)
        subst hA
        obtain ⟨ad2, hA2, hcell2⟩ := C_at HR4.out hst.out k hlt
        subst hA2
        obtain ⟨x, hx⟩ : ∃ x, (numL Wd F l)[k]'(by rw [HLM.out]; exact hlt) = x := ⟨_, rfl⟩
        obtain ⟨y, hy⟩ : ∃ y, l[k] = y := ⟨_, rfl⟩
        rw [hx] at hcell
        rw [hy] at hcell2
        have hxl : x.data.toList = List.replicate (Wd - (Lib.decDigits (F + k)).length) 32 ++ Lib.decDigits (F + k) ++ 9 :: y.data.toList := by rw [← hx, num_get _ _ _ _ hlt, hy, line_list]
        have hd1 := dec_pos (F + k)
        have hd2 := dec_short (F + k) (by omega)
        obtain ⟨v1, v2⟩ := dec_val (F + k)
        obtain ⟨ds, hds⟩ : ∃ ds, Lib.decDigits (F + k) = ds := ⟨_, rfl⟩
        rw [hds] at hxl hd1 hd2 v1 v2
        obtain ⟨P, hP⟩ : ∃ P, Wd - ds.length = P := ⟨_, rfl⟩
        rw [hP] at hxl
        obtain ⟨K, hK⟩ : ∃ K, P + ds.length = K := ⟨_, rfl⟩
        have hxs : x.size = K + 1 + y.size := by
          rw [Lib.size_eq, hxl, Lib.size_eq y]
          simp
          omega
        have hxK : x.data.toList.getD K 0 = 9 := by
          rw [hxl, List.getD_eq_getElem?_getD, List.getElem?_append_right (by simp; omega)]
          simp [hK]
        have hex : x.extract (K + 1) x.size = y := by
          apply ext_bytes
          rw [extract_bytes, hxl, show (List.replicate P 32 ++ ds ++ 9 :: y.data.toList) = (List.replicate P 32 ++ ds ++ [9]) ++ y.data.toList by simp, List.drop_left' (by simp; omega)]
          exact List.take_of_length_le (by rw [← Lib.size_eq]; omega)
        have hKx : K < x.size := by omega
        rw [getD_byte x K hKx] at hxK
        have hyb := hs y (by rw [← hy]; exact List.getElem_mem hlt)
        have hxp : ∀ j (h : j < x.size), j < P → x[j] = 32 := fun j h hj => by
          rw [← getD_byte x j h, hxl, List.append_assoc, List.getD_eq_getElem?_getD, List.getElem?_append_left (by simp; exact hj)]
          simp [hj]
        have hxd : ∀ t (h : P + t < x.size) (ht : t < ds.length), x[P + t] = ds[t] := fun t h ht => by
          rw [← getD_byte x (P + t) h, hxl, List.append_assoc, List.getD_eq_getElem?_getD, List.getElem?_append_right (by simp), List.getElem?_append_left (by simp; omega)]
          simp [ht]
        have HXP := Lib.hid hxp
        have HXD := Lib.hid hxd
        have HV := Lib.hid (And.intro v1 v2)
        have HST := Lib.hid hst.out
        obtain ⟨Mx, hMx⟩ : ∃ Mx, max Wd 1 = Mx := ⟨_, rfl⟩
        have hmx : max (Wd : Int) 1 = (Mx : Int) := by omega
        have hkl : (k : Int) < (l.length : Int) := by omega
        have q1 : IntKind.i64.wrap ((x.size : Int) - (y.size : Int)) = (x.size : Int) - (y.size : Int) := IntWalk.i64_in _ (by omega)
        have q2 : IntKind.i64.wrap ((x.size : Int) - (y.size : Int) - 1) = (x.size : Int) - (y.size : Int) - 1 := IntWalk.i64_in _ (by omega)
        have hKi : (x.size : Int) - (y.size : Int) - 1 = (K : Int) := by omega
        clear hxp hxd v1 v2 hst hxl hx hy hds
        go_wp2_with fail
        go_quiet (fail)
        have BX := Lib.hid (bdn HST.out nq)
        have cx : (wr.drewN nq).cell? (ad.add k) = some (.string x) := hcell
        have cy : (wr.drewN nq).cell? (ad2.add k) = some (.string y) := hcell2
        clear hcell hcell2 q1 q2 hKi HST
        generalize wr.drewN nq = wx at BX cx cy ⊢
        clear nq
        have p1 : ¬ K < Mx := by omega
        have r1 : IntKind.i64.wrap ((K : Int) + 1) = (K : Int) + 1 := IntWalk.i64_in _ (by omega)
        have r2 : (0 : Int) ≤ (K : Int) + 1 := by omega
        have r3 : ((K : Int) + 1).toNat = K + 1 := by omega
        have r4 : (K : Int) + 1 ≤ (x.size : Int) := by omega
        have g3 : (!((x.extract (K + 1) (K + 1 + y.size)).toList == y.toList)) = false := by rw [← hxs, hex]; simp
        go_wp2_with fail
        go_quiet (fail)
        have BZ := Lib.hid (bdn BX.out nq)
        have cz : (wx.drewN nq).cell? (ad.add k) = some (.string x) := cx
        clear cx cy p1 r1 r2 r3 r4 g3 hex hxK BX
        generalize wx.drewN nq = wz at BZ cz ⊢
        clear nq
        go_wp2_with fail
        go_loopw [12, 13, 14] (fun a b c w0 => ∃ j : Nat, j ≤ K ∧ a = .int .i64 (valL (ds.take (j - P)) : Nat) ∧ b = .int .i64 ((j - P : Nat) : Int) ∧ c = .int .i64 (j : Int) ∧ w0 = wz) (fun _ _ c _ => K - (intOf c).toNat)
        case atStart => exact ⟨0, Nat.zero_le _, by simp [valL], by simp, rfl, rfl⟩
        case round =>
          obtain ⟨j, hj, rfl, rfl, rfl, rfl⟩ := hrel
          by_cases hjl : j < K
          · have hjx : j < x.size := by omega
            by_cases hjp : j < P
            · have e0 : j - P = 0 := by omega
              have e1 : j + 1 - P = 0 := by omega
              have e2 : x[j] = 32 := HXP.out j hjx hjp
              rw [e0]
              go_wp2
              go_roundw
              case rel => refine ⟨j + 1, by omega, ?_⟩; rw [e1]; simp [valL]
              case measure => simp [intOf]; omega
            · obtain ⟨t, rfl⟩ : ∃ t, j = P + t := ⟨j - P, by omega⟩
              have ht : t < ds.length := by omega
              have e0 : P + t - P = t := by omega
              have e1 : P + t + 1 - P = t + 1 := by omega
              have e2 := HXD.out t hjx ht
              have hc := HV.out.2 ds[t] (List.getElem_mem ht)
              have e3 : valL (ds.take (t + 1)) = 10 * valL (ds.take t) + (ds[t].toNat - 48) := by rw [List.take_succ_eq_append_getElem ht, val_snoc]
              have e4 : valL (ds.take (t + 1)) ≤ F + k := by
                have := val_le (ds.take (t + 1)) (ds.drop (t + 1))
                rw [List.take_append_drop, HV.out.1] at this
                exact this
              rw [← e2] at hc e3
              obtain ⟨V, hV⟩ : ∃ V, valL (ds.take t) = V := ⟨_, rfl⟩
              obtain ⟨V2, hV2⟩ : ∃ V2, valL (ds.take (t + 1)) = V2 := ⟨_, rfl⟩
              rw [hV, hV2] at e3
              rw [hV2] at e4
              rw [e0, hV]
              obtain ⟨cn, hcn⟩ : ∃ cn, x[P + t].toNat = cn := ⟨_, rfl⟩
              rw [hcn] at hc e3
              have g1 : ((cn : Int) == 32) = false := by rw [beq_eq_false_iff_ne]; omega
              have g2 : decide ((cn : Int) < 48) = false := decide_eq_false (by omega)
              have g3 : decide ((57 : Int) < (cn : Int)) = false := decide_eq_false (by omega)
              have e5 : 10 * V + (cn - 48) ≤ F + k := by omega
              have HV2 := Lib.hid hV2
              have E3 := Lib.hid e3
              clear e2 e3 hV hV2 e0
              go_wp2
              go_roundw
              case rel => exact ⟨P + t + 1, by omega, by rw [e1, HV2.out, E3.out]; congr 1; omega, by rw [e1]; go_num, by go_num, by trivial⟩
              case measure => simp [intOf]; omega
          · obtain rfl : j = K := by omega
            have e0 : j - P = ds.length := by omega
            have e1 : valL (ds.take ds.length) = F + k := by rw [List.take_length]; exact HV.out.1
            rw [e0, e1]
            have c1 : ((F + k : Nat) : Int) = (F : Int) + (k : Int) := Int.natCast_add ..
            rw [c1]
            have g1 : decide (max (Wd : Int) (ds.length : Int) < (j : Int)) = false := decide_eq_false (by omega)
            have g2 : (((F : Int) + (k : Int)) != (F : Int) + (k : Int)) = false := by simp
            clear e0 e1 c1
            go_wp2
            go_roundw
            case rel => exact ⟨k + 1, by omega, by go_num, BZ⟩
            case measure => simp [intOf]; omega
      · obtain rfl : k = l.length := by omega
        go_wp2
        go_ret
        exact ⟨rfl, bth B4.out hst.out⟩
theorem CutsLines_walk (A0 : Option Addr) (z0 : Nat) (l0 : List ByteArray) (a1 : Int) (a2 : Int) (W : World) (hE : EnvW W) (hr0 : Kd.C Kd.string W A0 l0.length l0) (hc0 : l0.length ≤ z0) (ok0 : (∀ a ∈ l0, a.size ≤ 140737488351232) ∧ l0.length * 16 ≤ 140737488351232) (ok1 : (Lit.int .u32 a1).wf = true) (ok2 : (Lit.int .u8 a2).wf = true) :
    Calls Tryd.prog 8 #[.slice A0 l0.length z0, .int .u32 a1, .int .u8 a2] W fun e W' => e = .returned (.bool true) ∧ Below W.heap.size W W' := by
  have h' : 0 ≤ a1 ∧ a1 ≤ 4294967295 := by simpa [Lit.wf, IntKind.min, IntKind.max, IntKind.signed, IntKind.bits] using ok1
  have h2 : 0 ≤ a2 ∧ a2 ≤ 255 := by simpa [Lit.wf, IntKind.min, IntKind.max, IntKind.signed, IntKind.bits] using ok2
  obtain ⟨m, rfl⟩ := Int.eq_ofNat_of_zero_le h'.1
  obtain ⟨k, rfl⟩ := Int.eq_ofNat_of_zero_le h2.1
  exact cutsLines A0 z0 l0 m k W hE hr0 hc0 ok0.1 ok0.2 (by omega) (by omega)
end Go.Proofs.YtkedjlekeohpaaaDoor.P

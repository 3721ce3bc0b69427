/- CutsPlaces: the walk of the law. -/
import Derived.Test.YtkedjlekeohpaaaDoorCAlive
import Derived.Deep.QuietTactic
import Derived.BigQuiet
import Derived.IntWalk
set_option linter.unusedVariables false
set_option linter.unusedSimpArgs false
namespace Go.Proofs.YtkedjlekeohpaaaDoor.P
open Go.RowKit Go.BigFrame Go.Proofs Go.Proofs.YtkedjlekeohpaaaDoor.Q Go.Proofs.YtkedjlekeohpaaaDoor.H Go.Proofs.YtkedjlekeohpaaaDoor.K Go.Proofs.YtkedjlekeohpaaaDoor.C Go.Proofs.YtkedjlekeohpaaaDoor.S Go.Proofs.YtkedjlekeohpaaaDoorW.PrintWords Go.Proofs.YtkedjlekeohpaaaDoorW.PrintLast

theorem pick_app {α : Type} (p : Nat → Bool) (b : List α) : ∀ (a : List α) (i : Nat), pickL p i (a ++ b) = pickL p i a ++ pickL p (i + a.length) b
  | [], i => rfl
  | x :: a, i => by
    rw [List.cons_append]
    simp only [pickL]
    rw [pick_app p b a (i + 1), show i + 1 + a.length = i + (x :: a).length by simp; omega]
    split <;> rfl
theorem has_app (l m : List RS) (i : Nat) : hasN (l ++ m) i = (hasN l i || hasN m i) := by
  unfold hasN hasR
  rw [List.any_append]
theorem mk_R (w W : World) (base : Nat) (okp : Nat → Prop) (x : RS) (cs : List Value) (h : (k34).K w x cs) : (k34).M W base okp x cs := by
  obtain rfl := k34_open h
  exact k34_mkM _ _ _ _
theorem bdn {w W : World} (h : Below w.heap.size w W) (n : Nat) : Below w.heap.size w (W.drewN n) := ⟨h.os, h.tape, h.output, h.size, h.block⟩
theorem pick_at (p : Nat → Bool) (T : List UInt8) (i : Nat) (h : i < T.length) (hp : p (i + 1) = true) :
    (pickL p 1 (T.take i)).length < (pickL p 1 T).length ∧ (pickL p 1 T).getD (pickL p 1 (T.take i)).length 0 = T[i] := by
  have e : pickL p 1 T = pickL p 1 (T.take i) ++ T[i] :: pickL p (i + 1 + 1) (T.drop (i + 1)) := by
    conv => lhs; rw [← List.take_append_drop i T, pick_app, List.length_take, Nat.min_eq_left (by omega), List.drop_eq_getElem_cons h]
    simp only [pickL]
    rw [show 1 + i = i + 1 by omega, if_pos hp]
  rw [e]
  refine ⟨by simp, ?_⟩
  rw [List.getD_eq_getElem?_getD, List.getElem?_append_right (Nat.le_refl _)]
  simp
theorem pick_next (p : Nat → Bool) (T : List UInt8) (i : Nat) (h : i < T.length) : (pickL p 1 (T.take (i + 1))).length = (pickL p 1 (T.take i)).length + if p (i + 1) then 1 else 0 := by
  rw [List.take_succ_eq_append_getElem h, pick_snoc, List.length_take, Nat.min_eq_left (by omega), List.length_append, show 1 + i = i + 1 by omega]
  split <;> rfl
set_option maxHeartbeats 4000000 in
set_option maxRecDepth 100000 in
theorem cutsPlaces (s : ByteArray) (A : Option Addr) (z : Nat) (l : List RS) (B : Option Addr) (y : Nat) (m : List RS) (w : World) (hE : EnvW w) (hr : Kd.C k34 w A l.length l) (hc : l.length ≤ z) (hr2 : Kd.C k34 w B m.length m) (hc2 : m.length ≤ y) (hs : s.size ≤ 140737488351232) (hl : l.length ≤ 1000000000000000) (hm : m.length ≤ 1000000000000000) :
    Calls Tryd.prog 5 #[.string s, .slice A l.length z, .slice B m.length y] w fun e w' => e = .returned (.bool true) ∧ Below w.heap.size w w' := by
  have HE := Lib.hid hE
  have HR := Lib.hid hr
  have HR2 := Lib.hid hr2
  clear hE hr hr2
  by_cases hbig : 5000 < s.size ∨ 200 < l.length + m.length
  · by_cases h2 : 5000 < s.size
    · have d1 : decide ((5000 : Int) < (s.size : Int)) = true := decide_eq_true (by omega)
      clear hbig h2
      go_enter Tryd.func5, Tryd.ntmps5
      go_wp2_with fail
      refine (alive_calls _ HE.out).mono ?_
      rintro e w2 ⟨rfl, hb2⟩
      have B2 := Lib.hid hb2
      clear hb2
      go_wp2_with fail
      refine (alive_calls _ (HE.out.below B2.out)).mono ?_
      rintro e w3 ⟨rfl, hb3⟩
      have B3 := Lib.hid (bth B2.out hb3)
      clear hb3
      go_wp2
      go_ret
      exact ⟨rfl, B3.out⟩
    · have d1 : decide ((5000 : Int) < (s.size : Int)) = false := decide_eq_false (by omega)
      have d2 : decide ((200 : Int) < (l.length : Int) + (m.length : Int)) = true := decide_eq_true (by omega)
      clear hbig h2
      go_enter Tryd.func5, Tryd.ntmps5
      go_wp2_with fail
      refine (alive_calls _ HE.out).mono ?_
      rintro e w2 ⟨rfl, hb2⟩
      have B2 := Lib.hid hb2
      clear hb2
      go_wp2_with fail
      refine (alive_calls _ (HE.out.below B2.out)).mono ?_
      rintro e w3 ⟨rfl, hb3⟩
      have B3 := Lib.hid (bth B2.out hb3)
      clear hb3
      go_wp2
      go_ret
      exact ⟨rfl, B3.out⟩
  · have d1 : decide ((5000 : Int) < (s.size : Int)) = false := decide_eq_false (by omega)
    have d2 : decide ((200 : Int) < (l.length : Int) + (m.length : Int)) = false := decide_eq_false (by omega)
    have hs5 : s.size ≤ 5000 := by omega
    have hlm : l.length + m.length ≤ 200 := by omega
    clear hbig
    go_enter Tryd.func5, Tryd.ntmps5
    go_wp2_with fail
    refine (alive_calls _ HE.out).mono ?_
    rintro e w2 ⟨rfl, hb2⟩
    have B2 := Lib.hid hb2
    clear hb2
    have C1 := Lib.hid (Kd.C_below HR.out B2.out)
    have C2 := Lib.hid (Kd.C_below HR2.out B2.out)
    go_wp2_with (at_builtin; go_loud (refine Kd.R_append_rows k34 w2.heap.size rfl _ _ 24 34 (.agg #[.int .i64 0, .int .i64 0]) 16 rfl Tryd.underlying24 infoR rfl (by decide) (by decide) (.slice none 0 0) [] l A l.length z (fun _ => True) (fun _ => False) rfl rfl (Kd.R_nil _ _ _ _ _) C1.out (fun x cs h => mk_R _ _ _ _ x cs h) (fun _ hk => hk.elim) (fun _ _ => trivial) (Below.refl _ _) (Nat.le_refl _) (by simp; omega) ?_))
    intro v1 w3 hR1 hb3 hg3 hat3
    have B3 := Lib.hid hb3
    have C3 := Lib.hid (Kd.C_below C2.out hb3)
    have R1 := Lib.hid hR1
    have hz3 := hb3.size
    clear hb3 hg3 hR1
    go_wp2_with (at_builtin; go_loud (refine Kd.R_append_rows k34 w2.heap.size rfl _ _ 24 34 (.agg #[.int .i64 0, .int .i64 0]) 16 rfl Tryd.underlying24 infoR rfl (by decide) (by decide) v1 ([] ++ l) m B m.length y (fun _ => True) (fun _ => False) rfl rfl R1.out (ReadsRow.imp_ C2.out B3.out (fun _ _ h => h)) (fun x cs h => mk_R _ _ _ _ x cs h) (fun _ hk => hk.elim) (fun _ _ => trivial) B3.out hz3 (by simp; omega) ?_))
    intro v2 w4 hR2 hb4 hg4 hat4
    obtain ⟨Am, Ac, rfl, hcap, hC⟩ := Kd.R_reads hR2
    obtain ⟨L, hL⟩ : ∃ L, l ++ m = L := ⟨_, rfl⟩
    rw [hL] at hcap hC ⊢
    have hL2 : l ++ m = L := hL
    have HC := Lib.hid hC
    have B4 := Lib.hid (bth B2.out hb4)
    clear hL hR2 hb4 hg4 hat4 hat3 C3 hC R1
    go_wp2_with fail
    refine (bytes_calls s (by omega) Am Ac L _ HC.out hcap).mono ?_
    rintro e w5 ⟨rfl, hb5⟩
    have B5 := Lib.hid (bth B4.out hb5)
    clear hb5
    obtain ⟨p, hp⟩ : ∃ p, hasN L = p := ⟨_, rfl⟩
    have hpi : ∀ i, p i = (hasN l i || hasN m i) := fun i => by rw [← hp, ← hL2, has_app]
    rw [hp]
    obtain ⟨X, hX⟩ : ∃ X, pickL p 1 s.data.toList = X := ⟨_, rfl⟩
    obtain ⟨b, hb⟩ : ∃ b : ByteArray, ⟨X.toArray⟩ = b := ⟨_, rfl⟩
    have hbl : b.data.toList = X := by rw [← hb]
    have hbs : b.size = X.length := by rw [Lib.size_eq, hbl]
    have hXl : X.length ≤ s.size := by rw [← hX, Lib.size_eq]; exact pick_len _ _ _
    rw [hX, hb]
    have HPI := Lib.hid hpi
    have HX := Lib.hid hX
    have HBL := Lib.hid hbl
    have HR5 := Lib.hid (Kd.C_below HR.out B5.out)
    have HRM5 := Lib.hid (Kd.C_below HR2.out B5.out)
    have hls : s.data.toList.length = s.size := (Lib.size_eq s).symm
    have HLS := Lib.hid hls
    clear hpi hX hbl hb hls hp HC C1 C2
    go_wp2
    go_loopw [9, 10] (fun k i wr => ∃ i0 k0 : Nat, i0 ≤ s.size ∧ k0 ≤ X.length ∧ k = .int .i64 k0 ∧ i = .int .i64 i0 ∧ Hid ((pickL p 1 (s.data.toList.take i0)).length = k0 ∧ Below w5.heap.size w5 wr)) (fun _ i _ => s.size - (intOf i).toNat)
    case atStart => exact ⟨0, 0, Nat.zero_le _, Nat.zero_le _, rfl, rfl, Lib.hid ⟨rfl, Below.refl _ _⟩⟩
    case round =>
      obtain ⟨i, k, hi, hk, rfl, rfl, hst⟩ := hrel
      by_cases hlt : i < s.size
      · have hh1 := fun w h => has_calls A z l ((i : Int) + 1) w h hc
        have hh2 := fun w h => has_calls B y m ((i : Int) + 1) w h hc2
        have hq1 : hasR l ((i : Int) + 1) = hasN l (i + 1) := rfl
        have hq2 : hasR m ((i : Int) + 1) = hasN m (i + 1) := rfl
        rw [hq1] at hh1
        rw [hq2] at hh2
        have H1 := Lib.hid hh1
        have H2 := Lib.hid hh2
        clear hh1 hh2 hq1 hq2
        have hpi := HPI.out (i + 1)
        cases hv1 : hasN l (i + 1) with
        | true =>
          rw [hv1] at H1 hpi
          rw [Bool.true_or] at hpi
          go_wp2_with fail
          refine (H1.out _ (Kd.C_below HR5.out hst.out.2)).mono ?_
          rintro e w6 ⟨rfl, hb6⟩
          have B6 := Lib.hid (bth hst.out.2 hb6)
          clear hb6
          have BZ := B6
          obtain ⟨a1, a2⟩ := pick_at p s.data.toList i (by rw [HLS.out]; exact hlt) hpi
          have a3 := pick_next p s.data.toList i (by rw [HLS.out]; exact hlt)
          rw [hpi, if_pos rfl, hst.out.1] at a3
          rw [hst.out.1, HX.out] at a1 a2
          have hkb : k < b.size := by omega
          rw [← HBL.out, getD_byte b k hkb] at a2
          have a4 : s.data.toList[i]'(by rw [HLS.out]; exact hlt) = s[i] := rfl
          rw [a4] at a2
          have A3 := Lib.hid a3
          have g1 : ((k : Int) == (b.size : Int)) = false := by rw [beq_eq_false_iff_ne]; omega
          have g2 : ¬ k = b.size := by omega
          clear a3 a4 hpi hbs
          go_wp2_with fail
          go_quiet (fail)
          have BQ := Lib.hid (bdn BZ.out nq)
          clear a2 g1 g2
          go_wp2
          go_roundw
          case rel => exact ⟨i + 1, k + 1, by omega, by omega, by go_num, by go_num, Lib.hid ⟨A3.out, BQ.out⟩⟩
          case measure => simp [intOf]; omega
        | false =>
          rw [hv1] at H1 hpi
          rw [Bool.false_or] at hpi
          go_wp2_with fail
          refine (H1.out _ (Kd.C_below HR5.out hst.out.2)).mono ?_
          rintro e w6 ⟨rfl, hb6⟩
          have B6 := Lib.hid (bth hst.out.2 hb6)
          clear hb6
          cases hv2 : hasN m (i + 1) with
          | true =>
            rw [hv2] at H2 hpi
            go_wp2_with fail
            refine (H2.out _ (Kd.C_below HRM5.out B6.out)).mono ?_
            rintro e w7 ⟨rfl, hb7⟩
            have BZ := Lib.hid (bth B6.out hb7)
            clear hb7
            obtain ⟨a1, a2⟩ := pick_at p s.data.toList i (by rw [HLS.out]; exact hlt) hpi
            have a3 := pick_next p s.data.toList i (by rw [HLS.out]; exact hlt)
            rw [hpi, if_pos rfl, hst.out.1] at a3
            rw [hst.out.1, HX.out] at a1 a2
            have hkb : k < b.size := by omega
            rw [← HBL.out, getD_byte b k hkb] at a2
            have a4 : s.data.toList[i]'(by rw [HLS.out]; exact hlt) = s[i] := rfl
            rw [a4] at a2
            have A3 := Lib.hid a3
            have g1 : ((k : Int) == (b.size : Int)) = false := by rw [beq_eq_false_iff_ne]; omega
            have g2 : ¬ k = b.size := by omega
            clear a3 a4 hpi hbs
            go_wp2_with fail
            go_quiet (fail)
            have BQ := Lib.hid (bdn BZ.out nq)
            clear a2 g1 g2
            go_wp2
            go_roundw
            case rel => exact ⟨i + 1, k + 1, by omega, by omega, by go_num, by go_num, Lib.hid ⟨A3.out, BQ.out⟩⟩
            case measure => simp [intOf]; omega
          | false =>
            rw [hv2] at H2 hpi
            go_wp2_with fail
            refine (H2.out _ (Kd.C_below HRM5.out B6.out)).mono ?_
            rintro e w7 ⟨rfl, hb7⟩
            have BZ := Lib.hid (bth B6.out hb7)
            clear hb7
            have a3 := pick_next p s.data.toList i (by rw [HLS.out]; exact hlt)
            rw [hpi, if_neg (by decide), hst.out.1] at a3
            have A3 := Lib.hid a3
            clear a3 hpi
            go_wp2
            go_roundw
            case rel => exact ⟨i + 1, k, by omega, by omega, rfl, by go_num, Lib.hid ⟨A3.out, BZ.out⟩⟩
            case measure => simp [intOf]; omega
      · obtain rfl : i = s.size := by omega
        have hke : X.length = k := by
          have := hst.out.1
          rw [← HLS.out, List.take_length, HX.out] at this
          exact this
        subst hke
        have g1 : ((X.length : Int) == (b.size : Int)) = true := by rw [hbs]; simp
        go_wp2
        go_ret
        exact ⟨rfl, bth B5.out hst.out.2⟩
theorem CutsPlaces_walk {OkR : RS → Prop} (a0 : ByteArray) (A1 : Option Addr) (z1 : Nat) (l1 : List RS) (A2 : Option Addr) (z2 : Nat) (l2 : List RS) (W : World) (hE : EnvW W) (ok0 : a0.size ≤ 140737488351232) (hr1 : Kd.C k34 W A1 l1.length l1) (hc1 : l1.length ≤ z1) (ok1 : (∀ a ∈ l1, OkR a) ∧ l1.length * 16 ≤ 140737488351232) (hr2 : Kd.C k34 W A2 l2.length l2) (hc2 : l2.length ≤ z2) (ok2 : (∀ a ∈ l2, OkR a) ∧ l2.length * 16 ≤ 140737488351232) :
    Calls Tryd.prog 5 #[.string a0, .slice A1 l1.length z1, .slice A2 l2.length z2] W fun e W' => e = .returned (.bool true) ∧ Below W.heap.size W W' :=
  cutsPlaces a0 A1 z1 l1 A2 z2 l2 W hE hr1 hc1 hr2 hc2 ok0 (by omega) (by omega)
end Go.Proofs.YtkedjlekeohpaaaDoor.P

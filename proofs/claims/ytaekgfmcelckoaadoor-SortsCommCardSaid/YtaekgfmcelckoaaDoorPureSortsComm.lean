/- SortsComm: the walk of the law. -/
import Derived.Test.YtaekgfmcelckoaaDoorCommP
import Derived.Deep.RegionHeld3
import Derived.BigQuiet
import Derived.Laws.IdiomStrings
set_option linter.unusedVariables false
set_option linter.unusedSimpArgs false
namespace Go.Proofs.YtaekgfmcelckoaaDoor.P
open Go.RowKit Go.Proofs Go.Proofs.YtaekgfmcelckoaaDoor.Q Go.Proofs.YtaekgfmcelckoaaDoor.H Go.Proofs.YtaekgfmcelckoaaDoor.K Go.Proofs.YtaekgfmcelckoaaDoor.S Go.Proofs.YtaekgfmcelckoaaDoorW.PrintWords Go.Proofs.YtaekgfmcelckoaaDoorW.PrintLast

theorem texts_each (l : List ByteArray) : ∀ s ∈ l, s.size ≤ textsN l := by
  induction l with
  | nil => intro s h; cases h
  | cons x l ih =>
    intro s h
    have e : textsN (x :: l) = textsN l + (x.size + 1) := by simp [textsN]; omega
    rcases List.mem_cons.1 h with rfl | h
    · omega
    · have := ih s h; omega
theorem few_two (A B : Option Addr) (z y : Nat) (l m : List ByteArray) (W : World) (hc : l.length ≤ z) (hd : m.length ≤ y) (h : Kd.C Kd.string W A l.length l) (g : Kd.C Kd.string W B m.length m) (ok : (∀ a ∈ l, a.size ≤ 140737488351232) ∧ l.length * 16 ≤ 140737488351232) (ok2 : (∀ a ∈ m, a.size ≤ 140737488351232) ∧ m.length * 16 ≤ 140737488351232) :
    Calls Tryd.prog 17 #[.slice (some ⟨W.heap.size, 0, none⟩) 2 2] (W.alloc (.cells #[.slice A l.length z, .slice B m.length y] 22)) fun e w' => (∃ r, e = .returned (.bool r) ∧ (r = true → l.length ≤ 300 ∧ m.length ≤ 300 ∧ ∀ s ∈ l ++ m, s.size ≤ 20000)) ∧ Below W.heap.size W w' := by
  refine (few_calls (some ⟨W.heap.size, 0, none⟩) 2 [l, m] _ (rows_two W A B l m z y hc hd h g) (by simp) (by simp) (fun x hx => by
    rcases List.mem_cons.1 hx with rfl | hx
    · exact ok
    · rw [List.mem_singleton.1 hx]; exact ok2)).mono ?_
  rintro e w' ⟨⟨r, rfl, hr⟩, hb⟩
  refine ⟨⟨r, rfl, fun e => ?_⟩, bth (bal (Below.refl _ _) _) hb⟩
  have h1 := (hr e).each l (by simp)
  have h2 := (hr e).each m (by simp)
  refine ⟨h1.1, h2.1, fun s hs => ?_⟩
  rcases List.mem_append.1 hs with hs | hs
  · exact Nat.le_trans (texts_each l s hs) h1.2
  · exact Nat.le_trans (texts_each m s hs) h2.2
theorem sort_z (R : List ByteArray) (A : Option Addr) (cap n k : Nat) (l : List ByteArray) (hR : sortL false false false false false 0 0 0 l = R) (hn : l.length = n) (hk : R.length = k) (w : World) (hr : Kd.C Kd.string w A l.length l) (hc : n ≤ cap) (hl : n ≤ 65536) (hs : ∀ s ∈ l, s.size ≤ 1000000) :
    Calls Tryd.prog 19 #[.agg #[.bool false, .bool false, .bool false, .bool false, .int .i64 0, .int .i64 0, .int .u8 0], .slice A n cap, .bool false] w fun e w' => (∃ A' c' g, e = .returned (.tuple #[.slice A' k c', .int .i64 0]) ∧ k ≤ c' ∧ c' ≤ maxLen ∧ (0 < R.length → A' = some ⟨g, 0, none⟩) ∧ Kd.C Kd.string w' A' R.length R) ∧ Below w.heap.size w w' := by
  subst hn
  subst hk
  refine (sortA_calls false false false false 0 0 0 s7 A cap l w hr hc hl hs).mono ?_
  rintro e w' ⟨v, rfl, ht, hb⟩
  rw [hR] at ht
  obtain ⟨A', c', rfl, h1, h2⟩ := ht.reads
  refine ⟨?_, hb⟩
  by_cases h0 : 0 < R.length
  · obtain ⟨g, cap, e, _, _, h3, h4⟩ := own_formN ht h0
    injection e with e1 _ e3
    exact ⟨A', c', g, rfl, h1, by rw [e3]; exact h4, fun _ => e1, h2⟩
  · rcases ht.2 with ⟨e, _⟩ | ⟨g, cap, cur, e, _, _, h3, h4, _⟩
    · injection e with e1 _ e3
      exact ⟨A', c', 0, rfl, h1, by rw [e3]; exact Nat.zero_le _, fun h => absurd h h0, h2⟩
    · injection e with e1 _ e3
      exact ⟨A', c', g, rfl, h1, by rw [e3]; exact h4, fun h => absurd h h0, h2⟩
theorem mrg_z (A B : Option Addr) (l m R : List ByteArray) (hR : R.Perm (l ++ m)) (hA : Asc cmpB R) (z y k : Nat) (hk : R.length = k) (W : World) (hc : l.length ≤ z) (hd : m.length ≤ y) (h : Kd.C Kd.string W A l.length l) (g : Kd.C Kd.string W B m.length m) (hs : ∀ s ∈ l ++ m, s.size ≤ 1000000) (hl : l.length + m.length ≤ 65536)
    (al : Asc cmpB l) (am : Asc cmpB m) :
    Calls Tryd.prog 24 #[.agg #[.bool false, .bool false, .bool false, .bool false, .int .i64 0, .int .i64 0, .int .u8 0], .slice (some ⟨W.heap.size, 0, none⟩) 2 2] (W.alloc (.cells #[.slice A l.length z, .slice B m.length y] 22)) fun e w' => (∃ A' c', e = .returned (.tuple #[.slice A' k c', .int .i64 0]) ∧ k ≤ c' ∧ Kd.C Kd.string w' A' R.length R) ∧ Below W.heap.size W w' := by
  subst hk
  refine (Merge_calls false false false false 0 0 0 s7 (some ⟨W.heap.size, 0, none⟩) 2 [l, m] _ (rows_two W A B l m z y hc hd h g) (by simp) (by simp) (fun x hx s hs' => ?_) (by simp; omega)).mono ?_
  · rcases List.mem_cons.1 hx with rfl | hx
    · exact hs s (by simp [hs'])
    · rw [List.mem_singleton.1 hx] at hs'; exact hs s (by simp [hs'])
  · rintro e w' ⟨hv, hb⟩
    have hb' := bth (bal (Below.refl _ _) _) hb
    rcases hv with ⟨rfl, x, hx, h0⟩ | ⟨-, v, R', rfl, h1, h2, h3⟩
    · exfalso
      rcases List.mem_cons.1 hx with rfl | hx
      · rw [check_asc false false false false 0 0 0 _ ((asc_plain _).2 al)] at h0; omega
      · rw [List.mem_singleton.1 hx, check_asc false false false false 0 0 0 _ ((asc_plain _).2 am)] at h0; omega
    · have e : R' = R := asc_one false false false false 0 0 0 R' R ((by simpa using h2 : R'.Perm (l ++ m)).trans hR.symm) h3 ((asc_plain _).2 hA)
      subst e
      obtain ⟨A', c', rfl, h4, h5⟩ := h1.reads
      exact ⟨⟨A', c', rfl, h4, h5⟩, hb'⟩
theorem comm_rd (A1 A2 : Option Addr) (g1 g2 c1 c2 n k : Nat) (l1 l2 o t b : List ByteArray) (he : comm l1 l2 = (o, t, b)) (hn : l1.length = n) (hk : l2.length = k) (w : World) (hA1 : 0 < l1.length → A1 = some ⟨g1, 0, none⟩) (hA2 : 0 < l2.length → A2 = some ⟨g2, 0, none⟩) (h1 : Kd.C Kd.string w A1 l1.length l1) (h2 : Kd.C Kd.string w A2 l2.length l2) (k1 : n ≤ c1) (k2 : k ≤ c2) (hl : n + k ≤ 4000000) (hz1 : c1 ≤ maxLen) (hz2 : c2 ≤ maxLen) :
    Calls Tryd.prog 25 #[.slice A1 n c1, .slice A2 k c2] w fun e w' => (∃ P1 p1 P2 p2 P3 p3, e = .returned (.tuple #[.slice P1 o.length p1, .slice P2 t.length p2, .slice P3 b.length p3]) ∧ o.length ≤ p1 ∧ t.length ≤ p2 ∧ b.length ≤ p3 ∧ Kd.C Kd.string w' P1 o.length o ∧ Kd.C Kd.string w' P2 t.length t ∧ Kd.C Kd.string w' P3 b.length b) ∧ Below w.heap.size w w' := by
  subst hn
  subst hk
  refine (commN_calls A1 A2 g1 g2 c1 c2 l1 l2 w hA1 hA2 h1 h2 k1 k2 hl hz1 hz2).mono ?_
  rw [he]
  rintro e w' ⟨x1, x2, x3, rfl, o1, o2, o3, -, -, -, hb⟩
  obtain ⟨P1, p1, rfl, q1, r1⟩ := reads_own' o1
  obtain ⟨P2, p2, rfl, q2, r2⟩ := reads_own' o2
  obtain ⟨P3, p3, rfl, q3, r3⟩ := reads_own' o3
  exact ⟨⟨P1, p1, P2, p2, P3, p3, rfl, q1, q2, q3, r1, r2, r3⟩, hb⟩
set_option maxHeartbeats 4000000 in
set_option maxRecDepth 100000 in
theorem SortsComm_walk (A0 : Option Addr) (z0 : Nat) (l0 : List ByteArray) (A1 : Option Addr) (z1 : Nat) (l1 : List ByteArray) (W : World) (hr0 : Kd.C Kd.string W A0 l0.length l0) (hc0 : l0.length ≤ z0) (ok0 : (∀ a ∈ l0, a.size ≤ 140737488351232) ∧ l0.length * 16 ≤ 140737488351232) (hr1 : Kd.C Kd.string W A1 l1.length l1) (hc1 : l1.length ≤ z1) (ok1 : (∀ a ∈ l1, a.size ≤ 140737488351232) ∧ l1.length * 16 ≤ 140737488351232) :
    Calls Tryd.prog 9 #[.slice A0 l0.length z0, .slice A1 l1.length z1] W fun e W' => e = .returned (.bool true) ∧ Below W.heap.size W W' := by
  have HAL := Lib.hid (fun w => alive_calls w)
  have HR := Lib.hid hr0
  have HR2 := Lib.hid hr1
  have HOK := Lib.hid ok0
  have HOK2 := Lib.hid ok1
  clear hr0 hr1 ok0 ok1
  go_enter Tryd.func9, Tryd.ntmps9
  go_wp2_with fail
  with_reducible refine (HAL.out _).mono ?_
  rintro e w1 ⟨rfl, hb1⟩
  have B1 := Lib.hid hb1
  clear hb1
  go_wp2_with fail
  with_reducible refine (few_two A0 A1 z0 z1 l0 l1 w1 hc0 hc1 (Kd.C_below HR.out B1.out) (Kd.C_below HR2.out B1.out) HOK.out HOK2.out).mono ?_
  rintro e w2 ⟨⟨r, rfl, hrr⟩, hb2⟩
  have B2 := Lib.hid (bth B1.out hb2)
  have HRR := Lib.hid hrr
  clear hb2 hrr
  cases r with
  | false =>
    go_wp2_with fail
    with_reducible refine (HAL.out _).mono ?_
    rintro e w9 ⟨rfl, hb9⟩
    have B9 := Lib.hid (bth B2.out hb9)
    clear hb9
    go_wp2
    go_ret
    exact ⟨rfl, B9.out⟩
  | true =>
    have hll := (HRR.out rfl).1
    have hlm := (HRR.out rfl).2.1
    have has : ∀ s ∈ l0 ++ l1, s.size ≤ 1000000 := fun s hs => Nat.le_trans ((HRR.out rfl).2.2 s hs) (by decide)
    have hp1 := sortA_perm false false false false 0 0 0 l0
    have hp2 := sortA_perm false false false false 0 0 0 l1
    have ha1 := (asc_plain _).1 (sortA_asc false false false false 0 0 0 l0)
    have ha2 := (asc_plain _).1 (sortA_asc false false false false 0 0 0 l1)
    obtain ⟨a, ha⟩ : ∃ a, sortL false false false false false 0 0 0 l0 = a := ⟨_, rfl⟩
    obtain ⟨b, hb⟩ : ∃ b, sortL false false false false false 0 0 0 l1 = b := ⟨_, rfl⟩
    rw [ha] at hp1 ha1
    rw [hb] at hp2 ha2
    obtain ⟨o, ho⟩ : ∃ o, (comm a b).1 = o := ⟨_, rfl⟩
    obtain ⟨t, ht⟩ : ∃ t, (comm a b).2.1 = t := ⟨_, rfl⟩
    obtain ⟨q, hq⟩ : ∃ q, (comm a b).2.2 = q := ⟨_, rfl⟩
    have hce : comm a b = (o, t, q) := by rw [← ho, ← ht, ← hq]
    obtain ⟨k1, k2, k3, k4, k5⟩ := comm_tells _ a b (Nat.le_refl _)
    have kap := comm_apart _ a b (Nat.le_refl _) ha1 ha2
    rw [hce] at k1 k2 k3 k4 k5 kap
    dsimp only at k1 k2 k3 k4 k5 kap
    have hn1 := hp1.length_eq
    have hn2 := hp2.length_eq
    have hm1 := k1.length_eq
    have hm2 := k2.length_eq
    rw [List.length_append] at hm1 hm2
    have hsa : ∀ s ∈ a, s.size ≤ 1000000 := fun s h => has s (List.mem_append_left _ (hp1.mem_iff.1 h))
    have hsb : ∀ s ∈ b, s.size ≤ 1000000 := fun s h => has s (List.mem_append_right _ (hp2.mem_iff.1 h))
    have HS1 := Lib.hid (fun w h => sort_z a A0 z0 l0.length l0.length l0 ha rfl hn1 w h hc0 (by omega) (fun s hs => has s (List.mem_append_left _ hs)))
    have HS2 := Lib.hid (fun w h => sort_z b A1 z1 l1.length l1.length l1 hb rfl hn2 w h hc1 (by omega) (fun s hs => has s (List.mem_append_right _ hs)))
    have HCM := Lib.hid (fun P1 P2 g1 g2 c1 c2 w x1 x2 x3 x4 x5 x6 x7 x8 => comm_rd P1 P2 g1 g2 c1 c2 l0.length l1.length a b o t q hce hn1 hn2 w x1 x2 x3 x4 x5 x6 (by omega) x7 x8)
    have HM1 := Lib.hid (fun A B z y W x1 x2 x3 x4 => mrg_z A B o q a k1.symm ha1 z y l0.length hn1 W x1 x2 x3 x4 (fun s h => hsa s (k1.mem_iff.1 h)) (by omega) (ha1.sublist k3) (ha1.sublist k5))
    have HM2 := Lib.hid (fun A B z y W x1 x2 x3 x4 => mrg_z A B t q b k2.symm ha2 z y l1.length hn2 W x1 x2 x3 x4 (fun s h => hsb s (k2.mem_iff.1 h)) (by omega) (ha2.sublist k4) (ha1.sublist k5))
    obtain ⟨ka, hka⟩ := same_ev a (by omega)
    obtain ⟨kb, hkb⟩ := same_ev b (by omega)
    have HSA := Lib.hid (fun A c A' c' w h1 h2 h3 h4 => toolchestlaw01_SameTexts.calls ka A c a A' c' a true w h1 h2 h3 h4 hka)
    have HSB := Lib.hid (fun A c A' c' w h1 h2 h3 h4 => toolchestlaw01_SameTexts.calls kb A c b A' c' b true w h1 h2 h3 h4 hkb)
    rw [hn1] at HSA
    rw [hn2] at HSB
    have HN := Lib.hid (And.intro hn1 hn2)
    have KAP := Lib.hid kap
    have hol : o.length ≤ 300 := by omega
    have htl : t.length ≤ 300 := by omega
    clear has hp1 hp2 ha1 ha2 ha hb ho ht hq hce k1 k2 k3 k4 k5 kap hn1 hn2 hm1 hm2 hsa hsb hka hkb HRR
    go_wp2_with fail
    with_reducible refine (HS1.out _ (Kd.C_below HR.out B2.out)).mono ?_
    rintro e w4 ⟨⟨A4, c4, g4, rfl, hc4, hz4, hA4, hC4⟩, hb4⟩
    have B4 := Lib.hid (bth B2.out hb4)
    have C4 := Lib.hid (And.intro hA4 hC4)
    clear hb4 hC4 hA4
    go_wp2_with fail
    with_reducible refine (HS2.out _ (Kd.C_below HR2.out B4.out)).mono ?_
    rintro e w5 ⟨⟨A5, c5, g5, rfl, hc5, hz5, hA5, hC5⟩, hb5⟩
    have B5 := Lib.hid (bth B4.out hb5)
    have C5 := Lib.hid (And.intro (Kd.C_below C4.out.2 hb5) hC5)
    have C5A := Lib.hid hA5
    clear hb5 hC5 hA5
    go_wp2_with fail
    with_reducible refine (HCM.out A4 A5 g4 g5 c4 c5 _ C4.out.1 C5A.out C5.out.1 C5.out.2 hc4 hc5 hz4 hz5).mono ?_
    rintro e w6 ⟨⟨P1, p1, P2, p2, P3, p3, rfl, u1, u2, u3, v1, v2, v3⟩, hb6⟩
    have B6 := Lib.hid (bth B5.out hb6)
    have C6 := Lib.hid (And.intro (Kd.C_below C5.out.1 hb6) (Kd.C_below C5.out.2 hb6))
    have V6 := Lib.hid (And.intro v1 (And.intro v2 v3))
    clear hb6 v1 v2 v3
    go_wp2_with fail
    with_reducible refine (HM1.out P1 P3 p1 p3 _ u1 u3 V6.out.1 V6.out.2.2).mono ?_
    rintro e w7 ⟨⟨A7, c7, rfl, hc7, hC7⟩, hb7⟩
    have B7 := Lib.hid (bth B6.out hb7)
    have C7 := Lib.hid (And.intro (Kd.C_below C6.out.1 hb7) (And.intro (Kd.C_below C6.out.2 hb7) hC7))
    have V7 := Lib.hid (And.intro (Kd.C_below V6.out.1 hb7) (And.intro (Kd.C_below V6.out.2.1 hb7) (Kd.C_below V6.out.2.2 hb7)))
    clear hb7 hC7
    go_wp2_with fail
    with_reducible refine (HM2.out P2 P3 p2 p3 _ u2 u3 V7.out.2.1 V7.out.2.2).mono ?_
    rintro e w8 ⟨⟨A8, c8, rfl, hc8, hC8⟩, hb8⟩
    have B8 := Lib.hid (bth B7.out hb8)
    have h81 := Kd.C_below C7.out.1 hb8
    have h82 := Kd.C_below C7.out.2.1 hb8
    have h83 := Kd.C_below C7.out.2.2 hb8
    rw [HN.out.1] at h81 h83
    rw [HN.out.2] at h82 hC8
    have C8 := Lib.hid (And.intro (And.intro h83 h81) (And.intro hC8 h82))
    have V8 := Lib.hid (And.intro (Kd.C_below V7.out.1 hb8) (Kd.C_below V7.out.2.1 hb8))
    clear hb8 hC8 h81 h82 h83
    go_wp2_with fail
    with_reducible refine (HSA.out A7 c7 A4 c4 _ C8.out.1.1 hc7 C8.out.1.2 hc4).mono ?_
    first | (rintro e w9 rfl hb9) | (rintro e w9 ⟨rfl, hb9⟩)
    have B9 := Lib.hid (bth B8.out hb9.below)
    have C9 := Lib.hid (And.intro (Kd.C_below C8.out.2.1 hb9.below) (Kd.C_below C8.out.2.2 hb9.below))
    have V9 := Lib.hid (And.intro (Kd.C_below V8.out.1 hb9.below) (Kd.C_below V8.out.2 hb9.below))
    clear hb9
    go_wp2_with fail
    with_reducible refine (HSB.out A8 c8 A5 c5 _ C9.out.1 hc8 C9.out.2 hc5).mono ?_
    first | (rintro e w10 rfl hb10) | (rintro e w10 ⟨rfl, hb10⟩)
    have B10 := Lib.hid (bth B9.out hb10.below)
    have V10 := Lib.hid (And.intro (Kd.C_below V9.out.1 hb10.below) (Kd.C_below V9.out.2 hb10.below))
    clear hb10
    go_wp2
    go_loopw [16] (fun i wr => ∃ k : Nat, k ≤ o.length ∧ i = .int .i64 (k : Int) ∧ Hid (Below w10.heap.size w10 wr)) (fun i _ => o.length - (intOf i).toNat)
    case atStart => exact ⟨0, Nat.zero_le _, rfl, Lib.hid (Below.refl _ _)⟩
    case round =>
      obtain ⟨k, hk, rfl, hst⟩ := hrel
      by_cases hlt : k < o.length
      · obtain ⟨ad, rfl, hx⟩ := C_at V10.out.1 hst.out k hlt
        have hno := KAP.out o[k] (List.getElem_mem hlt)
        obtain ⟨s, hs⟩ : ∃ s, o[k] = s := ⟨_, rfl⟩
        rw [hs] at hx hno
        have hcz : t.countP (fun x => decide (x.toList = s.toList)) = 0 := by
          rw [List.countP_eq_zero]
          intro x hx2 he
          have he := of_decide_eq_true he
          rw [ByteArray.toList_eq, ByteArray.toList_eq] at he
          rw [K.ext_bytes he] at hx2
          exact hno hx2
        have HCT := Lib.hid (count_calls P2 p2 t s wr (Kd.C_below V10.out.2 hst.out) u2 (by omega))
        rw [hcz] at HCT
        clear hs hno hcz
        go_wp2_with fail
        with_reducible refine HCT.out.mono ?_
        rintro e w11 ⟨rfl, hb11⟩
        have B11 := Lib.hid (bth hst.out hb11)
        clear hb11
        go_wp2
        go_roundw
        case rel => exact ⟨k + 1, hlt, by go_num, B11⟩
        case measure => simp [intOf]; omega
      · obtain rfl : k = o.length := by omega
        go_wp2
        go_ret
        exact ⟨rfl, bth B10.out hst.out⟩
end Go.Proofs.YtaekgfmcelckoaaDoor.P

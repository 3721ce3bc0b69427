/- SortsSame: the walk of the law. -/
import Derived.Test.YtaekgfmcelckoaaDoorSFew
import Derived.Deep.RegionHeld3
import Derived.Laws.IdiomStrings
set_option linter.unusedVariables false
set_option linter.unusedSimpArgs false
namespace Go.Proofs.YtaekgfmcelckoaaDoor.P
open Go.RowKit Go.Proofs Go.Proofs.YtaekgfmcelckoaaDoor.Q Go.Proofs.YtaekgfmcelckoaaDoor.H Go.Proofs.YtaekgfmcelckoaaDoor.K Go.Proofs.YtaekgfmcelckoaaDoor.S Go.Proofs.YtaekgfmcelckoaaDoorW.PrintWords Go.Proofs.YtaekgfmcelckoaaDoorW.PrintLast

theorem byteS_of (x : Int) (h : (Lit.int .u8 x).wf = true) : ∃ c : UInt8, x = (c.toNat : Int) := by
  have h' : 0 ≤ x ∧ x ≤ 255 := by simpa [Lit.wf, IntKind.min, IntKind.max, IntKind.signed, IntKind.bits] using h
  exact ⟨UInt8.ofNat x.toNat, by simp [UInt8.toNat_ofNat']; omega⟩
theorem texts_each (l : List ByteArray) : ∀ s ∈ l, s.size ≤ textsN l := by
  induction l with
  | nil => intro s h; cases h
  | cons x l ih =>
    intro s h
    have e : textsN (x :: l) = textsN l + (x.size + 1) := by simp [textsN]; omega
    rcases List.mem_cons.1 h with rfl | h
    · omega
    · have := ih s h; omega
/-- The order's box. -/
theorem ordBox (W : World) (nu fo bl re : Bool) (f t : Int) (c : UInt8) (V : World) (h : Below (W.alloc (.cells #[.bool nu, .bool fo, .bool bl, .bool re, .int .i64 f, .int .i64 t, .int .u8 (c.toNat : Int)] 36)).heap.size (W.alloc (.cells #[.bool nu, .bool fo, .bool bl, .bool re, .int .i64 f, .int .i64 t, .int .u8 (c.toNat : Int)] 36)) V) : V.cell? ⟨W.heap.size, 0, none⟩ = some (.bool nu) ∧ V.cell? ⟨W.heap.size, 1, none⟩ = some (.bool fo) ∧ V.cell? ⟨W.heap.size, 2, none⟩ = some (.bool bl) ∧ V.cell? ⟨W.heap.size, 3, none⟩ = some (.bool re) ∧ V.cell? ⟨W.heap.size, 4, none⟩ = some (.int .i64 f) ∧ V.cell? ⟨W.heap.size, 5, none⟩ = some (.int .i64 t) ∧ V.cell? ⟨W.heap.size, 6, none⟩ = some (.int .u8 (c.toNat : Int)) := by
  have h3 := (h.block W.heap.size (by simp)).trans (World.alloc_heap_new W _)
  obtain ⟨h0, h1, h2, h3'⟩ := ord_cells7 h3
  obtain ⟨h4, h5, h6⟩ := ord_cells h3
  exact ⟨h0, h1, h2, h3', h4, h5, h6⟩
theorem ckeck_ord (nu fo bl re : Bool) (f t : Int) (c : UInt8) (V : World) : Calls Tryd.prog 18 #[.agg #[.bool nu, .bool fo, .bool bl, .bool re, .int .i64 f, .int .i64 t, .int .u8 (c.toNat : Int)]] V fun e w' => e = .returned (.bool (checkO f t c)) ∧ Below V.heap.size V w' :=
  keys_Check.calls 1 nu fo bl re f t (c.toNat : Int) (checkO f t c) V (check_f 0 nu fo bl re f t c)
theorem few_one (A : Option Addr) (z : Nat) (l : List ByteArray) (W : World) (hc : l.length ≤ z) (h : Kd.C Kd.string W A l.length l) (ok : (∀ a ∈ l, a.size ≤ 140737488351232) ∧ l.length * 16 ≤ 140737488351232) :
    Calls Tryd.prog 17 #[.slice (some ⟨W.heap.size, 0, none⟩) 1 1] (W.alloc (.cells #[.slice A l.length z] 22)) fun e w' => (∃ r, e = .returned (.bool r) ∧ (r = true → l.length ≤ 300 ∧ ∀ s ∈ l, s.size ≤ 20000)) ∧ Below W.heap.size W w' := by
  refine (few_calls (some ⟨W.heap.size, 0, none⟩) 1 [l] _ (rows_one W A l z hc h) (by simp) (by simp) (fun x hx => by rw [List.mem_singleton.1 hx]; exact ok)).mono ?_
  rintro e w' ⟨⟨r, rfl, hr⟩, hb⟩
  refine ⟨⟨r, rfl, fun e => ?_⟩, bth (bal (Below.refl _ _) _) hb⟩
  have h1 := (hr e).each l (by simp)
  exact ⟨h1.1, fun s hs => Nat.le_trans (texts_each l s hs) h1.2⟩
theorem sortA_ord (nu fo bl re : Bool) (f t : Int) (c : UInt8) (hck : checkO f t c = true) (A : Option Addr) (cap : Nat) (l : List ByteArray) (w : World) (hr : Kd.C Kd.string w A l.length l) (hc : l.length ≤ cap) (hl : l.length ≤ 65536) (hs : ∀ s ∈ l, s.size ≤ 1000000) :
    Calls Tryd.prog 19 #[.agg #[.bool nu, .bool fo, .bool bl, .bool re, .int .i64 f, .int .i64 t, .int .u8 (c.toNat : Int)], .slice A l.length cap, .bool false] w fun e w' => (∃ A' c', e = .returned (.tuple #[.slice A' (sortL false nu fo bl re f t c l).length c', .int .i64 0]) ∧ (sortL false nu fo bl re f t c l).length ≤ c' ∧ Kd.C Kd.string w' A' (sortL false nu fo bl re f t c l).length (sortL false nu fo bl re f t c l)) ∧ Below w.heap.size w w' := by
  refine (sortA_calls nu fo bl re f t c hck A cap l w hr hc hl hs).mono ?_
  rintro e w' ⟨v, rfl, ht, hb⟩
  obtain ⟨A', c', rfl, h1, h2⟩ := ht.reads
  exact ⟨⟨A', c', rfl, h1, h2⟩, hb⟩
set_option maxHeartbeats 4000000 in
set_option maxRecDepth 100000 in
theorem SortsSame_walk (nu fo bl re : Bool) (f t : Int) (a0_6 : Int) (A1 : Option Addr) (z1 : Nat) (l1 : List ByteArray) (W : World) (ok0_4 : (Lit.int .i64 f).wf = true) (ok0_5 : (Lit.int .i64 t).wf = true) (ok0_6 : (Lit.int .u8 a0_6).wf = true) (hr1 : Kd.C Kd.string W A1 l1.length l1) (hc1 : l1.length ≤ z1) (ok1 : (∀ a ∈ l1, a.size ≤ 140737488351232) ∧ l1.length * 16 ≤ 140737488351232) :
    Calls Tryd.prog 4 #[.agg #[.bool nu, .bool fo, .bool bl, .bool re, .int .i64 f, .int .i64 t, .int .u8 a0_6], .slice A1 l1.length z1] W fun e W' => e = .returned (.bool true) ∧ Below W.heap.size W W' := by
  obtain ⟨c, rfl⟩ := byteS_of a0_6 ok0_6
  have HAL := Lib.hid (fun w => alive_calls w)
  obtain ⟨W0, hW0⟩ : ∃ W0, W.alloc (.cells #[.bool nu, .bool fo, .bool bl, .bool re, .int .i64 f, .int .i64 t, .int .u8 (c.toNat : Int)] 36) = W0 := ⟨_, rfl⟩
  have HOB := Lib.hid (show ∀ V, Below W0.heap.size W0 V → V.cell? ⟨W.heap.size, 0, none⟩ = some (.bool nu) ∧ V.cell? ⟨W.heap.size, 1, none⟩ = some (.bool fo) ∧ V.cell? ⟨W.heap.size, 2, none⟩ = some (.bool bl) ∧ V.cell? ⟨W.heap.size, 3, none⟩ = some (.bool re) ∧ V.cell? ⟨W.heap.size, 4, none⟩ = some (.int .i64 f) ∧ V.cell? ⟨W.heap.size, 5, none⟩ = some (.int .i64 t) ∧ V.cell? ⟨W.heap.size, 6, none⟩ = some (.int .u8 (c.toNat : Int)) from fun V h => ordBox W nu fo bl re f t c V (by rw [hW0]; exact h))
  have HR := Lib.hid (Kd.C_below hr1 (bal (Below.refl W.heap.size W) (.cells #[.bool nu, .bool fo, .bool bl, .bool re, .int .i64 f, .int .i64 t, .int .u8 (c.toNat : Int)] 36)))
  rw [hW0] at HR
  have HW := Lib.hid hW0
  have HOK := Lib.hid ok1
  clear hr1 hW0 ok1 ok0_6
  go_enter Tryd.func4, Tryd.ntmps4
  go_wp2_with fail
  rw [HW.out]
  with_reducible refine (HAL.out _).mono ?_
  rintro e w1 ⟨rfl, hb1⟩
  have B1 := Lib.hid hb1
  clear hb1
  go_wp2_with fail
  with_reducible refine (few_one A1 z1 l1 w1 hc1 (Kd.C_below HR.out B1.out) HOK.out).mono ?_
  rintro e w2 ⟨⟨r, rfl, hrr⟩, hb2⟩
  have B2 := Lib.hid (bth B1.out hb2)
  have HRR := Lib.hid hrr
  clear hb2 hrr
  cases r with
  | false =>
    go_wp2_with fail
    with_reducible refine (HAL.out _).mono ?_
    rintro e w9 ⟨rfl, hb9⟩
    have B9 := Lib.hid (bth B2.out hb9)
    clear hb9
    go_wp2
    go_ret
    exact ⟨rfl, bth (by rw [← HW.out]; exact bal (Below.refl _ _) _) B9.out⟩
  | true =>
    have hll := (HRR.out rfl).1
    have HSS := Lib.hid (HRR.out rfl).2
    clear HRR
    obtain ⟨e0, e1, e2, e3, e4, e5, e6⟩ := HOB.out _ B2.out
    obtain ⟨ck, hck⟩ : ∃ ck, checkO f t c = ck := ⟨_, rfl⟩
    have HCK := Lib.hid (fun V => ckeck_ord nu fo bl re f t c V)
    rw [hck] at HCK
    go_wp2_with fail
    with_reducible refine (HCK.out _).mono ?_
    rintro e w3 ⟨rfl, hb3⟩
    have B3 := Lib.hid (bth B2.out hb3)
    clear hb3 e0 e1 e2 e3 e4 e5 e6
    cases ck with
    | false =>
      go_wp2_with fail
      with_reducible refine (HAL.out _).mono ?_
      rintro e w9 ⟨rfl, hb9⟩
      have B9 := Lib.hid (bth B3.out hb9)
      clear hb9
      go_wp2
      go_ret
      exact ⟨rfl, bth (by rw [← HW.out]; exact bal (Below.refl _ _) _) B9.out⟩
    | true =>
      have hp := sortA_perm nu fo bl re f t c l1
      have hasc := sortA_asc nu fo bl re f t c l1
      have hself := sortA_self nu fo bl re f t c _ hasc
      have hchk := check_asc nu fo bl re f t c _ hasc
      have HS1 := Lib.hid (fun w h => sortA_ord nu fo bl re f t c hck A1 z1 l1 w h hc1 (by omega) (fun s hs => Nat.le_trans (HSS.out s hs) (by decide)))
      obtain ⟨a, ha⟩ : ∃ a, sortL false nu fo bl re f t c l1 = a := ⟨_, rfl⟩
      rw [ha] at HS1 hp hself hchk
      have hal : a.length = l1.length := hp.length_eq
      have has : ∀ s ∈ a, s.size ≤ 1000000 := fun s hs => Nat.le_trans (HSS.out s (hp.mem_iff.1 hs)) (by decide)
      have HS2 := Lib.hid (fun A' cap' w h h2 => sortA_ord nu fo bl re f t c hck A' cap' a w h h2 (by omega) has)
      rw [hself] at HS2
      have HCH := Lib.hid (fun A' cap' w h h2 => check_calls false nu fo bl re f t c A' cap' a w h h2 (by omega) has)
      rw [hchk] at HCH
      unfold ordV at HCH
      obtain ⟨ks, hke⟩ := same_ev a (by omega)
      have KE := Lib.hid hke
      have HP := Lib.hid (And.intro hp hal)
      have hdl : ((a.length : Int) != (l1.length : Int)) = false := by rw [hal]; simp
      have HDL := Lib.hid hdl
      clear ha hp hasc hself hchk has hke hck hdl hal
      obtain ⟨e0, e1, e2, e3, e4, e5, e6⟩ := HOB.out _ B3.out
      go_wp2_with fail
      with_reducible refine (HS1.out _ (Kd.C_below HR.out B3.out)).mono ?_
      rintro e w4 ⟨⟨A4, c4, rfl, hc4, hC4⟩, hb4⟩
      have B4 := Lib.hid (bth B3.out hb4)
      have C4 := Lib.hid hC4
      clear hb4 hC4 e0 e1 e2 e3 e4 e5 e6
      obtain ⟨e0, e1, e2, e3, e4, e5, e6⟩ := HOB.out _ B4.out
      go_wp2_with fail
      with_reducible refine (HS2.out _ _ _ C4.out hc4).mono ?_
      rintro e w5 ⟨⟨A5, c5, rfl, hc5, hC5⟩, hb5⟩
      have B5 := Lib.hid (bth B4.out hb5)
      have C5 := Lib.hid (And.intro (Kd.C_below C4.out hb5) hC5)
      clear hb5 hC5 e0 e1 e2 e3 e4 e5 e6
      have hdl := HDL.out
      go_wp2_with fail
      with_reducible refine (toolchestlaw01_SameTexts.calls ks A4 c4 a A5 c5 a true _ C5.out.1 hc4 C5.out.2 hc5 KE.out).mono ?_
      first | (rintro e w6 rfl hb6) | (rintro e w6 ⟨rfl, hb6⟩)
      have B6 := Lib.hid (bth B5.out hb6.below)
      have C6 := Lib.hid (Kd.C_below C5.out.1 hb6.below)
      clear hb6
      obtain ⟨e0, e1, e2, e3, e4, e5, e6⟩ := HOB.out _ B6.out
      go_wp2_with fail
      with_reducible refine (HCH.out _ _ _ C6.out hc4).mono ?_
      rintro e w7 ⟨rfl, hb7⟩
      have B7 := Lib.hid (bth B6.out hb7)
      have C7 := Lib.hid (Kd.C_below C6.out hb7)
      clear hb7 e0 e1 e2 e3 e4 e5 e6 hdl
      go_wp2
      go_loopw [9] (fun i wr => ∃ k : Nat, k ≤ l1.length ∧ i = .int .i64 (k : Int) ∧ Hid (Below w7.heap.size w7 wr)) (fun i _ => l1.length - (intOf i).toNat)
      case atStart => exact ⟨0, Nat.zero_le _, rfl, Lib.hid (Below.refl _ _)⟩
      case round =>
        obtain ⟨k, hk, rfl, hst⟩ := hrel
        by_cases hlt : k < l1.length
        · have R9 := Kd.C_below HR.out (bth B7.out hst.out)
          have C9 := Kd.C_below C7.out hst.out
          obtain ⟨ad, rfl, hx⟩ := C_at R9 (Below.refl _ _) k hlt
          obtain ⟨s, hs⟩ : ∃ s, l1[k] = s := ⟨_, rfl⟩
          rw [hs] at hx
          obtain ⟨n, hn⟩ : ∃ n, l1.countP (fun x => decide (x.toList = s.toList)) = n := ⟨_, rfl⟩
          have hn2 : a.countP (fun x => decide (x.toList = s.toList)) = n := by rw [← hn]; exact HP.out.1.countP_eq _
          have HC1 := Lib.hid (fun V (hV : Below wr.heap.size wr V) => count_calls A4 c4 a s V (Kd.C_below C9 hV) hc4 (by have := HP.out.2; omega))
          have HC2 := Lib.hid (fun V (hV : Below wr.heap.size wr V) => count_calls (some ad) z1 l1 s V (Kd.C_below R9 hV) hc1 (by omega))
          rw [hn2] at HC1
          rw [hn] at HC2
          have HCE := Lib.hid (show ∀ V, Below wr.heap.size wr V → V.cell? (ad.add k) = some (.string s) from fun V hV => pw_cell_below hV hx)
          have hne : ((n : Int) != (n : Int)) = false := by simp
          clear R9 C9 hs hn hn2 hx
          go_wp2_with fail
          go_region_held3 (fun V => Below wr.heap.size wr V ∧ V.cell? (ad.add k) = some (.string s))
            (with_reducible first | assumption | exact ⟨by assumption, HCE.out _ (by assumption)⟩ | exact ⟨bdr (Below.refl _ _), HCE.out _ (bdr (Below.refl _ _))⟩ | exact ⟨Below.refl _ _, HCE.out _ (Below.refl _ _)⟩) ((first
            | (go_at_call 22; with_reducible refine (HC1.out _ (show Below wr.heap.size wr _ ∧ _ from by assumption).1).mono ?_; rintro e w' ⟨rfl, hbq⟩; have hbq := bth (show Below wr.heap.size wr _ ∧ _ from by assumption).1 hbq)
            | (go_at_call 22; with_reducible refine (HC2.out _ (show Below wr.heap.size wr _ ∧ _ from by assumption).1).mono ?_; rintro e w' ⟨rfl, hbq⟩; have hbq := bth (show Below wr.heap.size wr _ ∧ _ from by assumption).1 hbq)))
          have BW := Lib.hid (show Below wr.heap.size wr _ ∧ _ from by assumption).1
          go_wp2
          go_roundw
          case rel => exact ⟨k + 1, hlt, by go_num, Lib.hid (bth hst.out BW.out)⟩
          case measure => simp [intOf]; omega
        · obtain rfl : k = l1.length := by omega
          go_wp2
          go_ret
          exact ⟨rfl, bth (by rw [← HW.out]; exact bal (Below.refl _ _) _) (bth B7.out hst.out)⟩
end Go.Proofs.YtaekgfmcelckoaaDoor.P

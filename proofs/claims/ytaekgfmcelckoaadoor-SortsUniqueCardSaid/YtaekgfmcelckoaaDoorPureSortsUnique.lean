/- SortsUnique: the walk of the law. -/
import Derived.Test.YtaekgfmcelckoaaDoorSUniq
import Derived.Deep.RegionHeld3
import Derived.BigQuiet
import Derived.Laws.IdiomStrings
set_option linter.unusedVariables false
set_option linter.unusedSimpArgs false
namespace Go.Proofs.YtaekgfmcelckoaaDoor.P
open Go.RowKit Go.Proofs Go.Proofs.YtaekgfmcelckoaaDoor.Q Go.Proofs.YtaekgfmcelckoaaDoor.H Go.Proofs.YtaekgfmcelckoaaDoor.K Go.Proofs.YtaekgfmcelckoaaDoor.S Go.Proofs.YtaekgfmcelckoaaDoorW.PrintWords Go.Proofs.YtaekgfmcelckoaaDoorW.PrintLast

theorem byteS_of (x : Int) (h : (Lit.int .u8 x).wf = true) : ∃ c : UInt8, x = (c.toNat : Int) := by
  have h' : 0 ≤ x ∧ x ≤ 255 := by simpa [Lit.wf, IntKind.min, IntKind.max, IntKind.signed, IntKind.bits] using h
  exact ⟨UInt8.ofNat x.toNat, by simp [UInt8.toNat_ofNat']; omega⟩
theorem texts_each (l : List ByteArray) : ∀ s ∈ l, s.size ≤ textsN l := by
  induction l with
  | nil => intro s h; cases h
  | cons x l ih =>
    intro s h
    have e : textsN (x :: l) = textsN l + (x.size + 1) := by simp [textsN]; omega
    rcases List.mem_cons.1 h with rfl | h
    · omega
    · have := ih s h; omega
/-- The order's box. -/
theorem ordBox (W : World) (nu fo bl re : Bool) (f t : Int) (c : UInt8) (V : World) (h : Below (W.alloc (.cells #[.bool nu, .bool fo, .bool bl, .bool re, .int .i64 f, .int .i64 t, .int .u8 (c.toNat : Int)] 36)).heap.size (W.alloc (.cells #[.bool nu, .bool fo, .bool bl, .bool re, .int .i64 f, .int .i64 t, .int .u8 (c.toNat : Int)] 36)) V) : V.cell? ⟨W.heap.size, 0, none⟩ = some (.bool nu) ∧ V.cell? ⟨W.heap.size, 1, none⟩ = some (.bool fo) ∧ V.cell? ⟨W.heap.size, 2, none⟩ = some (.bool bl) ∧ V.cell? ⟨W.heap.size, 3, none⟩ = some (.bool re) ∧ V.cell? ⟨W.heap.size, 4, none⟩ = some (.int .i64 f) ∧ V.cell? ⟨W.heap.size, 5, none⟩ = some (.int .i64 t) ∧ V.cell? ⟨W.heap.size, 6, none⟩ = some (.int .u8 (c.toNat : Int)) := by
  have h3 := (h.block W.heap.size (by simp)).trans (World.alloc_heap_new W _)
  obtain ⟨h0, h1, h2, h3'⟩ := ord_cells7 h3
  obtain ⟨h4, h5, h6⟩ := ord_cells h3
  exact ⟨h0, h1, h2, h3', h4, h5, h6⟩
theorem ckeck_ord (nu fo bl re : Bool) (f t : Int) (c : UInt8) (V : World) : Calls Tryd.prog 18 #[.agg #[.bool nu, .bool fo, .bool bl, .bool re, .int .i64 f, .int .i64 t, .int .u8 (c.toNat : Int)]] V fun e w' => e = .returned (.bool (checkO f t c)) ∧ Below V.heap.size V w' :=
  keys_Check.calls 1 nu fo bl re f t (c.toNat : Int) (checkO f t c) V (check_f 0 nu fo bl re f t c)
theorem few_one (A : Option Addr) (z : Nat) (l : List ByteArray) (W : World) (hc : l.length ≤ z) (h : Kd.C Kd.string W A l.length l) (ok : (∀ a ∈ l, a.size ≤ 140737488351232) ∧ l.length * 16 ≤ 140737488351232) :
    Calls Tryd.prog 17 #[.slice (some ⟨W.heap.size, 0, none⟩) 1 1] (W.alloc (.cells #[.slice A l.length z] 22)) fun e w' => (∃ r, e = .returned (.bool r) ∧ (r = true → l.length ≤ 300 ∧ ∀ s ∈ l, s.size ≤ 20000)) ∧ Below W.heap.size W w' := by
  refine (few_calls (some ⟨W.heap.size, 0, none⟩) 1 [l] _ (rows_one W A l z hc h) (by simp) (by simp) (fun x hx => by rw [List.mem_singleton.1 hx]; exact ok)).mono ?_
  rintro e w' ⟨⟨r, rfl, hr⟩, hb⟩
  refine ⟨⟨r, rfl, fun e => ?_⟩, bth (bal (Below.refl _ _) _) hb⟩
  have h1 := (hr e).each l (by simp)
  exact ⟨h1.1, fun s hs => Nat.le_trans (texts_each l s hs) h1.2⟩
theorem sortA_ord (nu fo bl re : Bool) (f t : Int) (c : UInt8) (hck : checkO f t c = true) (A : Option Addr) (cap : Nat) (l : List ByteArray) (w : World) (hr : Kd.C Kd.string w A l.length l) (hc : l.length ≤ cap) (hl : l.length ≤ 65536) (hs : ∀ s ∈ l, s.size ≤ 1000000) :
    Calls Tryd.prog 19 #[.agg #[.bool nu, .bool fo, .bool bl, .bool re, .int .i64 f, .int .i64 t, .int .u8 (c.toNat : Int)], .slice A l.length cap, .bool false] w fun e w' => (∃ A' c', e = .returned (.tuple #[.slice A' (sortL false nu fo bl re f t c l).length c', .int .i64 0]) ∧ (sortL false nu fo bl re f t c l).length ≤ c' ∧ Kd.C Kd.string w' A' (sortL false nu fo bl re f t c l).length (sortL false nu fo bl re f t c l)) ∧ Below w.heap.size w w' := by
  refine (sortA_calls nu fo bl re f t c hck A cap l w hr hc hl hs).mono ?_
  rintro e w' ⟨v, rfl, ht, hb⟩
  obtain ⟨A', c', rfl, h1, h2⟩ := ht.reads
  exact ⟨⟨A', c', rfl, h1, h2⟩, hb⟩
theorem sortU_ord (nu fo bl re : Bool) (f t : Int) (c : UInt8) (hck : checkO f t c = true) (R : List ByteArray) (A : Option Addr) (cap : Nat) (l : List ByteArray) (hR : sortL true nu fo bl re f t c l = R) (w : World) (hr : Kd.C Kd.string w A l.length l) (hc : l.length ≤ cap) (hl : l.length ≤ 65536) (hs : ∀ s ∈ l, s.size ≤ 1000000) :
    Calls Tryd.prog 19 #[.agg #[.bool nu, .bool fo, .bool bl, .bool re, .int .i64 f, .int .i64 t, .int .u8 (c.toNat : Int)], .slice A l.length cap, .bool true] w fun e w' => (∃ A' c', e = .returned (.tuple #[.slice A' R.length c', .int .i64 0]) ∧ R.length ≤ c' ∧ Kd.C Kd.string w' A' R.length R) ∧ Below w.heap.size w w' := by
  refine (sortU_calls nu fo bl re f t c hck A cap l w hr hc hl hs).mono ?_
  rintro e w' ⟨v, rfl, ht, hb⟩
  rw [hR] at ht
  obtain ⟨A', c', rfl, h1, h2⟩ := ht.reads
  exact ⟨⟨A', c', rfl, h1, h2⟩, hb⟩
set_option maxHeartbeats 4000000 in
set_option maxRecDepth 100000 in
theorem SortsUnique_walk (nu fo bl re : Bool) (f t : Int) (a0_6 : Int) (A1 : Option Addr) (z1 : Nat) (l1 : List ByteArray) (W : World) (ok0_4 : (Lit.int .i64 f).wf = true) (ok0_5 : (Lit.int .i64 t).wf = true) (ok0_6 : (Lit.int .u8 a0_6).wf = true) (hr1 : Kd.C Kd.string W A1 l1.length l1) (hc1 : l1.length ≤ z1) (ok1 : (∀ a ∈ l1, a.size ≤ 140737488351232) ∧ l1.length * 16 ≤ 140737488351232) :
    Calls Tryd.prog 6 #[.agg #[.bool nu, .bool fo, .bool bl, .bool re, .int .i64 f, .int .i64 t, .int .u8 a0_6], .slice A1 l1.length z1] W fun e W' => e = .returned (.bool true) ∧ Below W.heap.size W W' := by
  obtain ⟨c, rfl⟩ := byteS_of a0_6 ok0_6
  have HAL := Lib.hid (fun w => alive_calls w)
  obtain ⟨W0, hW0⟩ : ∃ W0, W.alloc (.cells #[.bool nu, .bool fo, .bool bl, .bool re, .int .i64 f, .int .i64 t, .int .u8 (c.toNat : Int)] 36) = W0 := ⟨_, rfl⟩
  have HOB := Lib.hid (show ∀ V, Below W0.heap.size W0 V → V.cell? ⟨W.heap.size, 0, none⟩ = some (.bool nu) ∧ V.cell? ⟨W.heap.size, 1, none⟩ = some (.bool fo) ∧ V.cell? ⟨W.heap.size, 2, none⟩ = some (.bool bl) ∧ V.cell? ⟨W.heap.size, 3, none⟩ = some (.bool re) ∧ V.cell? ⟨W.heap.size, 4, none⟩ = some (.int .i64 f) ∧ V.cell? ⟨W.heap.size, 5, none⟩ = some (.int .i64 t) ∧ V.cell? ⟨W.heap.size, 6, none⟩ = some (.int .u8 (c.toNat : Int)) from fun V h => ordBox W nu fo bl re f t c V (by rw [hW0]; exact h))
  have HBX := Lib.hid (show ∀ V, Below W0.heap.size W0 V → V.heap[W.heap.size]? = some (ordObj nu fo bl re f t c) ∧ W.heap.size < W0.heap.size from fun V h => ⟨(h.block W.heap.size (by rw [← hW0]; simp)).trans (by rw [← hW0]; exact World.alloc_heap_new W _), by rw [← hW0]; simp⟩)
  have HR := Lib.hid hr1
  have HL0 := Lib.hid (show Below W.heap.size W W0 by rw [← hW0]; exact bal (Below.refl _ _) _)
  have HW := Lib.hid hW0
  have HOK := Lib.hid ok1
  clear hr1 hW0 ok1 ok0_6
  go_enter Tryd.func6, Tryd.ntmps6
  go_wp2_with fail
  rw [HW.out]
  with_reducible refine (HAL.out _).mono ?_
  rintro e w1 ⟨rfl, hb1⟩
  have B1 := Lib.hid hb1
  clear hb1
  go_wp2_with fail
  with_reducible refine (few_one A1 z1 l1 w1 hc1 (Kd.C_below HR.out (bth HL0.out B1.out)) HOK.out).mono ?_
  rintro e w2 ⟨⟨r, rfl, hrr⟩, hb2⟩
  have B2 := Lib.hid (bth B1.out hb2)
  have HRR := Lib.hid hrr
  clear hb2 hrr
  cases r with
  | false =>
    go_wp2_with fail
    with_reducible refine (HAL.out _).mono ?_
    rintro e w9 ⟨rfl, hb9⟩
    have B9 := Lib.hid (bth B2.out hb9)
    clear hb9
    go_wp2
    go_ret
    exact ⟨rfl, bth (by rw [← HW.out]; exact bal (Below.refl _ _) _) B9.out⟩
  | true =>
    have hll := (HRR.out rfl).1
    have HSS := Lib.hid (HRR.out rfl).2
    clear HRR
    obtain ⟨e0, e1, e2, e3, e4, e5, e6⟩ := HOB.out _ B2.out
    obtain ⟨ck, hck⟩ : ∃ ck, checkO f t c = ck := ⟨_, rfl⟩
    have HCK := Lib.hid (fun V => ckeck_ord nu fo bl re f t c V)
    rw [hck] at HCK
    go_wp2_with fail
    with_reducible refine (HCK.out _).mono ?_
    rintro e w3 ⟨rfl, hb3⟩
    have B3 := Lib.hid (bth B2.out hb3)
    clear hb3 e0 e1 e2 e3 e4 e5 e6
    cases ck with
    | false =>
      go_wp2_with fail
      with_reducible refine (HAL.out _).mono ?_
      rintro e w9 ⟨rfl, hb9⟩
      have B9 := Lib.hid (bth B3.out hb9)
      clear hb9
      go_wp2
      go_ret
      exact ⟨rfl, bth (by rw [← HW.out]; exact bal (Below.refl _ _) _) B9.out⟩
    | true =>
      have hcnt := fun k h ha => uniq_count nu fo bl re f t c l1 k h ha
      have hall := uniq_all nu fo bl re f t c l1
      have hchk := uniq_check nu fo bl re f t c l1
      have hmem := uniq_mem nu fo bl re f t c l1
      have hlen := uniq_len nu fo bl re f t c l1
      have has : ∀ s ∈ l1, s.size ≤ 1000000 := fun s hs => Nat.le_trans (HSS.out s hs) (by decide)
      obtain ⟨a, ha⟩ : ∃ a, sortL true nu fo bl re f t c l1 = a := ⟨_, rfl⟩
      rw [ha] at hcnt hall hchk hmem hlen
      have HS1 := Lib.hid (fun w h => sortU_ord nu fo bl re f t c hck a A1 z1 l1 ha w h hc1 (by omega) has)
      have HCH := Lib.hid (fun A' cap' w h h2 => check_calls true nu fo bl re f t c A' cap' a w h h2 (by omega) (fun s hs => has s (hmem s hs)))
      rw [hchk] at HCH
      unfold ordV at HCH
      have HCN := Lib.hid hcnt
      have HALL := Lib.hid hall
      have HLEN := Lib.hid hlen
      have HAS := Lib.hid has
      clear ha hcnt hall hchk hmem hlen has hck
      obtain ⟨e0, e1, e2, e3, e4, e5, e6⟩ := HOB.out _ B3.out
      go_wp2_with fail
      with_reducible refine (HS1.out _ (Kd.C_below HR.out (bth HL0.out B3.out))).mono ?_
      rintro e w4 ⟨⟨A4, c4, rfl, hc4, hC4⟩, hb4⟩
      have B4 := Lib.hid (bth B3.out hb4)
      have C4 := Lib.hid hC4
      clear hb4 hC4 e0 e1 e2 e3 e4 e5 e6
      obtain ⟨e0, e1, e2, e3, e4, e5, e6⟩ := HOB.out _ B4.out
      go_wp2_with fail
      with_reducible refine (HCH.out _ _ _ C4.out hc4).mono ?_
      rintro e w5 ⟨rfl, hb5⟩
      have B5 := Lib.hid (bth B4.out hb5)
      have C5 := Lib.hid (Kd.C_below C4.out hb5)
      clear hb5 e0 e1 e2 e3 e4 e5 e6
      go_wp2
      go_loopw [7, 8] (fun n i wr => ∃ k m : Nat, k ≤ l1.length ∧ m ≤ k ∧ n = .int .i64 (m : Int) ∧ i = .int .i64 (k : Int) ∧ Hid (firstsN (cmpO nu fo bl re f t c) l1 k = m ∧ Below w5.heap.size w5 wr)) (fun _ i _ => l1.length - (intOf i).toNat)
      case atStart => exact ⟨0, 0, Nat.zero_le _, Nat.le_refl _, rfl, rfl, Lib.hid ⟨firstsN_zero _ _, Below.refl _ _⟩⟩
      case round =>
        obtain ⟨k, m, hk, hm, rfl, rfl, hst⟩ := hrel
        by_cases hlt : k < l1.length
        · obtain ⟨ad, rfl, -⟩ := C_at HR.out (bth HL0.out (bth B5.out hst.out.2)) k hlt
          obtain ⟨s, hs⟩ : ∃ s, l1[k] = s := ⟨_, rfl⟩
          have HK := Lib.hid (show ∀ V, Below w5.heap.size w5 V → V.cell? (ad.add k) = some (.string s) from fun V hV => by
            obtain ⟨ad', e, hx⟩ := C_at HR.out (bth HL0.out (bth B5.out hV)) k hlt
            obtain rfl := Option.some.inj e
            rw [hx, hs])
          have HSZ := Lib.hid (show s.size ≤ 1000000 from HAS.out s (hs ▸ List.getElem_mem hlt))
          have HF := Lib.hid (show firstsN (cmpO nu fo bl re f t c) l1 (k + 1) = m + (if aloneB (cmpO nu fo bl re f t c) l1 s k = true then 1 else 0) by rw [firstsN_succ _ _ k hlt, hst.out.1, hs])
          have HCO := Lib.hid (show aloneB (cmpO nu fo bl re f t c) l1 s k = true → a.countP (fun x => decide (x.toList = s.toList)) = 1 from fun e => by rw [← hs] at e ⊢; exact HCN.out k hlt e)
          clear hs
          have HST := Lib.hid hst.out.2
          go_wp2
          go_loopw [9, 10] (fun v i wr => ∃ (j : Nat) (b : Bool), j ≤ k ∧ v = .bool b ∧ i = .int .i64 (j : Int) ∧ Hid (aloneB (cmpO nu fo bl re f t c) l1 s j = b ∧ Below w5.heap.size w5 wr)) (fun _ i _ => k - (intOf i).toNat)
          case atStart => exact ⟨0, true, Nat.zero_le _, rfl, rfl, Lib.hid ⟨aloneB_zero _ _ _, HST.out⟩⟩
          case round =>
            obtain ⟨j, b, hj, rfl, rfl, hsj⟩ := hrel
            by_cases hjk : j < k
            · have hjl : j < l1.length := by omega
              obtain ⟨y, hy⟩ : ∃ y, l1[j] = y := ⟨_, rfl⟩
              have HCE := Lib.hid (show ∀ V, Below wr.heap.size wr V → V.cell? ⟨W.heap.size, 0, none⟩ = some (.bool nu) ∧ V.cell? ⟨W.heap.size, 1, none⟩ = some (.bool fo) ∧ V.cell? ⟨W.heap.size, 2, none⟩ = some (.bool bl) ∧ V.cell? ⟨W.heap.size, 3, none⟩ = some (.bool re) ∧ V.cell? ⟨W.heap.size, 4, none⟩ = some (.int .i64 f) ∧ V.cell? ⟨W.heap.size, 5, none⟩ = some (.int .i64 t) ∧ V.cell? ⟨W.heap.size, 6, none⟩ = some (.int .u8 (c.toNat : Int)) ∧ V.cell? (ad.add j) = some (.string y) ∧ V.cell? (ad.add k) = some (.string s) from fun V hV => by
                obtain ⟨e0, e1, e2, e3, e4, e5, e6⟩ := HOB.out _ (bth B5.out (bth hsj.out.2 hV))
                refine ⟨e0, e1, e2, e3, e4, e5, e6, ?_, HK.out _ (bth hsj.out.2 hV)⟩
                obtain ⟨ad', e, hx⟩ := C_at HR.out (bth HL0.out (bth B5.out (bth hsj.out.2 hV))) j hjl
                obtain rfl := Option.some.inj e
                rw [hx, hy])
              obtain ⟨d, hd⟩ : ∃ d, cmpO nu fo bl re f t c y.data.toList s.data.toList = d := ⟨_, rfl⟩
              have HCM := Lib.hid (fun V => comp_walk nu fo bl re f t c y s (by have := HAS.out y (hy ▸ List.getElem_mem hjl); omega) (by have := HSZ.out; omega) V)
              rw [hd] at HCM
              have hsu := aloneB_succ (cmpO nu fo bl re f t c) l1 s j hjl
              rw [hy, hd, hsj.out.1] at hsu
              have HBE := Lib.hid hsj.out.2
              have HSU := Lib.hid hsu
              clear hsj hd hy hsu
              cases b with
              | false =>
                go_wp2_with fail
                go_region
                all_goals go_wp2
                go_roundw
                case rel => exact ⟨j + 1, false, hjk, rfl, by go_num, Lib.hid ⟨by rw [HSU.out]; rfl, by first | exact bdr HBE.out | exact bdn HBE.out _ | exact HBE.out⟩⟩
                case measure => simp [intOf]; omega
              | true =>
                by_cases hd0 : d = 0
                · subst hd0
                  go_wp2_with fail
                  go_region_held3 (fun V => Below wr.heap.size wr V ∧ V.cell? ⟨W.heap.size, 0, none⟩ = some (.bool nu) ∧ V.cell? ⟨W.heap.size, 1, none⟩ = some (.bool fo) ∧ V.cell? ⟨W.heap.size, 2, none⟩ = some (.bool bl) ∧ V.cell? ⟨W.heap.size, 3, none⟩ = some (.bool re) ∧ V.cell? ⟨W.heap.size, 4, none⟩ = some (.int .i64 f) ∧ V.cell? ⟨W.heap.size, 5, none⟩ = some (.int .i64 t) ∧ V.cell? ⟨W.heap.size, 6, none⟩ = some (.int .u8 (c.toNat : Int)) ∧ V.cell? (ad.add j) = some (.string y) ∧ V.cell? (ad.add k) = some (.string s))
                    (with_reducible first | assumption | exact ⟨by assumption, HCE.out _ (by assumption)⟩ | exact ⟨bdr (Below.refl _ _), HCE.out _ (bdr (Below.refl _ _))⟩ | exact ⟨Below.refl _ _, HCE.out _ (Below.refl _ _)⟩) ((first
                    | (go_at_call 23; with_reducible refine (HCM.out _).mono ?_; rintro e w' ⟨rfl, hbq⟩; have hbq := bth (show Below wr.heap.size wr _ ∧ _ from by assumption).1 hbq)))
                  have BW := Lib.hid (show Below wr.heap.size wr _ ∧ _ from by assumption).1
                  go_wp2
                  go_roundw
                  case rel => exact ⟨j + 1, false, hjk, rfl, by go_num, Lib.hid ⟨by rw [HSU.out]; rfl, bth HBE.out BW.out⟩⟩
                  case measure => simp [intOf]; omega
                · have g0 : (d == 0) = false := beq_eq_false_iff_ne.2 hd0
                  have g1 : (d != 0) = true := by simp [hd0]
                  have g2 : decide (d = 0) = false := decide_eq_false hd0
                  go_wp2_with fail
                  go_region_held3 (fun V => Below wr.heap.size wr V ∧ V.cell? ⟨W.heap.size, 0, none⟩ = some (.bool nu) ∧ V.cell? ⟨W.heap.size, 1, none⟩ = some (.bool fo) ∧ V.cell? ⟨W.heap.size, 2, none⟩ = some (.bool bl) ∧ V.cell? ⟨W.heap.size, 3, none⟩ = some (.bool re) ∧ V.cell? ⟨W.heap.size, 4, none⟩ = some (.int .i64 f) ∧ V.cell? ⟨W.heap.size, 5, none⟩ = some (.int .i64 t) ∧ V.cell? ⟨W.heap.size, 6, none⟩ = some (.int .u8 (c.toNat : Int)) ∧ V.cell? (ad.add j) = some (.string y) ∧ V.cell? (ad.add k) = some (.string s))
                    (with_reducible first | assumption | exact ⟨by assumption, HCE.out _ (by assumption)⟩ | exact ⟨bdr (Below.refl _ _), HCE.out _ (bdr (Below.refl _ _))⟩ | exact ⟨Below.refl _ _, HCE.out _ (Below.refl _ _)⟩) ((first
                    | (go_at_call 23; with_reducible refine (HCM.out _).mono ?_; rintro e w' ⟨rfl, hbq⟩; have hbq := bth (show Below wr.heap.size wr _ ∧ _ from by assumption).1 hbq)))
                  have BW := Lib.hid (show Below wr.heap.size wr _ ∧ _ from by assumption).1
                  go_wp2
                  go_roundw
                  case rel => exact ⟨j + 1, true, hjk, rfl, by go_num, Lib.hid ⟨by rw [HSU.out, g0]; rfl, bth HBE.out BW.out⟩⟩
                  case measure => simp [intOf]; omega
            · obtain rfl : j = k := by omega
              cases b with
              | false =>
                go_wp2
                go_roundw
                case rel => exact ⟨j + 1, m, hlt, by omega, rfl, by go_num, Lib.hid ⟨by rw [HF.out, hsj.out.1]; rfl, hsj.out.2⟩⟩
                case measure => simp [intOf]; omega
              | true =>
                have hx := HK.out _ hsj.out.2
                have HC1 := Lib.hid (fun V (hV : Below wr.heap.size wr V) => count_calls A4 c4 a s V (Kd.C_below C5.out (bth hsj.out.2 hV)) hc4 (by have := HLEN.out; omega))
                rw [HCO.out hsj.out.1] at HC1
                have hm1 : (m : Int) + 1 ≤ 9223372036854775807 := by omega
                go_wp2_with fail
                with_reducible refine (HC1.out _ (Below.refl _ _)).mono ?_
                rintro e w8 ⟨rfl, hb8⟩
                have B8 := Lib.hid (bth hsj.out.2 hb8)
                clear hb8
                go_wp2
                go_roundw
                case rel => exact ⟨j + 1, m + 1, hlt, by omega, by go_num, by go_num, Lib.hid ⟨by rw [HF.out, hsj.out.1]; rfl, B8.out⟩⟩
                case measure => simp [intOf]; omega
        · obtain rfl : k = l1.length := by omega
          have hend : ((m : Int) == (a.length : Int)) = true := by
            have := hst.out.1.symm.trans HALL.out
            simp [this]
          go_wp2
          go_ret
          exact ⟨rfl, bth (by rw [← HW.out]; exact bal (Below.refl _ _) _) (bth B5.out hst.out.2)⟩
end Go.Proofs.YtaekgfmcelckoaaDoor.P

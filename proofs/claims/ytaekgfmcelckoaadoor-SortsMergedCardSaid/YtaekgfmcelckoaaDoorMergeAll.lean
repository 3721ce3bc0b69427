/- sorts.Merge: lists as one. -/
import Derived.Test.YtaekgfmcelckoaaDoorMerge
set_option linter.unusedVariables false
set_option linter.unusedSimpArgs false
namespace Go.Proofs.YtaekgfmcelckoaaDoor.P
open Go.RowKit Go.Proofs Go.Proofs.YtaekgfmcelckoaaDoor.Q Go.Proofs.YtaekgfmcelckoaaDoor.H Go.Proofs.YtaekgfmcelckoaaDoor.K Go.Proofs.YtaekgfmcelckoaaDoor.S Go.Proofs.YtaekgfmcelckoaaDoorW.PrintWords Go.Proofs.YtaekgfmcelckoaaDoorW.PrintLast

theorem chk_le (nu fo bl re : Bool) (f t : Int) (c : UInt8) : ∀ (l : List ByteArray) (i : Nat), chkL false nu fo bl re f t c l i = -1 ∨ 0 ≤ chkL false nu fo bl re f t c l i
  | [], _ => .inl rfl
  | [_], _ => .inl rfl
  | x :: y :: l, i => by
    simp only [chkL]
    split
    · exact .inr (by omega)
    · exact chk_le nu fo bl re f t c (y :: l) (i + 1)
theorem check_le (nu fo bl re : Bool) (f t : Int) (c : UInt8) (l : List ByteArray) : checkL false nu fo bl re f t c l = -1 ∨ 0 ≤ checkL false nu fo bl re f t c l := by
  unfold checkL
  split
  · exact chk_le nu fo bl re f t c l 1
  · exact .inl rfl
theorem asc_chk (nu fo bl re : Bool) (f t : Int) (c : UInt8) : ∀ (l : List ByteArray) (i : Nat), chkL false nu fo bl re f t c l i = -1 → Asc (wholeO nu fo bl re f t c) l
  | [], _, _ => List.Pairwise.nil
  | [x], _, _ => List.pairwise_singleton _ _
  | x :: y :: l, i, h => by
    simp only [chkL] at h
    split at h
    · omega
    · rename_i hb
      have ih := asc_chk nu fo bl re f t c (y :: l) (i + 1) h
      have h1 : wholeO nu fo bl re f t c x.data.toList y.data.toList ≤ 0 := by
        unfold badO at hb
        simp at hb
        exact hb
      refine List.pairwise_cons.2 ⟨fun z hz => ?_, ih⟩
      rcases List.mem_cons.1 hz with rfl | hz
      · exact h1
      · exact ((Ord.wholeO nu fo bl re f t c).go x.data.toList y.data.toList z.data.toList h1 ((List.pairwise_cons.1 ih).1 z hz)).1
theorem asc_check (nu fo bl re : Bool) (f t : Int) (c : UInt8) (hck : checkO f t c = true) (l : List ByteArray) (h : checkL false nu fo bl re f t c l = -1) : Asc (wholeO nu fo bl re f t c) l := by
  unfold checkL at h
  rw [if_pos hck] at h
  exact asc_chk nu fo bl re f t c l 1 h
theorem ordBox' (W : World) (nu fo bl re : Bool) (f t : Int) (c : UInt8) (V : World) (h : Below (W.alloc (.cells #[.bool nu, .bool fo, .bool bl, .bool re, .int .i64 f, .int .i64 t, .int .u8 (c.toNat : Int)] 36)).heap.size (W.alloc (.cells #[.bool nu, .bool fo, .bool bl, .bool re, .int .i64 f, .int .i64 t, .int .u8 (c.toNat : Int)] 36)) V) : V.heap[W.heap.size]? = some (ordObj nu fo bl re f t c) :=
  (h.block W.heap.size (by simp)).trans (World.alloc_heap_new W _)
theorem keysCheck_ord (nu fo bl re : Bool) (f t : Int) (c : UInt8) (V : World) : Calls Tryd.prog 18 #[.agg #[.bool nu, .bool fo, .bool bl, .bool re, .int .i64 f, .int .i64 t, .int .u8 (c.toNat : Int)]] V fun e w' => e = .returned (.bool (checkO f t c)) ∧ Below V.heap.size V w' :=
  keys_Check.calls 1 nu fo bl re f t (c.toNat : Int) (checkO f t c) V (check_f 0 nu fo bl re f t c)
theorem txs_mono {b b' : Nat} {v : Value} {L : List ByteArray} {W : World} (h : Txs b v L W) (hb : b' ≤ b) : Txs b' v L W :=
  ⟨h.1, h.2.imp_right (fun ⟨g, cap, cur, e, hg, r⟩ => ⟨g, cap, cur, e, Nat.le_trans hb hg, r⟩)⟩
theorem C_own {b : Nat} {A : Option Addr} {n cp : Nat} {L : List ByteArray} {W : World} (h : Txs b (.slice A n cp) L W) : Kd.C Kd.string W A L.length L := by
  obtain ⟨A', c', e, h1, h2⟩ := h.reads
  injection e with e1 _ _
  rw [e1]; exact h2
theorem sum_le (L : List (List ByteArray)) (k : Nat) : ((L.take k).map List.length).sum ≤ (L.map List.length).sum := by
  have e : L = L.take k ++ L.drop k := (List.take_append_drop _ _).symm
  have : (L.map List.length).sum = ((L.take k).map List.length).sum + ((L.drop k).map List.length).sum := by
    conv => lhs; rw [e]
    rw [List.map_append, List.sum_append]
  omega
theorem flat_len (L : List (List ByteArray)) : L.flatten.length = (L.map List.length).sum := List.length_flatten
set_option maxHeartbeats 2000000 in
set_option maxRecDepth 100000 in
theorem Merge_calls (nu fo bl re : Bool) (f t : Int) (c : UInt8) (hck : checkO f t c = true) (A : Option Addr) (cp : Nat) (L : List (List ByteArray)) (w : World) (hr : RowsAt w A L) (hc : L.length ≤ cp) (hL : L.length ≤ 1000) (hs : ∀ x ∈ L, ∀ s ∈ x, s.size ≤ 1000000) (hn : (L.map List.length).sum ≤ 65536) :
    Calls Tryd.prog 24 #[.agg #[.bool nu, .bool fo, .bool bl, .bool re, .int .i64 f, .int .i64 t, .int .u8 (c.toNat : Int)], .slice A L.length cp] w fun e w' => ((e = .returned (.tuple #[.slice none 0 0, .int .i64 1]) ∧ ∃ x ∈ L, 0 ≤ checkL false nu fo bl re f t c x) ∨ ((∀ x ∈ L, checkL false nu fo bl re f t c x = -1) ∧ ∃ v R, e = .returned (.tuple #[v, .int .i64 0]) ∧ Txs w.heap.size v R w' ∧ R.Perm L.flatten ∧ Asc (wholeO nu fo bl re f t c) R)) ∧ Below w.heap.size w w' := by
  obtain ⟨W0, hW0⟩ : ∃ W0, w.alloc (.cells #[.bool nu, .bool fo, .bool bl, .bool re, .int .i64 f, .int .i64 t, .int .u8 (c.toNat : Int)] 36) = W0 := ⟨_, rfl⟩
  have HOX := Lib.hid (show ∀ V, Below W0.heap.size W0 V → V.heap[w.heap.size]? = some (ordObj nu fo bl re f t c) from fun V h => ordBox' w nu fo bl re f t c V (by rw [hW0]; exact h))
  have HL0 := Lib.hid (show Below w.heap.size w W0 by rw [← hW0]; exact bal (Below.refl _ _) _)
  have HR := Lib.hid (hr.below HL0.out)
  have HK := Lib.hid (fun V => keysCheck_ord nu fo bl re f t c V)
  rw [hck] at HK
  have HCK := Lib.hid hck
  have HS := Lib.hid hs
  have HN := Lib.hid hn
  have HW := Lib.hid hW0
  clear hr hW0 hck hs
  obtain ⟨e0, e1, e2, e3⟩ := ord_cells7 (HOX.out W0 (Below.refl _ _))
  obtain ⟨e4, e5, e6⟩ := ord_cells (HOX.out W0 (Below.refl _ _))
  go_enter Tryd.func24, Tryd.ntmps24
  go_wp2_with fail
  rw [HW.out]
  with_reducible refine (HK.out _).mono ?_
  rintro e w1 ⟨rfl, hb1⟩
  have B1 := Lib.hid hb1
  clear hb1 e0 e1 e2 e3 e4 e5 e6
  go_wp2
  go_loopw [6, 17] (fun n i wr => ∃ k m : Nat, k ≤ L.length ∧ m ≤ 65536 ∧ i = .int .i64 (k : Int) ∧ n = .int .i64 (m : Int) ∧ Hid (m = ((L.take k).map List.length).sum ∧ (∀ x ∈ L.take k, checkL false nu fo bl re f t c x = -1) ∧ Below W0.heap.size W0 wr)) (fun _ i _ => L.length - (intOf i).toNat)
  case atStart => exact ⟨0, 0, Nat.zero_le _, Nat.zero_le _, rfl, rfl, Lib.hid ⟨rfl, fun x hx => by simp at hx, B1.out⟩⟩
  case round =>
    obtain ⟨k, m, hk, hm, rfl, rfl, hst⟩ := hrel
    by_cases hlt : k < L.length
    · obtain ⟨ad, Ai, ci, rfl, hx, hci, hC⟩ := HR.out.below hst.out.2.2 k hlt
      have hss := HS.out L[k] (List.getElem_mem hlt)
      have hst2 := sum_take L k hlt
      have hle := sum_le L (k + 1)
      have htk := List.take_succ_eq_append_getElem hlt
      have hmem := List.getElem_mem hlt
      obtain ⟨x, hxe⟩ : ∃ x, L[k] = x := ⟨_, rfl⟩
      rw [hxe] at hx hci hC hss hst2 htk hmem
      have hm2 : m + x.length ≤ 65536 := by have := HN.out; have := hst.out.1; omega
      have HM2 := Lib.hid (show m + x.length = ((L.take (k + 1)).map List.length).sum by rw [hst2, ← hst.out.1])
      have HTK := Lib.hid htk
      have HCC := Lib.hid hC
      have HCH := Lib.hid (fun V h => check_calls false nu fo bl re f t c Ai ci x V h hci (by omega) hss)
      unfold ordV at HCH
      have hox := HOX.out _ hst.out.2.2
      obtain ⟨e0, e1, e2, e3⟩ := ord_cells7 hox
      obtain ⟨e4, e5, e6⟩ := ord_cells hox
      obtain ⟨r, hre⟩ : ∃ r, checkL false nu fo bl re f t c x = r := ⟨_, rfl⟩
      rw [hre] at HCH
      have HRE := Lib.hid hre
      have HMEM := Lib.hid hmem
      have hr1 : r = -1 ∨ 0 ≤ r := hre ▸ check_le nu fo bl re f t c x
      clear hxe hst2 htk hC hle hox hre hmem
      have hx' := hx
      go_wp2_with fail
      with_reducible refine (HCH.out _ HCC.out).mono ?_
      rintro e w2 ⟨rfl, hb2⟩
      have B2 := Lib.hid (bth hst.out.2.2 hb2)
      clear hb2
      rcases hr1 with rfl | hr1
      · go_wp2
        go_roundw
        case rel => exact ⟨k + 1, m + x.length, hlt, hm2, by go_num, by go_num, Lib.hid ⟨HM2.out, fun y hy => by
          rw [HTK.out] at hy
          rcases List.mem_append.1 hy with h | h
          · exact hst.out.2.1 y h
          · rw [List.mem_singleton.1 h]; exact HRE.out, B2.out⟩⟩
        case measure => simp [intOf]; omega
      · have g0 : decide (0 ≤ r) = true := decide_eq_true hr1
        go_wp2
        go_returns
        exact ⟨.inl ⟨rfl, x, HMEM.out, by rw [HRE.out]; exact hr1⟩, bth HL0.out B2.out⟩
    · obtain rfl : k = L.length := by omega
      have hall : ∀ x ∈ L, checkL false nu fo bl re f t c x = -1 := fun x hx => hst.out.2.1 x (by rw [List.take_length]; exact hx)
      have HALL := Lib.hid hall
      have HASC := Lib.hid (show ∀ x ∈ L, Asc (wholeO nu fo bl re f t c) x from fun x hx => asc_check nu fo bl re f t c HCK.out x (hall x hx))
      have B5 := Lib.hid hst.out.2.2
      have g0 : decide ((65536 : Int) < (m : Int)) = false := decide_eq_false (by omega)
      have g1 : decide (65536 < m) = false := decide_eq_false (by omega)
      clear hall hst
      go_wp2
      go_loopw [9, 34] (fun v i wr => ∃ k : Nat, k ≤ L.length ∧ i = .int .i64 (k : Int) ∧ Hid (∃ R, Txs w.heap.size v R wr ∧ R.Perm (L.take k).flatten ∧ Asc (wholeO nu fo bl re f t c) R ∧ Below W0.heap.size W0 wr)) (fun _ i _ => L.length - (intOf i).toNat)
      case atStart => exact ⟨0, Nat.zero_le _, rfl, Lib.hid ⟨[], Txs.nil _ _, by simp, List.Pairwise.nil, B5.out⟩⟩
      case round =>
        obtain ⟨k, hk, rfl, hst⟩ := hrel
        obtain ⟨R, h1, h2, h3, h4⟩ := hst.out
        by_cases hlt : k < L.length
        · obtain ⟨Av, cv, rfl, hcv, hCv⟩ := h1.reads
          obtain ⟨ad, Ai, ci, rfl, hx, hci, hC⟩ := HR.out.below h4 k hlt
          have hss := HS.out L[k] (List.getElem_mem hlt)
          have hac := HASC.out L[k] (List.getElem_mem hlt)
          have hst2 := sum_take L k hlt
          have hle := sum_le L (k + 1)
          have htk := List.take_succ_eq_append_getElem hlt
          obtain ⟨x, hxe⟩ : ∃ x, L[k] = x := ⟨_, rfl⟩
          rw [hxe] at hx hci hC hss hst2 htk hac
          have hRl : R.length + x.length ≤ 65536 := by
            have e := h2.length_eq
            rw [flat_len] at e
            have := HN.out
            omega
          have hRs : ∀ s ∈ R ++ x, s.size ≤ 1000000 := fun s hs' => by
            rcases List.mem_append.1 hs' with h | h
            · obtain ⟨y, hy, hy2⟩ := List.mem_flatten.1 (h2.mem_iff.1 h)
              exact HS.out y (List.mem_of_mem_take hy) s hy2
            · exact hss s h
          have HPM := Lib.hid (show ∀ R3 : List ByteArray, R3.Perm (R ++ x) → R3.Perm (L.take (k + 1)).flatten from fun R3 h => by
            rw [htk, List.flatten_append]
            refine h.trans ?_
            simpa using h2.append_right x)
          have HMG := Lib.hid (merge_calls nu fo bl re f t c R x Av Ai cv ci w.heap.size wr (HOX.out _ h4) hCv hC hcv hci hRs (by omega) h3 hac)
          have H4 := Lib.hid h4
          have hsz : w.heap.size ≤ wr.heap.size := Nat.le_trans HL0.out.size h4.size
          clear hst2 hle htk hss hac hRs hRl hCv hC h1 h2 h3 h4 hxe hst
          go_wp2_with fail
          with_reducible refine HMG.out.mono ?_
          rintro e w3 ⟨v3, R3, rfl, q1, q2, q3, q4⟩
          have NEW := Lib.hid (show ∃ R, Txs w.heap.size v3 R w3 ∧ R.Perm (L.take (k + 1)).flatten ∧ Asc (wholeO nu fo bl re f t c) R ∧ Below W0.heap.size W0 w3 from ⟨R3, txs_mono q1 hsz, HPM.out R3 q2, q3, bth H4.out q4⟩)
          clear q1 q2 q3 q4
          go_wp2
          go_roundw
          case rel => exact ⟨k + 1, hlt, by go_num, NEW⟩
          case measure => simp [intOf]; omega
        · obtain rfl : k = L.length := by omega
          rw [List.take_length] at h2
          have HF := Lib.hid (And.intro h1 (And.intro h2 (And.intro h3 h4)))
          clear h1 h2 h3 h4 hst
          go_wp2
          go_returns
          exact ⟨.inr ⟨HALL.out, _, R, rfl, HF.out.1, HF.out.2.1, HF.out.2.2.1⟩, bth HL0.out HF.out.2.2.2⟩
end Go.Proofs.YtaekgfmcelckoaaDoor.P

/- ViewsAlone: one list pasted alone stays as it is; of two, the lines stand side by side: the walk of the law. -/
import Derived.Test.YthkaekeelokajaaDoorVAlive
import Derived.Test.YthkaekeelokajaaDoorSizes1
import Derived.Test.YthkaekeelokajaaDoorConv
import Derived.Laws.IdiomStrings
set_option linter.unusedVariables false
set_option linter.unusedSimpArgs false
namespace Go.Proofs.YthkaekeelokajaaDoor.P
open Go.RowKit Go.Proofs Go.Proofs.YthkaekeelokajaaDoor.Q Go.Proofs.YthkaekeelokajaaDoor.H Go.Proofs.YthkaekeelokajaaDoor.C Go.Proofs.YthkaekeelokajaaDoor.S Go.Proofs.YthkaekeelokajaaDoorW.PrintWords Go.Proofs.YthkaekeelokajaaDoorW.PrintLast

theorem ba_eta (x : ByteArray) : (⟨x.data.toList.toArray⟩ : ByteArray) = x := by cases x; rfl
theorem paste_one (sp : List UInt8) (l : List ByteArray) : pasteL sp [l] = l := by
  unfold pasteL
  have hm : mostL [l] = l.length := by simp [mostL]
  rw [hm]
  apply List.ext_getElem?
  intro i
  rw [List.getElem?_map]
  by_cases h : i < l.length
  · rw [List.getElem?_range h, List.getElem?_eq_getElem h]
    simp only [Option.map_some]
    congr 1
    unfold pasteB colL sideL
    simp only [List.map_cons, List.map_nil, sideF, sepB, List.append_nil]
    rw [if_neg (by simp), List.nil_append, ba_eta, List.getD_eq_getElem?_getD, List.getElem?_eq_getElem h]
    rfl
  · rw [List.getElem?_eq_none (by simp; omega), List.getElem?_eq_none (by omega)]; rfl
theorem paste_two_len (sp : List UInt8) (l m : List ByteArray) : (pasteL sp [l, m]).length = max l.length m.length := by
  unfold pasteL
  rw [List.length_map, List.length_range]
  simp [mostL]
theorem paste_two_at (c : UInt8) (l m : List ByteArray) (i : Nat) (h : i < (pasteL [c] [l, m]).length) : (pasteL [c] [l, m])[i] = ⟨((l.getD i ⟨#[]⟩).data.toList ++ [c] ++ (m.getD i ⟨#[]⟩).data.toList).toArray⟩ := by
  unfold pasteL pasteB colL sideL
  simp only [List.getElem_map, List.getElem_range, List.map_cons, List.map_nil, sideF, sepB, List.append_nil]
  rw [if_neg (by simp), if_pos (by simp)]
  simp
theorem texts_small (l : List ByteArray) (h : textsN l ≤ 50000) : l.length ≤ 50000 ∧ ∀ s ∈ l, s.size ≤ 50000 := by
  have h1 : ∀ l : List ByteArray, l.length ≤ textsN l ∧ ∀ s ∈ l, s.size ≤ textsN l := by
    intro l
    induction l with
    | nil => exact ⟨Nat.zero_le _, fun _ h => by cases h⟩
    | cons x l ih =>
      have e : textsN (x :: l) = textsN l + (x.size + 1) := by simp [textsN]; omega
      refine ⟨by rw [List.length_cons]; omega, fun s hs => ?_⟩
      rcases List.mem_cons.1 hs with rfl | hs
      · omega
      · have := ih.2 s hs; omega
  have := h1 l
  exact ⟨by omega, fun s hs => by have := this.2 s hs; omega⟩
theorem getD_small (l : List ByteArray) (h : ∀ s ∈ l, s.size ≤ 50000) (n : Nat) : (l.getD n ⟨#[]⟩).size ≤ 50000 := by
  rw [List.getD_eq_getElem?_getD]
  cases e : l[n]? with
  | none => exact Nat.zero_le _
  | some x => exact h x (List.mem_of_getElem? e)
theorem rows_one (W : World) (A : Option Addr) (l : List ByteArray) (z : Nat) (hc : l.length ≤ z) (h : Kd.C Kd.string W A l.length l) : RowsAt (W.alloc (.cells #[.slice A l.length z] 25)) (some ⟨W.heap.size, 0, none⟩) [l] := by
  have h3 := heap_alloc_new W (.cells #[.slice A l.length z] 25)
  intro i hi
  match i, hi with
  | 0, _ => exact ⟨_, _, z, rfl, by rw [add_plain, Lib.cell_of_heap h3]; rfl, hc, Kd.C_below h (bal (Below.refl _ _) _)⟩
  | i + 1, h => exact absurd h (by simp)
theorem rows_two (W : World) (A B : Option Addr) (l m : List ByteArray) (z y : Nat) (hc : l.length ≤ z) (hd : m.length ≤ y) (h : Kd.C Kd.string W A l.length l) (g : Kd.C Kd.string W B m.length m) : RowsAt (W.alloc (.cells #[.slice A l.length z, .slice B m.length y] 25)) (some ⟨W.heap.size, 0, none⟩) [l, m] := by
  have h3 := heap_alloc_new W (.cells #[.slice A l.length z, .slice B m.length y] 25)
  intro i hi
  match i, hi with
  | 0, _ => exact ⟨_, _, z, rfl, by rw [add_plain, Lib.cell_of_heap h3]; rfl, hc, Kd.C_below h (bal (Below.refl _ _) _)⟩
  | 1, _ => exact ⟨_, _, y, rfl, by rw [add_plain, Lib.cell_of_heap h3]; rfl, hd, Kd.C_below g (bal (Below.refl _ _) _)⟩
  | i + 2, h => exact absurd h (by simp)
theorem str_addA (T : TypeId) (a b : ByteArray) (h : a.size + b.size ≤ 9223372036854775807) : binOp .add T (.string a) (.string b) = pure (.string (a ++ b)) := by
  simp only [binOp, Op.stringOp]
  rw [if_neg]
  rw [show IntKind.i64.max = 9223372036854775807 from rfl]
  omega
theorem ba_cat (x y : ByteArray) (c : UInt8) : (⟨(x.data.toList ++ [c] ++ y.data.toList).toArray⟩ : ByteArray) = x ++ ⟨#[c]⟩ ++ y := by
  apply ByteArray.ext
  simp [ByteArray.data_append]
theorem cat_nil (x : ByteArray) : x ++ ⟨#[]⟩ = x := ByteArray.append_empty
theorem nil_cat (x : ByteArray) : (⟨#[]⟩ : ByteArray) ++ x = x := ByteArray.empty_append
theorem getD_in (l : List ByteArray) (k : Nat) (h : k < l.length) : l.getD k ⟨#[]⟩ = l[k] := by rw [List.getD_eq_getElem?_getD, List.getElem?_eq_getElem h]; rfl
theorem getD_out (l : List ByteArray) (k : Nat) (h : ¬ k < l.length) : l.getD k ⟨#[]⟩ = ⟨#[]⟩ := by rw [List.getD_eq_getElem?_getD, List.getElem?_eq_none (by omega)]; rfl
theorem byteA_of' (x : Int) (h : (Lit.int .u8 x).wf = true) : ∃ c : UInt8, x = (c.toNat : Int) := by
  have h' : 0 ≤ x ∧ x ≤ 255 := by simpa [Lit.wf, IntKind.min, IntKind.max, IntKind.signed, IntKind.bits] using h
  exact ⟨UInt8.ofNat x.toNat, by simp [UInt8.toNat_ofNat']; omega⟩
theorem pasteOne_calls (A : Option Addr) (l : List ByteArray) (c : UInt8) (w : World) (hr : RowsAt w A [l]) (hl : l.length ≤ 50000) (hs : ∀ s ∈ l, s.size ≤ 50000) :
    Calls Tryd.prog 14 #[.slice A 1 1, .string ⟨#[c]⟩] w fun e w' => (∃ A c, e = .returned (.slice A l.length c) ∧ l.length ≤ c ∧ Kd.C Kd.string w' A l.length l) ∧ Below w.heap.size w w' := by
  refine (paste_calls A 1 [l] ⟨#[c]⟩ w hr (by simp) (by simp) (by simp [mostL]; omega) (by show 1 ≤ 140737488351232; decide) (fun n => ?_)).mono ?_
  · have := getD_small l hs n
    rw [Lib.size_eq] at this
    unfold colL sideL
    simp only [List.map_cons, List.map_nil, sideF, sepB, List.append_nil]
    rw [if_neg (by simp), List.nil_append]
    omega
  rw [show pasteL (⟨#[c]⟩ : ByteArray).data.toList [l] = l from paste_one _ l]
  rintro e w' ⟨v, rfl, ht⟩
  obtain ⟨A, c, rfl, hc, hC⟩ := ts_reads ht
  exact ⟨⟨A, c, rfl, hc, hC⟩, ht.low⟩
theorem pasteTwo_calls (A : Option Addr) (l m : List ByteArray) (c : UInt8) (w : World) (hr : RowsAt w A [l, m]) (hl : l.length ≤ 50000) (hm : m.length ≤ 50000) (hs : ∀ s ∈ l, s.size ≤ 50000) (ht : ∀ s ∈ m, s.size ≤ 50000) :
    Calls Tryd.prog 14 #[.slice A 2 2, .string ⟨#[c]⟩] w fun e w' => (∃ A z, e = .returned (.slice A (pasteL [c] [l, m]).length z) ∧ (pasteL [c] [l, m]).length ≤ z ∧ Kd.C Kd.string w' A (pasteL [c] [l, m]).length (pasteL [c] [l, m])) ∧ Below w.heap.size w w' := by
  refine (paste_calls A 2 [l, m] ⟨#[c]⟩ w hr (by simp) (by simp) (by simp [mostL]; omega) (by show 1 ≤ 140737488351232; decide) (fun n => ?_)).mono ?_
  · have h1 := getD_small l hs n
    have h2 := getD_small m ht n
    rw [Lib.size_eq] at h1 h2
    unfold colL sideL
    simp only [List.map_cons, List.map_nil, sideF, sepB, List.append_nil]
    rw [if_neg (by simp), if_pos (by simp), List.nil_append, List.length_append, List.length_append, List.length_singleton]
    omega
  rintro e w' ⟨v, rfl, ht⟩
  obtain ⟨A, c, rfl, hc, hC⟩ := ts_reads ht
  exact ⟨⟨A, c, rfl, hc, hC⟩, ht.low⟩
set_option maxHeartbeats 4000000 in
set_option maxRecDepth 100000 in
theorem ViewsAlone_walk (A0 : Option Addr) (z0 : Nat) (l0 : List ByteArray) (A1 : Option Addr) (z1 : Nat) (l1 : List ByteArray) (a2 : Int) (W : World) (hT : TzW W) (hr0 : Kd.C Kd.string W A0 l0.length l0) (hc0 : l0.length ≤ z0) (ok0 : (∀ a ∈ l0, a.size ≤ 140737488351232) ∧ l0.length * 16 ≤ 140737488351232) (hr1 : Kd.C Kd.string W A1 l1.length l1) (hc1 : l1.length ≤ z1) (ok1 : (∀ a ∈ l1, a.size ≤ 140737488351232) ∧ l1.length * 16 ≤ 140737488351232) (ok2 : (Lit.int .u8 a2).wf = true) :
    Calls Tryd.prog 5 #[.slice A0 l0.length z0, .slice A1 l1.length z1, .int .u8 a2] W fun e W' => e = .returned (.bool true) ∧ Below W.heap.size W W' := by
  obtain ⟨c, rfl⟩ := byteA_of' a2 ok2
  obtain ⟨n0, hn0, m0, x0, e0⟩ := textsSize_tells l0 ok0.1 (by omega)
  obtain ⟨n1, hn1, m1, x1, e1⟩ := textsSize_tells l1 ok1.1 (by omega)
  have R0 := Lib.hid hr0
  have R1 := Lib.hid hr1
  have T0 := Lib.hid hn0
  have T1 := Lib.hid hn1
  have HT := Lib.hid hT
  have HAL := Lib.hid (fun w h => alive_calls w h)
  have E0 := Lib.hid (And.intro e0 (And.intro ok0.1 ok0.2))
  have E1 := Lib.hid (And.intro e1 (And.intro ok1.1 ok1.2))
  clear hr0 hr1 hn0 hn1 hT e0 e1 ok0 ok1 ok2
  by_cases hb0 : 50000 < n0
  · go_enter Tryd.func5, Tryd.ntmps5
    go_wp2_with fail
    refine (HAL.out _ HT.out).mono ?_
    rintro e w1 ⟨rfl, hb1⟩
    have B1 := Lib.hid hb1
    clear hb1
    go_wp2_with fail
    refine (toolchestlaw01_TextsSize.calls (l0.length + 1) A0 z0 l0 n0 _ (Kd.C_below R0.out B1.out) hc0 T0.out).mono ?_
    first | (rintro e w2 rfl hb2) | (rintro e w2 ⟨rfl, hb2⟩)
    have B2 := Lib.hid (bth B1.out hb2.below)
    clear hb2
    go_wp2_with fail
    refine (HAL.out _ (HT.out.below B2.out)).mono ?_
    rintro e w3 ⟨rfl, hb3⟩
    go_wp2
    go_ret
    exact ⟨rfl, bth B2.out hb3⟩
  · by_cases hb1 : 50000 < n1
    · go_enter Tryd.func5, Tryd.ntmps5
      go_wp2_with fail
      refine (HAL.out _ HT.out).mono ?_
      rintro e w1 ⟨rfl, hbb1⟩
      have B1 := Lib.hid hbb1
      clear hbb1
      go_wp2_with fail
      refine (toolchestlaw01_TextsSize.calls (l0.length + 1) A0 z0 l0 n0 _ (Kd.C_below R0.out B1.out) hc0 T0.out).mono ?_
      first | (rintro e w2 rfl hb2) | (rintro e w2 ⟨rfl, hb2⟩)
      have B2 := Lib.hid (bth B1.out hb2.below)
      clear hb2
      go_wp2_with fail
      refine (toolchestlaw01_TextsSize.calls (l1.length + 1) A1 z1 l1 n1 _ (Kd.C_below R1.out B2.out) hc1 T1.out).mono ?_
      first | (rintro e w3 rfl hb3) | (rintro e w3 ⟨rfl, hb3⟩)
      have B3 := Lib.hid (bth B2.out hb3.below)
      clear hb3
      go_wp2_with fail
      refine (HAL.out _ (HT.out.below B3.out)).mono ?_
      rintro e w4 ⟨rfl, hb4⟩
      go_wp2
      go_ret
      exact ⟨rfl, bth B3.out hb4⟩
    · have q0 := texts_small l0 (by have := E0.out.1 (by omega); omega)
      have q1 := texts_small l1 (by have := E1.out.1 (by omega); omega)
      have Q0 := Lib.hid q0
      have Q1 := Lib.hid q1
      have hl0 := q0.1
      have hl1 := q1.1
      clear q0 q1
      obtain ⟨ks, hks⟩ := same_ev l0 (by omega)
      have KS := Lib.hid hks
      clear hks
      obtain ⟨P, hP⟩ : ∃ P, pasteL [c] [l0, l1] = P := ⟨_, rfl⟩
      have HP := Lib.hid hP
      have hPl : P.length = max l0.length l1.length := by rw [← hP, paste_two_len]
      have hmx : ((P.length : Int) != max (l0.length : Int) (l1.length : Int)) = false := by
        unfold bne
        rw [show ((P.length : Int) == max (l0.length : Int) (l1.length : Int)) = true from beq_iff_eq.2 (by omega)]
        rfl
      have HPL := Lib.hid (And.intro hPl hmx)
      clear hP hPl hmx
      go_enter Tryd.func5, Tryd.ntmps5
      go_wp2_with fail
      refine (HAL.out _ HT.out).mono ?_
      rintro e w1 ⟨rfl, hbb1⟩
      have B1 := Lib.hid hbb1
      clear hbb1
      go_wp2_with fail
      refine (toolchestlaw01_TextsSize.calls (l0.length + 1) A0 z0 l0 n0 _ (Kd.C_below R0.out B1.out) hc0 T0.out).mono ?_
      first | (rintro e w2 rfl hb2) | (rintro e w2 ⟨rfl, hb2⟩)
      have B2 := Lib.hid (bth B1.out hb2.below)
      clear hb2
      go_wp2_with fail
      refine (toolchestlaw01_TextsSize.calls (l1.length + 1) A1 z1 l1 n1 _ (Kd.C_below R1.out B2.out) hc1 T1.out).mono ?_
      first | (rintro e w3 rfl hb3) | (rintro e w3 ⟨rfl, hb3⟩)
      have B3 := Lib.hid (bth B2.out hb3.below)
      clear hb3
      have hcv := conv_atJ (w3.alloc (.cells #[.int .u8 (c.toNat : Int)] 5)) c w3.heap.size (by rw [Lib.cell_of_heap (heap_alloc_new _ _)]; rfl)
      go_wp2_with fail
      have b4 : Below W.heap.size W (w3.alloc (.cells #[.int .u8 (c.toNat : Int)] 5)) := bal B3.out _
      have rr := rows_one (w3.alloc (.cells #[.int .u8 (c.toNat : Int)] 5)) A0 l0 z0 hc0 (Kd.C_below R0.out b4)
      rw [World.size_alloc] at rr
      refine (pasteOne_calls _ l0 c _ rr Q0.out.1 Q0.out.2).mono ?_
      rintro e w5 ⟨⟨A5, c5, rfl, hc5, hC5⟩, hb5⟩
      have B5 := Lib.hid (bth (bal b4 _) hb5)
      have C5 := Lib.hid hC5
      clear hb5 hC5 rr b4 hcv
      go_wp2_with fail
      refine (pasteTwo_calls _ l0 l1 c _ (rows_two w5 A0 A1 l0 l1 z0 z1 hc0 hc1 (Kd.C_below R0.out B5.out) (Kd.C_below R1.out B5.out)) Q0.out.1 Q1.out.1 Q0.out.2 Q1.out.2).mono ?_
      rw [HP.out]
      rintro e w6 ⟨⟨A6, c6, rfl, hc6, hC6⟩, hb6⟩
      have B6 := Lib.hid (bth (bal B5.out _) hb6)
      have C6 := Lib.hid hC6
      have C5' := Lib.hid (Kd.C_below C5.out (bth (bal (Below.refl _ _) _) hb6))
      clear hb6 hC6
      have hmx := HPL.out.2
      go_wp2_with fail
      refine (toolchestlaw01_SameTexts.calls ks A5 c5 l0 A0 z0 l0 true _ C5'.out hc5 (Kd.C_below R0.out B6.out) hc0 KS.out).mono ?_
      first | (rintro e w7 rfl hb7) | (rintro e w7 ⟨rfl, hb7⟩)
      have B7 := Lib.hid (bth B6.out hb7.below)
      have C7 := Lib.hid (Kd.C_below C6.out hb7.below)
      clear hb7
      go_wp2
      go_loop [10] (fun i => ∃ k : Nat, i = .int .i64 (k : Int) ∧ k ≤ P.length) (fun i => P.length - (intOf i).toNat)
      case atStart => exact ⟨0, rfl, Nat.zero_le _⟩
      case round =>
        obtain ⟨k, rfl, hk⟩ := hrel
        by_cases hlt : k < P.length
        · obtain ⟨ad, rfl, hx⟩ := C_at C7.out (Below.refl _ _) k hlt
          have hat : P[k] = ⟨((l0.getD k ⟨#[]⟩).data.toList ++ [c] ++ (l1.getD k ⟨#[]⟩).data.toList).toArray⟩ := by
            have h := paste_two_at c l0 l1 k (by rw [HP.out]; exact hlt)
            simp only [HP.out] at h
            exact h
          have hll := HPL.out.1
          have HLL := Lib.hid (And.intro hlt hk)
          rw [ba_cat] at hat
          rw [hat] at hx
          have HAT := Lib.hid hat
          clear hat
          by_cases h0 : k < l0.length
          · obtain ⟨a0, rfl, hx0⟩ := C_at R0.out B7.out k h0
            rw [getD_in l0 k h0] at hx
            have s0 := Q0.out.2 l0[k] (List.getElem_mem h0)
            obtain ⟨X, hX⟩ : ∃ X, l0[k] = X := ⟨_, rfl⟩
            rw [hX] at hx hx0 s0
            have t1 := fun T => str_addA T X ⟨#[c]⟩ (by show X.size + 1 ≤ _; omega)
            clear hX HAT
            by_cases h1 : k < l1.length
            · obtain ⟨a1, rfl, hx1⟩ := C_at R1.out B7.out k h1
              rw [getD_in l1 k h1] at hx
              have s1 := Q1.out.2 l1[k] (List.getElem_mem h1)
              obtain ⟨Y, hY⟩ : ∃ Y, l1[k] = Y := ⟨_, rfl⟩
              rw [hY] at hx hx1 s1
              have t2 := fun T => str_addA T (X ++ ⟨#[c]⟩) Y (by rw [ByteArray.size_append]; show X.size + 1 + Y.size ≤ _; omega)
              clear hY
              go_wp2
              go_round
              case rel => exact ⟨k + 1, by go_num, by omega⟩
              case measure => simp [intOf]; omega
            · rw [getD_out l1 k h1, cat_nil] at hx
              go_wp2
              go_round
              case rel => exact ⟨k + 1, by go_num, by omega⟩
              case measure => simp [intOf]; omega
          · have h1 : k < l1.length := by omega
            obtain ⟨a1, rfl, hx1⟩ := C_at R1.out B7.out k h1
            rw [getD_out l0 k h0, getD_in l1 k h1, nil_cat] at hx
            have s1 := Q1.out.2 l1[k] (List.getElem_mem h1)
            obtain ⟨Y, hY⟩ : ∃ Y, l1[k] = Y := ⟨_, rfl⟩
            rw [hY] at hx hx1 s1
            have t2 := fun T => str_addA T ⟨#[c]⟩ Y (by show 1 + Y.size ≤ _; omega)
            clear hY HAT
            go_wp2
            go_round
            case rel => exact ⟨k + 1, by go_num, by omega⟩
            case measure => simp [intOf]; omega
        · obtain rfl : k = P.length := by omega
          go_wp2
          go_ret
          exact ⟨rfl, B7.out⟩
end Go.Proofs.YthkaekeelokajaaDoor.P

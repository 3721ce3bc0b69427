/- SortsMerged: the walk of the law. -/
import Derived.Test.YtaekgfmcelckoaaDoorMergeAll
import Derived.Deep.RegionHeld3
import Derived.Laws.IdiomStrings
set_option linter.unusedVariables false
set_option linter.unusedSimpArgs false
namespace Go.Proofs.YtaekgfmcelckoaaDoor.P
open Go.RowKit Go.Proofs Go.Proofs.YtaekgfmcelckoaaDoor.Q Go.Proofs.YtaekgfmcelckoaaDoor.H Go.Proofs.YtaekgfmcelckoaaDoor.K Go.Proofs.YtaekgfmcelckoaaDoor.S Go.Proofs.YtaekgfmcelckoaaDoorW.PrintWords Go.Proofs.YtaekgfmcelckoaaDoorW.PrintLast

theorem byteS_of (x : Int) (h : (Lit.int .u8 x).wf = true) : ∃ c : UInt8, x = (c.toNat : Int) := by
  have h' : 0 ≤ x ∧ x ≤ 255 := by simpa [Lit.wf, IntKind.min, IntKind.max, IntKind.signed, IntKind.bits] using h
  exact ⟨UInt8.ofNat x.toNat, by simp [UInt8.toNat_ofNat']; omega⟩
theorem texts_each (l : List ByteArray) : ∀ s ∈ l, s.size ≤ textsN l := by
  induction l with
  | nil => intro s h; cases h
  | cons x l ih =>
    intro s h
    have e : textsN (x :: l) = textsN l + (x.size + 1) := by simp [textsN]; omega
    rcases List.mem_cons.1 h with rfl | h
    · omega
    · have := ih s h; omega
/-- The order's box. -/
theorem ordBox (W : World) (nu fo bl re : Bool) (f t : Int) (c : UInt8) (V : World) (h : Below (W.alloc (.cells #[.bool nu, .bool fo, .bool bl, .bool re, .int .i64 f, .int .i64 t, .int .u8 (c.toNat : Int)] 36)).heap.size (W.alloc (.cells #[.bool nu, .bool fo, .bool bl, .bool re, .int .i64 f, .int .i64 t, .int .u8 (c.toNat : Int)] 36)) V) : V.cell? ⟨W.heap.size, 0, none⟩ = some (.bool nu) ∧ V.cell? ⟨W.heap.size, 1, none⟩ = some (.bool fo) ∧ V.cell? ⟨W.heap.size, 2, none⟩ = some (.bool bl) ∧ V.cell? ⟨W.heap.size, 3, none⟩ = some (.bool re) ∧ V.cell? ⟨W.heap.size, 4, none⟩ = some (.int .i64 f) ∧ V.cell? ⟨W.heap.size, 5, none⟩ = some (.int .i64 t) ∧ V.cell? ⟨W.heap.size, 6, none⟩ = some (.int .u8 (c.toNat : Int)) := by
  have h3 := (h.block W.heap.size (by simp)).trans (World.alloc_heap_new W _)
  obtain ⟨h0, h1, h2, h3'⟩ := ord_cells7 h3
  obtain ⟨h4, h5, h6⟩ := ord_cells h3
  exact ⟨h0, h1, h2, h3', h4, h5, h6⟩
theorem ckeck_ord (nu fo bl re : Bool) (f t : Int) (c : UInt8) (V : World) : Calls Tryd.prog 18 #[.agg #[.bool nu, .bool fo, .bool bl, .bool re, .int .i64 f, .int .i64 t, .int .u8 (c.toNat : Int)]] V fun e w' => e = .returned (.bool (checkO f t c)) ∧ Below V.heap.size V w' :=
  keys_Check.calls 1 nu fo bl re f t (c.toNat : Int) (checkO f t c) V (check_f 0 nu fo bl re f t c)
theorem few_one (A : Option Addr) (z : Nat) (l : List ByteArray) (W : World) (hc : l.length ≤ z) (h : Kd.C Kd.string W A l.length l) (ok : (∀ a ∈ l, a.size ≤ 140737488351232) ∧ l.length * 16 ≤ 140737488351232) :
    Calls Tryd.prog 17 #[.slice (some ⟨W.heap.size, 0, none⟩) 1 1] (W.alloc (.cells #[.slice A l.length z] 22)) fun e w' => (∃ r, e = .returned (.bool r) ∧ (r = true → l.length ≤ 300 ∧ ∀ s ∈ l, s.size ≤ 20000)) ∧ Below W.heap.size W w' := by
  refine (few_calls (some ⟨W.heap.size, 0, none⟩) 1 [l] _ (rows_one W A l z hc h) (by simp) (by simp) (fun x hx => by rw [List.mem_singleton.1 hx]; exact ok)).mono ?_
  rintro e w' ⟨⟨r, rfl, hr⟩, hb⟩
  refine ⟨⟨r, rfl, fun e => ?_⟩, bth (bal (Below.refl _ _) _) hb⟩
  have h1 := (hr e).each l (by simp)
  exact ⟨h1.1, fun s hs => Nat.le_trans (texts_each l s hs) h1.2⟩
theorem sortA_ord (nu fo bl re : Bool) (f t : Int) (c : UInt8) (hck : checkO f t c = true) (A : Option Addr) (cap : Nat) (l : List ByteArray) (w : World) (hr : Kd.C Kd.string w A l.length l) (hc : l.length ≤ cap) (hl : l.length ≤ 65536) (hs : ∀ s ∈ l, s.size ≤ 1000000) :
    Calls Tryd.prog 19 #[.agg #[.bool nu, .bool fo, .bool bl, .bool re, .int .i64 f, .int .i64 t, .int .u8 (c.toNat : Int)], .slice A l.length cap, .bool false] w fun e w' => (∃ A' c', e = .returned (.tuple #[.slice A' (sortL false nu fo bl re f t c l).length c', .int .i64 0]) ∧ (sortL false nu fo bl re f t c l).length ≤ c' ∧ Kd.C Kd.string w' A' (sortL false nu fo bl re f t c l).length (sortL false nu fo bl re f t c l)) ∧ Below w.heap.size w w' := by
  refine (sortA_calls nu fo bl re f t c hck A cap l w hr hc hl hs).mono ?_
  rintro e w' ⟨v, rfl, ht, hb⟩
  obtain ⟨A', c', rfl, h1, h2⟩ := ht.reads
  exact ⟨⟨A', c', rfl, h1, h2⟩, hb⟩
theorem few_two (A B : Option Addr) (z y : Nat) (l m : List ByteArray) (W : World) (hc : l.length ≤ z) (hd : m.length ≤ y) (h : Kd.C Kd.string W A l.length l) (g : Kd.C Kd.string W B m.length m) (ok : (∀ a ∈ l, a.size ≤ 140737488351232) ∧ l.length * 16 ≤ 140737488351232) (ok2 : (∀ a ∈ m, a.size ≤ 140737488351232) ∧ m.length * 16 ≤ 140737488351232) :
    Calls Tryd.prog 17 #[.slice (some ⟨W.heap.size, 0, none⟩) 2 2] (W.alloc (.cells #[.slice A l.length z, .slice B m.length y] 22)) fun e w' => (∃ r, e = .returned (.bool r) ∧ (r = true → l.length ≤ 300 ∧ m.length ≤ 300 ∧ ∀ s ∈ l ++ m, s.size ≤ 20000)) ∧ Below W.heap.size W w' := by
  refine (few_calls (some ⟨W.heap.size, 0, none⟩) 2 [l, m] _ (rows_two W A B l m z y hc hd h g) (by simp) (by simp) (fun x hx => by
    rcases List.mem_cons.1 hx with rfl | hx
    · exact ok
    · rw [List.mem_singleton.1 hx]; exact ok2)).mono ?_
  rintro e w' ⟨⟨r, rfl, hr⟩, hb⟩
  refine ⟨⟨r, rfl, fun e => ?_⟩, bth (bal (Below.refl _ _) _) hb⟩
  have h1 := (hr e).each l (by simp)
  have h2 := (hr e).each m (by simp)
  refine ⟨h1.1, h2.1, fun s hs => ?_⟩
  rcases List.mem_append.1 hs with hs | hs
  · exact Nat.le_trans (texts_each l s hs) h1.2
  · exact Nat.le_trans (texts_each m s hs) h2.2
theorem rows_three (W : World) (A B : Option Addr) (l m : List ByteArray) (z y n k : Nat) (hn : l.length = n) (hk : m.length = k) (hc : n ≤ z) (hd : k ≤ y) (h : Kd.C Kd.string W A l.length l) (g : Kd.C Kd.string W B m.length m) : RowsAt (W.alloc (.cells #[.slice A n z, .slice B k y, .slice none 0 0] 22)) (some ⟨W.heap.size, 0, none⟩) [l, m, []] := by
  subst hn
  subst hk
  have h3 := heap_alloc_new W (.cells #[.slice A l.length z, .slice B m.length y, .slice none 0 0] 22)
  intro i hi
  match i, hi with
  | 0, _ => exact ⟨_, _, z, rfl, by rw [add_plain, Lib.cell_of_heap h3]; rfl, hc, Kd.C_below h (bal (Below.refl _ _) _)⟩
  | 1, _ => exact ⟨_, _, y, rfl, by rw [add_plain, Lib.cell_of_heap h3]; rfl, hd, Kd.C_below g (bal (Below.refl _ _) _)⟩
  | 2, _ => exact ⟨_, none, 0, rfl, by rw [add_plain, Lib.cell_of_heap h3]; rfl, Nat.le_refl _, rfl, Nat.zero_le _, fun h => absurd h (by simp)⟩
  | i + 3, h => exact absurd h (by simp)
section
variable (nu fo bl re : Bool) (f t : Int) (c : UInt8) (hck : checkO f t c = true)
include hck
theorem mrg3 (A B : Option Addr) (l m R : List ByteArray) (hR : ∀ R', R'.Perm (l ++ m) → Asc (wholeO nu fo bl re f t c) R' → R' = R) (z y n k : Nat) (hn : l.length = n) (hk : m.length = k) (W : World) (hc : n ≤ z) (hd : k ≤ y) (h : Kd.C Kd.string W A l.length l) (g : Kd.C Kd.string W B m.length m) (hs : ∀ s ∈ l ++ m, s.size ≤ 1000000) (hl : n + k ≤ 65536)
    (al : Asc (wholeO nu fo bl re f t c) l) (am : Asc (wholeO nu fo bl re f t c) m) :
    Calls Tryd.prog 24 #[.agg #[.bool nu, .bool fo, .bool bl, .bool re, .int .i64 f, .int .i64 t, .int .u8 (c.toNat : Int)], .slice (some ⟨W.heap.size, 0, none⟩) 3 3] (W.alloc (.cells #[.slice A n z, .slice B k y, .slice none 0 0] 22)) fun e w' => (∃ A' c', e = .returned (.tuple #[.slice A' R.length c', .int .i64 0]) ∧ R.length ≤ c' ∧ Kd.C Kd.string w' A' R.length R) ∧ Below W.heap.size W w' := by
  refine (Merge_calls nu fo bl re f t c hck (some ⟨W.heap.size, 0, none⟩) 3 [l, m, []] _ (rows_three W A B l m z y n k hn hk hc hd h g) (by simp) (by simp) (fun x hx s hs' => ?_) (by simp; omega)).mono ?_
  · rcases List.mem_cons.1 hx with rfl | hx
    · exact hs s (by simp [hs'])
    · rcases List.mem_cons.1 hx with rfl | hx
      · exact hs s (by simp [hs'])
      · rw [List.mem_singleton.1 hx] at hs'; cases hs'
  · rintro e w' ⟨hv, hb⟩
    have hb' := bth (bal (Below.refl _ _) _) hb
    rcases hv with ⟨rfl, x, hx, h0⟩ | ⟨-, v, R', rfl, h1, h2, h3⟩
    · exfalso
      rcases List.mem_cons.1 hx with rfl | hx
      · rw [check_asc nu fo bl re f t c _ al] at h0; omega
      · rcases List.mem_cons.1 hx with rfl | hx
        · rw [check_asc nu fo bl re f t c _ am] at h0; omega
        · rw [List.mem_singleton.1 hx, check_asc nu fo bl re f t c _ List.Pairwise.nil] at h0; omega
    · obtain rfl := hR R' (by simpa using h2) h3
      obtain ⟨A', c', rfl, h4, h5⟩ := h1.reads
      exact ⟨⟨A', c', rfl, h4, h5⟩, hb'⟩
theorem mrg2 (A B : Option Addr) (l m : List ByteArray) (z y n k : Nat) (hn : l.length = n) (hk : m.length = k) (W : World) (hc : n ≤ z) (hd : k ≤ y) (h : Kd.C Kd.string W A l.length l) (g : Kd.C Kd.string W B m.length m) (hs : ∀ s ∈ l ++ m, s.size ≤ 1000000) (hl : n + k ≤ 65536)
    (am : Asc (wholeO nu fo bl re f t c) m) :
    Calls Tryd.prog 24 #[.agg #[.bool nu, .bool fo, .bool bl, .bool re, .int .i64 f, .int .i64 t, .int .u8 (c.toNat : Int)], .slice (some ⟨W.heap.size, 0, none⟩) 2 2] (W.alloc (.cells #[.slice A n z, .slice B k y] 22)) fun e w' => (∃ u, e = .returned (.tuple #[u, .int .i64 (if checkL false nu fo bl re f t c l = -1 then 0 else 1)])) ∧ Below W.heap.size W w' := by
  have hrow := rows_two W A B l m z y (by omega) (by omega) h g
  rw [hn, hk] at hrow
  refine (Merge_calls nu fo bl re f t c hck (some ⟨W.heap.size, 0, none⟩) 2 [l, m] _ hrow (by simp) (by simp) (fun x hx s hs' => ?_) (by simp; omega)).mono ?_
  · rcases List.mem_cons.1 hx with rfl | hx
    · exact hs s (by simp [hs'])
    · rw [List.mem_singleton.1 hx] at hs'; exact hs s (by simp [hs'])
  · rintro e w' ⟨hv, hb⟩
    refine ⟨?_, bth (bal (Below.refl _ _) _) hb⟩
    rcases hv with ⟨rfl, x, hx, h0⟩ | ⟨ha, v, R', rfl, h1, h2, h3⟩
    · rcases List.mem_cons.1 hx with rfl | hx
      · exact ⟨_, by rw [if_neg (by omega)]⟩
      · rw [List.mem_singleton.1 hx, check_asc nu fo bl re f t c _ am] at h0; omega
    · exact ⟨v, by rw [if_pos (ha l (by simp))]⟩
theorem sort_rd (R : List ByteArray) (A : Option Addr) (cap n k : Nat) (l : List ByteArray) (hR : sortL false nu fo bl re f t c l = R) (hn : l.length = n) (hk : R.length = k) (w : World) (hr : Kd.C Kd.string w A l.length l) (hc : n ≤ cap) (hl : n ≤ 65536) (hs : ∀ s ∈ l, s.size ≤ 1000000) :
    Calls Tryd.prog 19 #[.agg #[.bool nu, .bool fo, .bool bl, .bool re, .int .i64 f, .int .i64 t, .int .u8 (c.toNat : Int)], .slice A n cap, .bool false] w fun e w' => (∃ A' c', e = .returned (.tuple #[.slice A' k c', .int .i64 0]) ∧ k ≤ c' ∧ Kd.C Kd.string w' A' R.length R) ∧ Below w.heap.size w w' := by
  subst hn
  subst hk
  refine (sortA_calls nu fo bl re f t c hck A cap l w hr hc hl hs).mono ?_
  rintro e w' ⟨v, rfl, ht, hb⟩
  rw [hR] at ht
  obtain ⟨A', c', rfl, h1, h2⟩ := ht.reads
  exact ⟨⟨A', c', rfl, h1, h2⟩, hb⟩
end
set_option maxHeartbeats 4000000 in
set_option maxRecDepth 100000 in
theorem SortsMerged_walk (nu fo bl re : Bool) (f t : Int) (a0_6 : Int) (A1 : Option Addr) (z1 : Nat) (l1 : List ByteArray) (A2 : Option Addr) (z2 : Nat) (l2 : List ByteArray) (W : World) (ok0_4 : (Lit.int .i64 f).wf = true) (ok0_5 : (Lit.int .i64 t).wf = true) (ok0_6 : (Lit.int .u8 a0_6).wf = true) (hr1 : Kd.C Kd.string W A1 l1.length l1) (hc1 : l1.length ≤ z1) (ok1 : (∀ a ∈ l1, a.size ≤ 140737488351232) ∧ l1.length * 16 ≤ 140737488351232) (hr2 : Kd.C Kd.string W A2 l2.length l2) (hc2 : l2.length ≤ z2) (ok2 : (∀ a ∈ l2, a.size ≤ 140737488351232) ∧ l2.length * 16 ≤ 140737488351232) :
    Calls Tryd.prog 8 #[.agg #[.bool nu, .bool fo, .bool bl, .bool re, .int .i64 f, .int .i64 t, .int .u8 a0_6], .slice A1 l1.length z1, .slice A2 l2.length z2] W fun e W' => e = .returned (.bool true) ∧ Below W.heap.size W W' := by
  obtain ⟨c, rfl⟩ := byteS_of a0_6 ok0_6
  have HAL := Lib.hid (fun w => alive_calls w)
  obtain ⟨W0, hW0⟩ : ∃ W0, W.alloc (.cells #[.bool nu, .bool fo, .bool bl, .bool re, .int .i64 f, .int .i64 t, .int .u8 (c.toNat : Int)] 36) = W0 := ⟨_, rfl⟩
  have HOB := Lib.hid (show ∀ V, Below W0.heap.size W0 V → V.cell? ⟨W.heap.size, 0, none⟩ = some (.bool nu) ∧ V.cell? ⟨W.heap.size, 1, none⟩ = some (.bool fo) ∧ V.cell? ⟨W.heap.size, 2, none⟩ = some (.bool bl) ∧ V.cell? ⟨W.heap.size, 3, none⟩ = some (.bool re) ∧ V.cell? ⟨W.heap.size, 4, none⟩ = some (.int .i64 f) ∧ V.cell? ⟨W.heap.size, 5, none⟩ = some (.int .i64 t) ∧ V.cell? ⟨W.heap.size, 6, none⟩ = some (.int .u8 (c.toNat : Int)) from fun V h => ordBox W nu fo bl re f t c V (by rw [hW0]; exact h))
  have HBX := Lib.hid (show ∀ V, Below W0.heap.size W0 V → V.heap[W.heap.size]? = some (ordObj nu fo bl re f t c) ∧ W.heap.size < W0.heap.size from fun V h => ⟨(h.block W.heap.size (by rw [← hW0]; simp)).trans (by rw [← hW0]; exact World.alloc_heap_new W _), by rw [← hW0]; simp⟩)
  have HR := Lib.hid hr1
  have HR2 := Lib.hid hr2
  have HOK2 := Lib.hid ok2
  have HL0 := Lib.hid (show Below W.heap.size W W0 by rw [← hW0]; exact bal (Below.refl _ _) _)
  have HW := Lib.hid hW0
  have HOK := Lib.hid ok1
  clear hr1 hr2 hW0 ok1 ok2 ok0_6
  go_enter Tryd.func8, Tryd.ntmps8
  go_wp2_with fail
  rw [HW.out]
  with_reducible refine (HAL.out _).mono ?_
  rintro e w1 ⟨rfl, hb1⟩
  have B1 := Lib.hid hb1
  clear hb1
  go_wp2_with fail
  with_reducible refine (few_two A1 A2 z1 z2 l1 l2 w1 hc1 hc2 (Kd.C_below HR.out (bth HL0.out B1.out)) (Kd.C_below HR2.out (bth HL0.out B1.out)) HOK.out HOK2.out).mono ?_
  rintro e w2 ⟨⟨r, rfl, hrr⟩, hb2⟩
  have B2 := Lib.hid (bth B1.out hb2)
  have HRR := Lib.hid hrr
  clear hb2 hrr
  cases r with
  | false =>
    go_wp2_with fail
    with_reducible refine (HAL.out _).mono ?_
    rintro e w9 ⟨rfl, hb9⟩
    have B9 := Lib.hid (bth B2.out hb9)
    clear hb9
    go_wp2
    go_ret
    exact ⟨rfl, bth (by rw [← HW.out]; exact bal (Below.refl _ _) _) B9.out⟩
  | true =>
    have hll := (HRR.out rfl).1
    have hlm := (HRR.out rfl).2.1
    have HSS := Lib.hid (HRR.out rfl).2.2
    clear HRR
    obtain ⟨e0, e1, e2, e3, e4, e5, e6⟩ := HOB.out _ B2.out
    obtain ⟨ck, hck⟩ : ∃ ck, checkO f t c = ck := ⟨_, rfl⟩
    have HCK := Lib.hid (fun V => ckeck_ord nu fo bl re f t c V)
    rw [hck] at HCK
    go_wp2_with fail
    with_reducible refine (HCK.out _).mono ?_
    rintro e w3 ⟨rfl, hb3⟩
    have B3 := Lib.hid (bth B2.out hb3)
    clear hb3 e0 e1 e2 e3 e4 e5 e6
    cases ck with
    | false =>
      go_wp2_with fail
      with_reducible refine (HAL.out _).mono ?_
      rintro e w9 ⟨rfl, hb9⟩
      have B9 := Lib.hid (bth B3.out hb9)
      clear hb9
      go_wp2
      go_ret
      exact ⟨rfl, bth (by rw [← HW.out]; exact bal (Below.refl _ _) _) B9.out⟩
    | true =>
      have has : ∀ s ∈ l1 ++ l2, s.size ≤ 1000000 := fun s hs => Nat.le_trans (HSS.out s hs) (by decide)
      have hp1 := sortA_perm nu fo bl re f t c l1
      have hp2 := sortA_perm nu fo bl re f t c l2
      have hp3 := sortA_perm nu fo bl re f t c (l1 ++ l2)
      have ha1 := sortA_asc nu fo bl re f t c l1
      have ha2 := sortA_asc nu fo bl re f t c l2
      have ha3 := sortA_asc nu fo bl re f t c (l1 ++ l2)
      obtain ⟨a, ha⟩ : ∃ a, sortL false nu fo bl re f t c l1 = a := ⟨_, rfl⟩
      obtain ⟨b, hb⟩ : ∃ b, sortL false nu fo bl re f t c l2 = b := ⟨_, rfl⟩
      obtain ⟨d, hd⟩ : ∃ d, sortL false nu fo bl re f t c (l1 ++ l2) = d := ⟨_, rfl⟩
      rw [ha] at hp1 ha1
      rw [hb] at hp2 ha2
      rw [hd] at hp3 ha3
      have hn1 := hp1.length_eq
      have hn2 := hp2.length_eq
      have hn3 := hp3.length_eq
      rw [List.length_append] at hn3
      have hsab : ∀ s ∈ a ++ b, s.size ≤ 1000000 := fun s hs => by
        rcases List.mem_append.1 hs with h | h
        · exact has s (List.mem_append_left _ (hp1.mem_iff.1 h))
        · exact has s (List.mem_append_right _ (hp2.mem_iff.1 h))
      have hsla : ∀ s ∈ l1 ++ a, s.size ≤ 1000000 := fun s hs => by
        rcases List.mem_append.1 hs with h | h
        · exact has s (List.mem_append_left _ h)
        · exact has s (List.mem_append_left _ (hp1.mem_iff.1 h))
      have HS1 := Lib.hid (fun w h => sort_rd nu fo bl re f t c hck a A1 z1 l1.length l1.length l1 ha rfl hn1 w h hc1 (by omega) (fun s hs => has s (List.mem_append_left _ hs)))
      have HS2 := Lib.hid (fun w h => sort_rd nu fo bl re f t c hck b A2 z2 l2.length l2.length l2 hb rfl hn2 w h hc2 (by omega) (fun s hs => has s (List.mem_append_right _ hs)))
      have HS3 := Lib.hid (fun A cap w h hc => sort_rd nu fo bl re f t c hck d A cap (l1.length + l2.length) (l1.length + l2.length) (l1 ++ l2) hd List.length_append hn3 w h hc (by omega) has)
      have HM3 := Lib.hid (fun A B z y W hc hc' h g => mrg3 nu fo bl re f t c hck A B a b d (fun R' h1 h2 => asc_one nu fo bl re f t c R' d (h1.trans ((hp1.append hp2).trans hp3.symm)) h2 ha3) z y l1.length l2.length hn1 hn2 W hc hc' h g hsab (by omega) ha1 ha2)
      rw [hn3] at HM3
      have HM2 := Lib.hid (fun B y W hd h g => mrg2 nu fo bl re f t c hck A1 B l1 a z1 y l1.length l1.length rfl hn1 W hc1 hd h g hsla (by omega) ha1)
      have HCH := Lib.hid (fun V h => check_calls false nu fo bl re f t c A1 z1 l1 V h hc1 (by omega) (fun s hs => has s (List.mem_append_left _ hs)))
      unfold ordV at HCH
      obtain ⟨ks, hke⟩ := same_ev d (by omega)
      have HSM := Lib.hid (fun A c A' c' w h1 h2 h3 h4 => toolchestlaw01_SameTexts.calls ks A c d A' c' d true w h1 h2 h3 h4 hke)
      rw [hn3] at HSM
      obtain ⟨q, hq⟩ : ∃ q, checkL false nu fo bl re f t c l1 = q := ⟨_, rfl⟩
      have hq1 : q = -1 ∨ 0 ≤ q := hq ▸ check_le nu fo bl re f t c l1
      rw [hq] at HM2 HCH
      have HN3 := Lib.hid hn3
      clear has hp1 hp2 hp3 ha1 ha2 ha3 ha hb hd hn1 hn2 hn3 hsab hsla hke hq hck
      obtain ⟨e0, e1, e2, e3, e4, e5, e6⟩ := HOB.out _ B3.out
      go_wp2_with fail
      with_reducible refine (HS1.out _ (Kd.C_below HR.out (bth HL0.out B3.out))).mono ?_
      rintro e w4 ⟨⟨A4, c4, rfl, hc4, hC4⟩, hb4⟩
      have B4 := Lib.hid (bth B3.out hb4)
      have C4 := Lib.hid hC4
      clear hb4 hC4 e0 e1 e2 e3 e4 e5 e6
      obtain ⟨e0, e1, e2, e3, e4, e5, e6⟩ := HOB.out _ B4.out
      go_wp2_with fail
      with_reducible refine (HS2.out _ (Kd.C_below HR2.out (bth HL0.out B4.out))).mono ?_
      rintro e w5 ⟨⟨A5, c5, rfl, hc5, hC5⟩, hb5⟩
      have B5 := Lib.hid (bth B4.out hb5)
      have C5 := Lib.hid (And.intro (Kd.C_below C4.out hb5) hC5)
      clear hb5 hC5 e0 e1 e2 e3 e4 e5 e6
      obtain ⟨e0, e1, e2, e3, e4, e5, e6⟩ := HOB.out _ B5.out
      go_wp2_with fail
      with_reducible refine (HM3.out A4 A5 c4 c5 _ hc4 hc5 C5.out.1 C5.out.2).mono ?_
      rintro e w6 ⟨⟨A6, c6, rfl, hc6, hC6⟩, hb6⟩
      have B6 := Lib.hid (bth B5.out hb6)
      have C6 := Lib.hid (And.intro (Kd.C_below C5.out.1 hb6) hC6)
      clear hb6 hC6 e0 e1 e2 e3 e4 e5 e6
      have HCA := Lib.hid (C_cells (Kd.C_below HR.out (bth HL0.out B6.out)))
      go_wp2_with (at_builtin; go_loud (refine app_texts _ w6.heap.size rfl (.tmp 53) (.tmp 54) rfl (.slice none 0 0) [] l1 A1 l1.length z1 rfl rfl rfl (Txs.nil _ _) HCA.out (Nat.le_refl _) (by simp; omega) ?_))
      intro v7 w7 h7 g7
      have D7 := Lib.hid (And.intro h7 ((Below.refl w6.heap.size w6).grown g7 (Nat.le_refl _) (fun b hb => by simp [Value.ownBlock] at hb)))
      clear h7 g7
      have HCB := Lib.hid (C_cells (Kd.C_below HR2.out (bth HL0.out (bth B6.out D7.out.2))))
      go_wp2_with (at_builtin; go_loud (refine app_texts _ w6.heap.size rfl (.tmp 56) (.tmp 57) rfl v7 ([] ++ l1) l2 A2 l2.length z2 rfl rfl rfl D7.out.1 HCB.out D7.out.2.size (by simp; omega) ?_))
      intro v8 w8 h8 g8
      have D8 := Lib.hid (And.intro (show Txs w6.heap.size v8 (l1 ++ l2) w8 by simpa using h8) (D7.out.2.grown g8 D7.out.2.size (fun b hb => own_base D7.out.1 b hb)))
      clear h8 g8
      have B8 := Lib.hid (bth B6.out D8.out.2)
      have C8 := Lib.hid (And.intro (Kd.C_below C6.out.1 D8.out.2) (Kd.C_below C6.out.2 D8.out.2))
      obtain ⟨A8, c8, rfl, hc8, hC8⟩ := D8.out.1.reads
      rw [show (Value.slice A8 (l1 ++ l2).length c8) = .slice A8 (l1.length + l2.length) c8 by rw [List.length_append]]
      rw [List.length_append] at hc8
      have C9 := Lib.hid hC8
      clear hC8
      obtain ⟨e0, e1, e2, e3, e4, e5, e6⟩ := HOB.out _ B8.out
      go_wp2_with fail
      with_reducible refine (HS3.out _ _ _ C9.out hc8).mono ?_
      rintro e w9 ⟨⟨A9, c9, rfl, hc9, hC9⟩, hb9⟩
      have B9 := Lib.hid (bth B8.out hb9)
      have C10 := Lib.hid (And.intro (Kd.C_below C8.out.1 hb9) (And.intro (Kd.C_below C8.out.2 hb9) hC9))
      clear hb9 hC9 e0 e1 e2 e3 e4 e5 e6
      obtain ⟨e0, e1, e2, e3, e4, e5, e6⟩ := HOB.out _ B9.out
      go_wp2_with fail
      with_reducible refine (HM2.out A4 c4 _ hc4 (Kd.C_below HR.out (bth HL0.out B9.out)) C10.out.1).mono ?_
      rintro e w10 ⟨⟨u, rfl⟩, hb10⟩
      have B10 := Lib.hid (bth B9.out hb10)
      have hCd := Kd.C_below C10.out.2.1 hb10
      have hCe := Kd.C_below C10.out.2.2 hb10
      rw [HN3.out] at hCe
      have C11 := Lib.hid (And.intro hCd hCe)
      clear hb10 hCd hCe e0 e1 e2 e3 e4 e5 e6
      rcases hq1 with rfl | hq1
      · go_wp2_with fail
        with_reducible refine (HSM.out A6 c6 A9 c9 _ C11.out.1 hc6 C11.out.2 hc9).mono ?_
        first | (rintro e w11 rfl hb11) | (rintro e w11 ⟨rfl, hb11⟩)
        have B11 := Lib.hid (bth B10.out hb11.below)
        clear hb11
        obtain ⟨e0, e1, e2, e3, e4, e5, e6⟩ := HOB.out _ B11.out
        go_wp2_with fail
        with_reducible refine (HCH.out _ (Kd.C_below HR.out (bth HL0.out B11.out))).mono ?_
        rintro e w12 ⟨rfl, hb12⟩
        have B12 := Lib.hid (bth B11.out hb12)
        clear hb12
        go_wp2
        go_ret
        exact ⟨rfl, bth (by rw [← HW.out]; exact bal (Below.refl _ _) _) B12.out⟩
      · have hne : ¬ q = -1 := by omega
        have g0 : decide (q < 0) = false := decide_eq_false (by omega)
        rw [if_neg hne]
        go_wp2_with fail
        with_reducible refine (HSM.out A6 c6 A9 c9 _ C11.out.1 hc6 C11.out.2 hc9).mono ?_
        first | (rintro e w11 rfl hb11) | (rintro e w11 ⟨rfl, hb11⟩)
        have B11 := Lib.hid (bth B10.out hb11.below)
        clear hb11
        obtain ⟨e0, e1, e2, e3, e4, e5, e6⟩ := HOB.out _ B11.out
        go_wp2_with fail
        with_reducible refine (HCH.out _ (Kd.C_below HR.out (bth HL0.out B11.out))).mono ?_
        rintro e w12 ⟨rfl, hb12⟩
        have B12 := Lib.hid (bth B11.out hb12)
        clear hb12
        go_wp2
        go_ret
        exact ⟨rfl, bth (by rw [← HW.out]; exact bal (Below.refl _ _) _) B12.out⟩
end Go.Proofs.YtaekgfmcelckoaaDoor.P

/- views.table, views.Sum: the POSIX sum by a table. -/
import Derived.Test.YthkaekeelokajaaDoorHelp
import Derived.Test.YthkaekeelokajaaDoorVCrc
import Derived.Great.Walk
import Derived.Laws.Rows
import Derived.Laws.DeepBits32
import Derived.Laws.BitsAllLaws
import Derived.WalkLawsBesides
import Derived.WalkSpells
import Derived.Outline
import Derived.ArgAppend
import Derived.Test.YthkaekeelokajaaDoorConv
set_option linter.unusedVariables false
set_option linter.unusedSimpArgs false
namespace Go.Proofs.YthkaekeelokajaaDoor.C
open Go.RowKit Go.Proofs Go.Proofs.YthkaekeelokajaaDoor.H Go.Proofs.YthkaekeelokajaaDoor.Crc Go.Proofs.YthkaekeelokajaaDoorW.PrintWords

def u32 (x : BitVec 32) : Value := .int .u32 (x.toNat : Int)
/-- The table's cells, k of them told. -/
def tabV (k : Nat) : Array Value := ((List.range 256).map fun i => if i < k then u32 (tb i) else .int .u32 0).toArray
theorem tabV_zero : tabV 0 = Array.replicate 256 (.int .u32 0) := by
  unfold tabV
  apply Array.ext
  · simp
  · intro i h1 h2; simp
theorem tabV_size (k : Nat) : (tabV k).size = 256 := by simp [tabV]
theorem tabV_get (k i : Nat) (h : i < 256) : (tabV k)[i]? = some (if i < k then u32 (tb i) else .int .u32 0) := by
  simp [tabV, h]
theorem tabV_set (k : Nat) (h : k < 256) : (tabV k).setIfInBounds k (u32 (tb k)) = tabV (k + 1) := by
  apply Array.ext
  · simp [tabV]
  · intro i h1 h2
    simp only [tabV_size] at h2
    rw [Array.getElem_setIfInBounds (by simpa using h1)]
    have e1 := tabV_get k i h2
    have e2 := tabV_get (k + 1) i h2
    rw [Array.getElem?_eq_getElem (by rw [tabV_size]; exact h2)] at e1 e2
    rw [Option.some.inj e1, Option.some.inj e2]
    by_cases h3 : k = i
    · subst h3; simp
    · rw [if_neg h3]
      by_cases h4 : i < k
      · rw [if_pos h4, if_pos (by omega)]
      · rw [if_neg h4, if_neg (by omega)]
theorem tabV_one (k : Nat) : (tabV k).all (·.oneCell') = true := by
  rw [Array.all_eq_true]
  intro i hi
  have e1 := tabV_get k i (by rw [tabV_size] at hi; exact hi)
  rw [Array.getElem?_eq_getElem hi] at e1
  rw [Option.some.inj e1]
  split <;> rfl
theorem ofInt32 (x : BitVec 32) : BitVec.ofInt 32 (x.toNat : Int) = x := by
  apply BitVec.eq_of_toNat_eq
  rw [BitVec.toNat_ofInt]
  have := x.isLt
  omega
theorem xor32 (x y : BitVec 32) : bits .xor .u32 (x.toNat : Int) (y.toNat : Int) = ((x ^^^ y).toNat : Int) := by
  show IntKind.u32.wrap ((BitVec.ofInt 32 (x.toNat : Int) ^^^ BitVec.ofInt 32 (y.toNat : Int)).toNat : Int) = _
  rw [ofInt32, ofInt32, IntKind.wrap_u32]
  have := (x ^^^ y).isLt
  omega
theorem shl32 (x : BitVec 32) (n : Nat) : ((x.toNat : Int) * 2 ^ n) % 4294967296 = ((x <<< n).toNat : Int) := by
  rw [BitVec.toNat_shiftLeft, Nat.shiftLeft_eq]
  simp
theorem top32 (x : BitVec 32) : ((x.toNat : Int) / 2147483648) * 79764919 % 4294967296 = (((if x.msb then P else 0#32) : BitVec 32).toNat : Int) := by
  rw [BitVec.msb_eq_decide]
  have := x.isLt
  by_cases h : 2147483648 ≤ x.toNat
  · rw [if_pos (by simpa using h)]
    have : (x.toNat : Int) / 2147483648 = 1 := by omega
    rw [this]; rfl
  · rw [if_neg (by simpa using h)]
    have : (x.toNat : Int) / 2147483648 = 0 := by omega
    rw [this]; rfl
theorem step32 (x : BitVec 32) : bits .xor .u32 ((x.toNat : Int) * 2 % 4294967296) ((x.toNat : Int) / 2147483648 * 79764919 % 4294967296) = ((st x).toNat : Int) := by
  have h := shl32 x 1
  rw [show (2 : Int) ^ 1 = 2 from rfl] at h
  rw [h, top32, xor32]
  rfl
theorem stN_succ : ∀ (n : Nat) (x : BitVec 32), stN (n + 1) x = st (stN n x)
  | 0, _ => rfl
  | n + 1, x => by
    show stN (n + 1) (st x) = st (stN n (st x))
    exact stN_succ n (st x)
theorem sizeT : (Tryd.prog.info? 76).map (·.size) = some 256 := by kernel_rfl
set_option maxHeartbeats 1000000 in
set_option maxRecDepth 100000 in
theorem table_calls (w : World) : Calls Tryd.prog 75 #[] w fun e w' => e = .returned (.agg (tabV 256)) ∧ Below w.heap.size w w' := by
  obtain ⟨W0, hW0⟩ : ∃ W0, w.alloc (.cells (tabV 0) 76) = W0 := ⟨_, rfl⟩
  have b0 : Below w.heap.size w W0 := by rw [← hW0]; exact bal (Below.refl _ _) _
  have z0 : W0.heap[w.heap.size]? = some (.cells (tabV 0) 76 (0, 0)) := by rw [← hW0]; exact heap_alloc_new _ _
  have HW := Lib.hid hW0
  have B0 := Lib.hid (And.intro b0 z0)
  clear hW0 b0 z0
  go_enter Tryd.func75, Tryd.ntmps75
  go_wp2_with (refine Great.wpList_allocTo rfl (some 0) rfl (.pointer (some ⟨w.heap.size, 0, none⟩)) (.cells (Array.replicate 256 (.int .u32 0)) 76) (by kernel_rfl) ?_)
  rw [← tabV_zero, HW.out]
  go_loopw [1, 2, 3] (fun _ _ i wr => ∃ k : Nat, k ≤ 256 ∧ i = .int .i64 (k : Int) ∧ Hid (Below w.heap.size w wr ∧ wr.heap[w.heap.size]? = some (.cells (tabV k) 76 (0, 0)))) (fun _ _ i _ => 256 - (intOf i).toNat)
  case atStart => exact ⟨0, by decide, rfl, B0⟩
  case round =>
    obtain ⟨k, hk, rfl, hst⟩ := hrel
    by_cases hlt : k < 256
    · obtain ⟨X, hX⟩ : ∃ X, BitVec.ofNat 32 (k * 2 ^ 24) = X := ⟨_, rfl⟩
      have hx0 : (k : Int) * 16777216 = (X.toNat : Int) := by
        rw [← hX, ofNat_small _ (by omega)]
        omega
      have HX := Lib.hid (And.intro hX hx0)
      clear hX hx0
      have c0 : wr.cell? ⟨w.heap.size, k, none⟩ = some (.int .u32 0) := by
        rw [Lib.cell_of_heap hst.out.2, tabV_get k k hlt, if_neg (by omega)]
      have f0 : wr.frozen? ⟨w.heap.size, k, none⟩ = false := Lib.frozen_of_heap hst.out.2 k
      go_wp2
      go_loop [2, 9] (fun x j => ∃ m : Nat, m ≤ 8 ∧ j = .int .i64 (m : Int) ∧ x = .int .u32 ((stN m X).toNat : Int)) (fun _ j => 8 - (intOf j).toNat)
      case atStart => exact ⟨0, by decide, rfl, by rw [HX.out.2]; rfl⟩
      case round =>
        obtain ⟨m, hm, rfl, rfl⟩ := hrel
        by_cases hm8 : m < 8
        · have hs := Lib.hid (stN_succ m X)
          obtain ⟨Y, hY⟩ : ∃ Y, stN m X = Y := ⟨_, rfl⟩
          rw [hY] at hs ⊢
          obtain ⟨y, hy⟩ : ∃ y : Int, (Y.toNat : Int) = y := ⟨_, rfl⟩
          rw [hy]
          have HY := Lib.hid hy
          have hy0 : 0 ≤ y := by omega
          clear hy hY
          go_wp2
          go_round
          case rel => exact ⟨m + 1, by omega, by go_num, by rw [hs.out, ← HY.out, step32]⟩
          case measure => simp [intOf]; omega
        · obtain rfl : m = 8 := by omega
          have hs : stN 8 X = tb k := by unfold tb; rw [HX.out.1]
          rw [hs]
          have hs2 := Lib.hid (show (wr.setCell ⟨w.heap.size, k, none⟩ (.int .u32 ((tb k).toNat : Int))).heap[w.heap.size]? = some (.cells (tabV (k + 1)) 76 (0, 0)) by
            rw [heap_setCell_same _ _ _ _ _ _ hst.out.2]
            show some (Obj.cells ((tabV k).setIfInBounds k (u32 (tb k))) _ _) = _
            rw [tabV_set k hlt])
          clear hs
          go_wp2
          go_roundw
          case rel => exact ⟨k + 1, by omega, by go_num, Lib.hid ⟨hst.out.1.setCell (p := ⟨w.heap.size, k, none⟩) (Nat.le_refl _) _, hs2.out⟩⟩
          case measure => simp [intOf]; omega
    · obtain rfl : k = 256 := by omega
      have hb2 : (wr.setRow w.heap.size (tabV 256)).heap[w.heap.size]? = some (.cells (tabV 256) 76 (0, 0)) := setRow_heap _ _ _ _ _ _ hst.out.2
      have HB2 := Lib.hid hb2
      clear hb2
      go_wp2_with (first | (refine wpList_load_row rfl 76 (.tmp 0) rfl w.heap.size rfl 76 (tabV 256) (0, 0) _ hst.out.2 Tryd.underlying76 rfl (by rw [tabV_size]; exact sizeT) ?_) | (refine wpList_store_row rfl 76 (.tmp 0) (.tmp 22) rfl w.heap.size (tabV 256) rfl rfl 76 (tabV 256) hst.out.2 (by rw [tabV_size]; exact sizeT) rfl (tabV_one _) ?_))
      refine bodyPost_ret (results_cell_row rfl _ _ w.heap.size 76 (tabV 256) (0, 0) _ rfl HB2.out Tryd.underlying76 rfl (by rw [tabV_size]; exact sizeT)) rfl ⟨rfl, ?_⟩
      exact ⟨hst.out.1.os, hst.out.1.tape, hst.out.1.output, by rw [setRow_size]; exact hst.out.1.size, fun i hi => (setRow_other _ _ _ _ (by omega)).trans (hst.out.1.block i hi)⟩
/-- A list of bytes in memory of the call's own (or of a conversion), with whatever room behind it. -/
def BB (N : Nat) (W : World) (v : Value) (l : List UInt8) : Prop := ∃ g cap, v = .slice (some ⟨g, 0, none⟩) l.length cap ∧ (N ≤ g ∧ g < W.heap.size) ∧ l.length ≤ cap ∧ cap ≤ maxLen ∧
  (∀ j (h : j < l.length), W.cell? ⟨g, j, none⟩ = some (.int .u8 (l[j].toNat : Int))) ∧ (∀ j, l.length ≤ j → j < cap → (W.cell? ⟨g, j, none⟩).isSome = true ∧ W.frozen? ⟨g, j, none⟩ = false)
theorem bb_conv (W : World) (s : ByteArray) (hs : s.size ≤ 100000000) : BB W.heap.size (Lib.bytesWorld W 5 s) (.slice (some ⟨W.heap.size, 0, none⟩) s.size (grownCap W s.size 0 5)) s.data.toList := by
  have hl : s.data.toList.length = s.size := (Lib.size_eq s).symm
  have hge := grownCap_ge W s.size 0 5
  refine ⟨W.heap.size, grownCap W s.size 0 5, by rw [hl], ⟨Nat.le_refl _, by rw [Lib.bytesWorld_size]; omega⟩, by rw [hl]; exact hge, grownCap_le_maxLen W s.size 0 5 (by unfold maxLen; omega), fun j h => ?_, fun j h1 h2 => ?_⟩
  · rw [Lib.bytesWorld_cell W _ s j (by rw [← hl]; exact h), List.getD_eq_getElem?_getD, List.getElem?_eq_getElem h]; rfl
  · have hb := Lib.bytesWorld_at_new W 5 s
    have hsz : (Lib.bytesCells W 5 s).size = grownCap W s.size 0 5 := by
      unfold Lib.bytesCells
      rw [Array.size_append, Array.size_map, Array.size_replicate]
      have : s.data.size = s.size := rfl
      omega
    constructor
    · simp only [World.cell?, hb]
      simp [hsz, h2]
    · simp only [World.frozen?, hb]
      simp [hsz]
      omega
theorem BB.below {N : Nat} {W W' : World} {v : Value} {l : List UInt8} (h : BB N W v l) (hb : Below W.heap.size W W') : BB N W' v l := by
  obtain ⟨g, cap, rfl, h1, h2, h3, h4, h5⟩ := h
  have hg := h1.2
  exact ⟨g, cap, rfl, ⟨h1.1, by have := hb.size; omega⟩, h2, h3, fun j hj => (hb.cell (p := ⟨g, j, none⟩) hg).trans (h4 j hj), fun j a b => by rw [hb.cell (p := ⟨g, j, none⟩) hg, hb.frozen (p := ⟨g, j, none⟩) hg]; exact h5 j a b⟩
theorem wpList_append_bb {P : Program} (w : World) {ops : Array Oper} {rest : List Oper} {o : Oper} {a : Act} {Q : Exit → Act → World → Prop}
    (hg : o.guard = none) (s x : Operand) (t : TypeId) (hop : o.op = Op.call { callee := Callee.builtin Builtin.append, args := #[s, x], argTypes := #[t, t] })
    (e : TypeId) (i : TypeInfo) (h1 : P.underlying t = some (.slice e)) (h2 : P.info? e = some i) (h3 : i.zero = some (.int .u8 0)) (h4 : i.size = 1) (h5 : i.bytes = 1)
    (N : Nat) (hN : N ≤ w.heap.size) (v : Value) (l : List UInt8) (hv : a.eval s = v) (hb : BB N w v l) (ad : Addr) (c : UInt8) (hx : a.eval x = .slice (some ad) 1 1) (hc : w.cell? ad = some (.int .u8 (c.toNat : Int)))
    (hl : l.length + 1 ≤ 140737488355328)
    (h : ∀ v' w', BB N w' v' (l ++ [c]) → Below N w w' → wpList P ops Q rest (a.put o.dst v') w') : wpList P ops Q (o :: rest) a w := by
  obtain ⟨g, cap, rfl, b1, b2, b3, b4, b5⟩ := hb
  have hll : (l ++ [c]).length = l.length + 1 := by simp
  refine wpList_append_arg w hg s x t hop e i (.int .u8 0) 1 1 h1 h2 h3 h4 h5 rfl (by decide) g 0 l.length cap (l.map fun c => .int .u8 (c.toNat : Int)) hv (by simp) (fun j u hj => ?_) ad 1 1 [.int .u8 (c.toNat : Int)] hx rfl (fun j u hj => ?_) (fun u hu => by simp at hu; subst hu; rfl) (fun hr j hj => ?_) (by unfold maxLen; omega) (by omega) (fun hr => ?_) (fun hr v' w' ho hgr => ?_)
  · obtain ⟨hlt, hu⟩ := List.getElem?_eq_some_iff.1 hj
    simp at hlt hu
    rw [Nat.zero_add, b4 j hlt, ← hu]
  · match j, hj with
    | 0, hj =>
      simp at hj; subst hj
      simpa [Addr.add] using hc
  · simp at hj
    subst hj
    simpa using b5 l.length (Nat.le_refl _) (by omega)
  · obtain ⟨hs1, hs2⟩ := b5 l.length (Nat.le_refl _) (by omega)
    have hw : w.setCells g (0 + l.length * 1) [.int .u8 (c.toNat : Int)] = w.setCell ⟨g, l.length, none⟩ (.int .u8 (c.toNat : Int)) := by
      simp [World.setCells]
    rw [hw]
    refine h _ _ ⟨g, cap, by rw [hll], ⟨b1.1, by simp [World.setCell]; exact b1.2⟩, by rw [hll]; omega, b3, fun j hj => ?_, fun j j1 j2 => ?_⟩ ((Below.refl N w).setCell (p := ⟨g, l.length, none⟩) b1.1 _)
    · rw [hll] at hj
      by_cases hjl : j < l.length
      · rw [World.cell?_setCell_other _ _ _ _ (by intro e; simp at e <;> omega), b4 j hjl, List.getElem_append_left hjl]
      · obtain rfl : j = l.length := by omega
        obtain ⟨u, hu⟩ := Option.isSome_iff_exists.1 hs1
        rw [List.getElem_append_right (Nat.le_refl _)]
        simpa using World.cell?_setCell_same w ⟨g, l.length, none⟩ _ hu
    · rw [hll] at j1
      rw [World.cell?_setCell_other _ _ _ _ (by intro e; simp at e <;> omega), World.frozen?_setCell]
      exact b5 j (by omega) j2
  · have hsz := hgr.size
    rcases ho.2 with ⟨_, h0⟩ | ⟨g', cap', cur, rfl, c1, c2, c3, c4, c5, c6⟩
    · omega
    · refine h _ _ ⟨g', cap', by rw [hll], ⟨by omega, (Array.getElem?_eq_some_iff.1 c2).1⟩, by rw [hll]; omega, c4, fun j hj => ?_, fun j j1 j2 => ?_⟩ ⟨hgr.os, hgr.tape, hgr.output, hgr.size, fun k hk => hgr.block k (by omega) (fun e => by cases e)⟩
      · rw [Lib.cell_of_heap c2]
        rw [hll] at hj
        have hj2 : (cur.toList.take ((l.length + 1) * 1))[j]? = cur[j]? := by rw [List.getElem?_take, if_pos (by omega), Array.getElem?_toList]
        rw [← hj2, c6]
        by_cases hjl : j < l.length
        · rw [List.getElem?_append_left (by simpa using hjl), List.getElem_append_left hjl]
          simp [hjl]
        · obtain rfl : j = l.length := by omega
          rw [List.getElem?_append_right (by simp), List.getElem_append_right (Nat.le_refl _)]
          simp
      · rw [hll] at j1
        refine ⟨?_, Lib.frozen_of_heap c2 j⟩
        rw [Lib.cell_of_heap c2, Array.getElem?_eq_getElem (by omega)]
        rfl
theorem lenBytes_len : ∀ (f n : Nat), n ≤ f → (lenBytes n).length ≤ n
  | 0, n, h => by
    obtain rfl : n = 0 := by omega
    simp [lenBytes_zero]
  | f + 1, n, h => by
    rcases Nat.eq_zero_or_pos n with h0 | h0
    · subst h0; simp [lenBytes_zero]
    · rw [lenBytes_pos n h0, List.length_cons]
      have := lenBytes_len f (n / 256) (by omega)
      omega
theorem bits_nat8 (a b : Nat) (ha : a < 256) (hb : b < 256) : bits .xor .u8 (a : Int) (b : Int) = ((a ^^^ b : Nat) : Int) := by
  show IntKind.u8.wrap ((BitVec.ofInt 8 (a : Int) ^^^ BitVec.ofInt 8 (b : Int)).toNat : Int) = _
  have e : ∀ n : Nat, n < 256 → (BitVec.ofInt 8 (n : Int)).toNat = n := fun n h => by rw [BitVec.toNat_ofInt]; omega
  have hx : a ^^^ b < 2 ^ 8 := Nat.xor_lt_two_pow ha hb
  rw [BitVec.toNat_xor, e a ha, e b hb, IntKind.wrap_u8]
  omega
theorem sum_end (l : List UInt8) (n : Nat) : Ending.returned (.int .u32 (bits .xor .u32 IntKind.u32.max ((run 0#32 (l ++ lenBytes n)).toNat : Int))) = Ending.returned (.int .u32 ((~~~ run 0#32 (l ++ lenBytes n)).toNat : Int)) := by
  have h := xor32 (BitVec.allOnes 32) (run 0#32 (l ++ lenBytes n))
  rw [BitVec.allOnes_xor] at h
  have e : IntKind.u32.max = ((BitVec.allOnes 32).toNat : Int) := by decide
  rw [e, h]
set_option maxHeartbeats 2000000 in
set_option maxRecDepth 100000 in
theorem sum_calls (s : ByteArray) (hs : s.size ≤ 100000000) (w : World) : Calls Tryd.prog 22 #[.string s] w fun e w' => e = .returned (.int .u32 ((sumL s.data.toList).toNat : Int)) ∧ Below w.heap.size w w' := by
  obtain ⟨i0, hi, hz0, hz1, hz2⟩ := info_parts (show (Tryd.prog.info? 5).map (fun i => (i.zero, i.size, i.bytes)) = some (some (.int .u8 0), 1, 1) by kernel_rfl)
  have hsl : s.data.toList.length = s.size := (Lib.size_eq s).symm
  have HSL := Lib.hid hsl
  clear hsl
  go_enter Tryd.func22, Tryd.ntmps22
  go_wp2_with fail
  refine (table_calls _).mono ?_
  rintro e w1 ⟨rfl, hb1⟩
  have B1 := Lib.hid hb1
  clear hb1
  obtain ⟨W2, hW2⟩ : ∃ W2, (w1.alloc (.cells Tryd.zeroCells76 76)).setRow w1.heap.size (tabV 256) = W2 := ⟨_, rfl⟩
  have hz2 : (w1.alloc (.cells Tryd.zeroCells76 76)).heap[w1.heap.size]? = some (.cells Tryd.zeroCells76 76 (0, 0)) := heap_alloc_new _ _
  have t2 : W2.heap[w1.heap.size]? = some (.cells (tabV 256) 76 (0, 0)) := by rw [← hW2]; exact setRow_heap _ _ _ _ _ _ hz2
  have s2 : W2.heap.size = w1.heap.size + 1 := by rw [← hW2, setRow_size, World.size_alloc]
  have b2 : Below w.heap.size w W2 := by
    rw [← hW2]
    have h := bal B1.out (Obj.cells Tryd.zeroCells76 76)
    exact ⟨h.os, h.tape, h.output, by rw [setRow_size]; exact h.size, fun i hi => (setRow_other _ _ _ _ (by have := B1.out.size; omega)).trans (h.block i hi)⟩
  have Z2 := Lib.hid hz2
  have T2 := Lib.hid t2
  have S2 := Lib.hid s2
  have HW2 := Lib.hid hW2
  have B2 := Lib.hid b2
  clear hz2 t2 s2 hW2 b2
  go_wp2_with (refine wpList_store_row rfl 76 (.tmp 3) (.tmp 9) rfl w1.heap.size (tabV 256) rfl rfl 76 Tryd.zeroCells76 Z2.out (by rw [tabV_size]; exact sizeT) (by kernel_rfl) (tabV_one _) ?_)
  rw [HW2.out]
  obtain ⟨W3, hW3⟩ : ∃ W3, Lib.bytesWorld W2 5 s = W3 := ⟨_, rfl⟩
  have bb3 : BB W2.heap.size W3 (.slice (some ⟨W2.heap.size, 0, none⟩) s.size (grownCap W2 s.size 0 5)) s.data.toList := by rw [← hW3]; exact bb_conv W2 s hs
  have b3 : Below W2.heap.size W2 W3 := by rw [← hW3]; exact bby (Below.refl _ _) _ _
  have z3 : w1.heap.size + 1 ≤ W3.heap.size := by have := b3.size; rw [S2.out] at this; exact this
  rw [S2.out] at bb3
  have b3' : Below (w1.heap.size + 1) W2 W3 := by rw [S2.out] at b3; exact b3
  have HW3 := Lib.hid hW3
  have BB3 := Lib.hid bb3
  have B3 := Lib.hid (And.intro b3' z3)
  clear hW3 bb3 b3 b3' z3
  try rw [HW3.out]
  have hz0' : (0 : Int) ≤ (s.size : Int) := by omega
  go_loopw [4, 5] (fun v i wr => ∃ (n : Nat) (L : List UInt8), i = .int .i64 (n : Int) ∧ n ≤ s.size ∧ Hid (BB (w1.heap.size + 1) wr v L ∧ (Below (w1.heap.size + 1) W2 wr ∧ w1.heap.size + 1 ≤ wr.heap.size) ∧ L ++ lenBytes n = s.data.toList ++ lenBytes s.size)) (fun _ i _ => (intOf i).toNat)
  case atStart => exact ⟨s.size, s.data.toList, rfl, Nat.le_refl _, Lib.hid ⟨BB3.out, B3.out, rfl⟩⟩
  case round =>
    obtain ⟨n, L, rfl, hn, hst⟩ := hrel
    have hll := Lib.hid (show L.length ≤ 200000000 by
      have h1 := congrArg List.length hst.out.2.2
      rw [List.length_append, List.length_append, HSL.out] at h1
      have h2 := lenBytes_len s.size s.size (Nat.le_refl _)
      omega)
    by_cases hp : 0 < n
    · obtain ⟨c, hc⟩ : ∃ c, UInt8.ofNat (n % 256) = c := ⟨_, rfl⟩
      have hcn : ((n : Int) % 256) = (c.toNat : Int) := by
        rw [← hc]; simp
      have HC := Lib.hid (And.intro hc hcn)
      clear hc hcn
      go_wp2_with (at_builtin; rw [HC.out.2]; go_loud (refine wpList_append_bb _ rfl _ _ 53 rfl 5 i0 Tryd.underlying53 hi hz0 hz1 hz2 (w1.heap.size + 1) (by have := hst.out.2.1.2; simp; omega) _ L rfl (hst.out.1.below (bal (Below.refl _ _) _)) ⟨wr.heap.size, 0, none⟩ c rfl (by simp) (by have := hll.out; omega) ?_))
      intro v' w' hbb' hbl'
      have HB' := Lib.hid (And.intro hbb' hbl')
      clear hbb' hbl'
      go_wp2
      go_roundw
      case rel =>
        refine ⟨n / 256, L ++ [c], by go_num, by omega, Lib.hid ⟨HB'.out.1, ⟨(((hst.out.2.1.1).alloc hst.out.2.1.2 _).trans HB'.out.2), by have := HB'.out.2.size; have := hst.out.2.1.2; simp at *; omega⟩, ?_⟩⟩
        rw [List.append_assoc, ← hst.out.2.2]
        rw [lenBytes_pos n hp, HC.out.1]
        rfl
      case measure => simp [intOf]; omega
    · obtain rfl : n = 0 := by omega
      have hL : L = s.data.toList ++ lenBytes s.size := by simpa [lenBytes_zero] using hst.out.2.2
      have HL := Lib.hid hL
      clear hL
      obtain ⟨hbb, hbl, _⟩ := hst.out
      have HBL := Lib.hid (show Below w.heap.size W2 wr from hbl.1.mono (by have := B1.out.size; omega))
      have ht := T2.out
      have ht2 := (hbl.1.block w1.heap.size (by omega)).trans ht
      have HT := Lib.hid ht2
      obtain ⟨g, cap, rfl, b1, b2, b3, b4, b5⟩ := hbb
      have B4 := Lib.hid b4
      have hmx : cap ≤ 9223372036854775807 := by unfold maxLen at b3; omega
      clear b1 b3 b4 b5 hbl ht ht2
      have hll' := hll.out
      go_wp2
      have hL0 : (0 : Int) ≤ (L.length : Int) := by omega
      go_loop [6, 25] (fun x i => ∃ k : Nat, k ≤ L.length ∧ i = .int .i64 (k : Int) ∧ x = .int .u32 ((run 0#32 (L.take k)).toNat : Int)) (fun _ i => L.length - (intOf i).toNat)
      case atStart => exact ⟨0, Nat.zero_le _, rfl, by simp [run]⟩
      case round =>
        obtain ⟨k, hk, rfl, rfl⟩ := hrel
        by_cases hlt : k < L.length
        · have hcell := B4.out k hlt
          have hrun : run 0#32 (L.take (k + 1)) = fu (run 0#32 (L.take k)) L[k] := by
            rw [List.take_succ_eq_append_getElem hlt, run_append]; rfl
          obtain ⟨c, hc⟩ : ∃ c, L[k] = c := ⟨_, rfl⟩
          rw [hc] at hcell hrun
          obtain ⟨X, hX⟩ : ∃ X, run 0#32 (L.take k) = X := ⟨_, rfl⟩
          rw [hX] at hrun ⊢
          rw [fu_table] at hrun
          obtain ⟨z, hz⟩ : ∃ z, (X.toNat / 2 ^ 24) ^^^ c.toNat = z := ⟨_, rfl⟩
          rw [hz] at hrun
          have hz256 : z < 256 := by rw [← hz]; exact Nat.xor_lt_two_pow (n := 8) (by have := X.isLt; omega) c.toNat_lt
          have hzx : bits .xor .u8 ((X.toNat : Int) / 16777216) (c.toNat : Int) = (z : Int) := by
            have h1 := X.isLt
            have h2 := c.toNat_lt
            have h3 := bits_nat8 (X.toNat / 16777216) c.toNat (by omega) (by omega)
            rw [← hz]
            exact h3
          have htab : wr.cell? ⟨w1.heap.size, z, none⟩ = some (.int .u32 ((tb z).toNat : Int)) := by
            rw [Lib.cell_of_heap HT.out, tabV_get 256 z hz256, if_pos hz256]; rfl
          have hxx : bits .xor .u32 ((X.toNat : Int) * 256 % 4294967296) ((tb z).toNat : Int) = (((X <<< 8) ^^^ tb z).toNat : Int) := by
            have h := shl32 X 8
            rw [show (2 : Int) ^ 8 = 256 from rfl] at h
            rw [h, xor32]
          have hq : (X.toNat : Int) / 16777216 % 256 = (X.toNat : Int) / 16777216 := by have := X.isLt; omega
          obtain ⟨y, hy⟩ : ∃ y : Int, (X.toNat : Int) = y := ⟨_, rfl⟩
          have hy0 : 0 ≤ y := by omega
          rw [hy] at hzx hxx hq ⊢
          have hzz : bits .xor .u8 (y / 16777216 % 256) (c.toNat : Int) = (z : Int) := by rw [hq]; exact hzx
          have hz0 : (0 : Int) ≤ (z : Int) := by omega
          have HR := Lib.hid hrun
          have HX := Lib.hid hxx
          clear hrun hX hz hxx hc hy hzx hq
          go_wp2
          go_round
          case rel => exact ⟨k + 1, by omega, by go_num, by rw [HR.out, HX.out]⟩
          case measure => simp [intOf]; omega
        · obtain rfl : k = L.length := by omega
          rw [List.take_length]
          go_wp2
          go_ret
          exact ⟨by rw [HL.out]; exact (sum_end _ _).trans (by rw [← HSL.out]; rfl), B2.out.trans HBL.out⟩
end Go.Proofs.YthkaekeelokajaaDoor.C

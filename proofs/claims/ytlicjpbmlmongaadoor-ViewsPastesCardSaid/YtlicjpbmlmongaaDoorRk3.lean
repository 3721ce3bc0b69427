/- The book with lists of lists: marks are written into all. -/
import Derived.Test.YtlicjpbmlmongaaDoorRk2
set_option linter.unusedVariables false
set_option linter.unusedSimpArgs false
namespace Go.Proofs.YtlicjpbmlmongaaDoor.H
open Go.RowKit Go.Proofs.YtlicjpbmlmongaaDoorW.PrintWords Go.Proofs

/-- Each in a block of its own, below the book's; numbers that are small. -/
structure ApartR (Bk : Nat) (L : List Held) : Prop where
  low : ∀ i, i < L.length → ∀ b, (L.getD i zH).v.ownBlock = some b → b < Bk
  ne : ∀ i j, i < L.length → j < L.length → i ≠ j → (L.getD i zH).v.ownBlock = none ∨ (L.getD i zH).v.ownBlock ≠ (L.getD j zH).v.ownBlock
  num : ∀ i, i < L.length → (L.getD i zH).n ≤ 1000000
  sl : ∀ i, i < L.length → ∃ a n c, (L.getD i zH).long = .slice a n c
/-- All blocks but the lists' lie as they lay. -/
def FrT (L : List Held) (w W : World) : Prop := ∀ b, b < w.heap.size → (∀ i, i < L.length → (L.getD i zH).v.ownBlock ≠ some b) → W.heap[b]? = w.heap[b]?
theorem FrT.step {L : List Held} {w W W1 : World} {i : Nat} {r : Option Nat} (h : FrT L w W) (hs : w.heap.size ≤ W.heap.size) (hi : i ≤ L.length) (hlt : i < L.length) (hg : W.grownBy W1 r) (hr : r = (L.getD i zH).v.ownBlock) : FrT L w W1 := fun b hb hne =>
  (hg.block b (by omega) (fun e => hne i hlt (by rw [← hr, ← e]))).trans (h b hb hne)
theorem rows_of_oneR {B0 Bk : Nat} {L : List Held} {X X' : Nat → List ByteArray} {W W1 : World} (hA : ApartR Bk L) (h : RowsL B0 L X W) (i : Nat) (hi : i < L.length)
    (hg : W.grownBy W1 (L.getD i zH).v.ownBlock) (ho : W1.ownsRow B0 9 1 (L.getD i zH).v (X' i).length (strs (X' i))) (hX : ∀ j, j ≠ i → X' j = X j) : RowsL B0 L X' W1 := by
  intro j hj
  by_cases e : j = i
  · subst e; exact ho
  · rw [hX j e]; exact own_other (h j hj) hg (hA.ne j i hj hi e)
theorem book_keepsR {Bk m : Nat} {T TR : Value} {L LR : List Held} {W W1 : World} {row : Option Nat} (h : BookR Bk T TR m L LR W) (hg : W.grownBy W1 row) (hr : ∀ b, row = some b → b < Bk) : BookR Bk T TR m L LR W1 := by
  have ne : ∀ {v : Value} {e n s : Nat} {xs : List Value}, W.ownsRow (Bk + 1) e s v n xs → v.ownBlock = none ∨ v.ownBlock ≠ row := fun {v e n s xs} ho => by
    cases row with
    | none => cases v.ownBlock <;> simp
    | some b =>
      right; intro e
      have h1 := own_base ho b e
      have h2 := hr b rfl
      omega
  exact ⟨(hg.block Bk (blk_lt h.at_) (fun e => by have := hr Bk e.symm; omega)).trans h.at_, own_other h.own hg (ne h.own), own_other h.ownR hg (ne h.ownR)⟩
theorem book_entryR {Bk m g cap : Nat} {TR : Value} {L LR : List Held} {W : World} (h : BookR Bk (.slice (some ⟨g, 0, none⟩) L.length cap) TR m L LR W) (i : Nat) (hi : i < L.length) :
    W.cell? ⟨g, i * 3, none⟩ = some (L.getD i zH).v ∧ W.cell? ⟨g, i * 3 + 1, none⟩ = some (L.getD i zH).long ∧ W.cell? ⟨g, i * 3 + 2, none⟩ = some (.int .i64 (L.getD i zH).n) := by
  obtain ⟨a, b, c⟩ := flatH_get L i hi
  have e : L.getD i zH = L[i] := by rw [List.getD_eq_getElem?_getD, List.getElem?_eq_getElem hi]; rfl
  rw [e, Nat.mul_comm i 3]
  have hk := fun j (hj : j < L.length * 3) => h.own.cellAt j hj
  exact ⟨(hk _ (by omega)).trans a, (hk _ (by omega)).trans b, (hk _ (by omega)).trans c⟩
set_option maxHeartbeats 4000000 in
set_option maxRecDepth 100000 in
theorem fillTextR_calls (B0 Bk : Nat) (T TR : Value) (m : Nat) (L LR : List Held) (X : Nat → List ByteArray) (w : World) (hP : ∀ V, Below B0 w V → PW V) (hB : BookR Bk T TR m L LR w) (hL : L.length ≤ 100000) (hA : ApartR Bk L) (hR : RowsL B0 L X w) (h0 : B0 ≤ Bk) :
    Calls Tryd.prog 21 #[.pointer (some ⟨Bk, 0, none⟩)] w fun e w' => e = .returned (.tuple #[]) ∧ BookR Bk T TR m L LR w' ∧ RowsL B0 L (marksTo L X L.length) w' ∧ Below B0 w w' ∧ FrT L w w' := by
  have HB := Lib.hid hB
  have HR := Lib.hid hR
  have HA := Lib.hid hA
  have hBk := blk_lt hB.at_
  have HP := Lib.hid hP
  clear hB hR hA hP
  go_enter Tryd.func21, Tryd.ntmps21
  go_wp2
  go_loopw [2] (fun i wr => ∃ k : Nat, k ≤ L.length ∧ i = .int .i64 k ∧ Hid (BookR Bk T TR m L LR wr ∧ RowsL B0 L (marksTo L X k) wr ∧ Below B0 w wr ∧ FrT L w wr)) (fun i _ => L.length - (intOf i).toNat)
  case atStart => exact ⟨0, Nat.zero_le _, rfl, Lib.hid ⟨HB.out, fun j hj => by have := HR.out j hj; simpa [marksTo] using this, Below.refl _ _, fun _ _ _ => rfl⟩⟩
  case round =>
    obtain ⟨i, hi, rfl, hr⟩ := hrel
    have c3 : wr.cell? ⟨Bk, 3, none⟩ = some T := blk_cell' hr.out.1.at_ 3
    by_cases hlt : i < L.length
    · obtain ⟨g, cap, rfl, hgb, hgl⟩ := hr.out.1.own.form (by omega)
      obtain ⟨e0, e1, e2⟩ := book_entryR hr.out.1 i hlt
      obtain ⟨a1, n1, c1, hl1⟩ := HA.out.sl i hlt
      obtain ⟨a2, c2, hv2⟩ := own_slice (hr.out.2.1 i hlt)
      rw [marks_len] at hv2
      obtain ⟨N, hN⟩ : ∃ N, (L.getD i zH).n = N := ⟨_, rfl⟩
      rw [hv2] at e0
      rw [hl1] at e1
      rw [hN] at e2
      have HL1 := Lib.hid hl1
      have HV2 := Lib.hid hv2
      have HN := Lib.hid hN
      clear hl1 hv2 hN
      have hn100 : N ≤ 1000000 := by have := HA.out.num i hlt; rw [HN.out] at this; exact this
      have hrow : Hid (wr.ownsRow B0 9 1 (.slice a2 (X i).length c2) (X i).length (strs (X i))) := Lib.hid (by
        have := hr.out.2.1 i hlt; rw [HV2.out] at this; simpa [marksTo] using this)
      have hown2 : ∀ b, (Value.slice a2 (X i).length c2).ownBlock = some b → b < Bk := by have := HA.out.low i hlt; rw [HV2.out] at this; exact this
      have HOWN2 := Lib.hid hown2
      clear hown2
      have hBz : Bk < wr.heap.size := blk_lt hr.out.1.at_
      go_wp2
      obtain ⟨W0, hW0⟩ : ∃ W0, wr.alloc (Obj.cells #[Value.slice a2 (X i).length c2, Value.slice a1 n1 c1, Value.int IntKind.i64 (N : Int)] 64) = W0 := ⟨_, rfl⟩
      have hblk : W0.heap[wr.heap.size]? = some (.cells #[Value.slice a2 (X i).length c2, Value.slice a1 n1 c1, Value.int IntKind.i64 (N : Int)] 64 (0, 0)) := by rw [← hW0]; exact World.alloc_heap_new wr _
      have hrow0 : Hid (W0.ownsRow B0 9 1 (.slice a2 (X i).length c2) (X i).length (strs (X i))) := Lib.hid (by rw [← hW0]; exact hrow.out.alloc _)
      have hg0 : Hid (wr.grownBy W0 none) := Lib.hid (by rw [← hW0]; exact World.grownBy_alloc wr _ none)
      have HBLK := Lib.hid hblk
      rw [hW0]
      clear hW0 hblk hrow c3 e0 e1 e2
      obtain ⟨wo, rfl⟩ : ∃ wo : World, wo = wr := ⟨_, rfl⟩
      go_loopw [4] (fun kv wi => ∃ k : Nat, k ≤ (X i).length ∧ kv = .int .i64 k ∧ Hid (W0.grownBy wi (Value.slice a2 (X i).length c2).ownBlock ∧ wi.ownsRow B0 9 1 (.slice a2 (X i).length c2) (X i).length (strs (List.replicate k (markS N) ++ (X i).drop k)))) (fun kv _ => (X i).length - (intOf kv).toNat)
      case atStart => exact ⟨0, Nat.zero_le _, rfl, Lib.hid ⟨World.grownBy.refl _ _, hrow0.out⟩⟩
      case round =>
        obtain ⟨k, hk, rfl, hi2⟩ := hrel
        have hb1 : wr.heap[wo.heap.size]? = some (.cells #[Value.slice a2 (X i).length c2, Value.slice a1 n1 c1, Value.int IntKind.i64 (N : Int)] 64 (0, 0)) :=
          (hi2.out.1.block _ (blk_lt HBLK.out) (fun e => by have := HOWN2.out _ e.symm; omega)).trans HBLK.out
        have q0 := blk_cell' hb1 0
        have q2 := blk_cell' hb1 2
        have hx63 : (X i).length ≤ 9223372036854775807 := by
          rcases hi2.out.2.2 with ⟨h, h'⟩ | ⟨g', cap', cur, h, _, _, h1, h2, _⟩
          · omega
          · unfold maxLen at h2; omega
        simp only [List.getElem?_toArray, List.getElem?_cons_zero, List.getElem?_cons_succ] at q0 q2
        by_cases hkl : k < (X i).length
        · obtain ⟨g2, cap2, hv3, hgb2, hgl2⟩ := hi2.out.2.form (by omega)
          injection hv3 with hv3 _ hv4
          subst hv3 hv4
          have z1 : wr.cell? ⟨g2, k, none⟩ = some (.string ((X i)[k])) := (hi2.out.2.cellAt k (by omega)).trans (mark_at _ _ k hkl)
          have z2 : wr.frozen? ⟨g2, k, none⟩ = false := hi2.out.2.frozenAt k
          have hlo2 : Below B0 w wr := (hr.out.2.2.1.grown (hg0.out.weak none) (by omega) (fun b h => by cases h)).grown hi2.out.1 (by have := hg0.out.size; omega) (fun b h => by
            rcases hi2.out.2.2 with ⟨h', _⟩ | ⟨g', cap', cur, h', hb', _⟩
            · rw [h'] at h; simp [Value.ownBlock] at h
            · rw [h'] at h; simp [Value.ownBlock] at h; omega)
          have hbz : B0 ≤ wr.heap.size := by have := hg0.out.size; have := hi2.out.1.size; omega
          have HMK := Lib.hid (show ∀ V, Below wr.heap.size wr V → Calls Tryd.prog 60 #[.int .i64 (N : Int)] V fun e w' => e = .returned (.string (markS N)) ∧ Below V.heap.size V w' from fun V h => markText_any N hn100 V (HP.out V (hlo2.trans (h.mono hbz))))
          have HCL := Lib.hid (show ∀ V, Below wr.heap.size wr V → V.cell? ⟨wo.heap.size, 0, none⟩ = some (.slice (some ⟨g2, 0, none⟩) (X i).length c2) ∧ V.cell? ⟨wo.heap.size, 2, none⟩ = some (.int .i64 (N : Int)) ∧ V.cell? ⟨g2, k, none⟩ = some (.string ((X i)[k])) ∧ V.frozen? ⟨g2, k, none⟩ = false from fun V h => ⟨pw_cell_below h q0, pw_cell_below h q2, pw_cell_below h z1, (h.frozen (p := ⟨g2, k, none⟩) hgl2).trans z2⟩)
          clear hlo2 hbz
          go_wp2
          go_region_with ((go_at_call 60; with_reducible refine (HMK.out _ (by repeat (first | exact Below.refl _ _ | refine bdr ?_ | refine bdn ?_ _))).mono ?_; rintro e w9 ⟨rfl, hbq⟩; have HB9 := Lib.hid (show Below wr.heap.size wr w9 from bth (by repeat (first | exact Below.refl _ _ | refine bdr ?_ | refine bdn ?_ _)) hbq); clear hbq; obtain ⟨q0', q2', z1', z2'⟩ := HCL.out w9 HB9.out))
          all_goals
            go_wp2
            go_roundw
            case rel =>
              have hst := (pw_own_below hi2.out.2 HB9.out).stored k (.string (markS N))
              rw [mark_step _ _ k hkl] at hst
              exact ⟨k + 1, by omega, by go_num, Lib.hid ⟨World.grownBy.trans hi2.out.1 (World.grownBy.trans (grown_of_below HB9.out _) (by first | exact hst.2 | exact grown_dr hst.2)), by first | exact hst.1 | exact hst.1.drew⟩⟩
            case measure => simp [intOf]; omega
        · obtain rfl : k = (X i).length := by omega
          have hX2 : List.replicate (X i).length (markS N) ++ (X i).drop (X i).length = List.replicate (X i).length (markS N) := by simp
          rw [hX2] at hi2
          go_wp2
          go_roundw
          case rel =>
            refine ⟨i + 1, by omega, by go_num, Lib.hid ⟨?_, ?_, ?_, ?_⟩⟩
            · exact book_keepsR (book_keepsR hr.out.1 hg0.out (fun b h => by cases h)) hi2.out.1 HOWN2.out
            · have hg1 : wo.grownBy wr (L.getD i zH).v.ownBlock := by rw [HV2.out]; exact World.grownBy.trans (hg0.out.weak _) hi2.out.1
              refine rows_of_oneR HA.out hr.out.2.1 i hlt hg1 ?_ ?_
              · rw [HV2.out, marks_len]
                have e : marksTo L X (i + 1) i = List.replicate (X i).length (markS N) := by unfold marksTo; rw [if_pos (by omega), HN.out]
                rw [e]; exact hi2.out.2
              · intro j hj; unfold marksTo
                by_cases h : j < i
                · rw [if_pos (by omega), if_pos h]
                · rw [if_neg (by omega), if_neg h]
            · exact (hr.out.2.2.1.grown (hg0.out.weak none) (by omega) (fun b h => by cases h)).grown hi2.out.1 (by have := hg0.out.size; omega) (fun b h => by
                rcases hi2.out.2.2 with ⟨h', _⟩ | ⟨g', cap', cur, h', hb', _⟩
                · rw [h'] at h; simp [Value.ownBlock] at h
                · rw [h'] at h; simp [Value.ownBlock] at h; omega)
            · refine FrT.step hr.out.2.2.2 (show w.heap.size ≤ wo.heap.size from hr.out.2.2.1.size) hi hlt (World.grownBy.trans (hg0.out.weak _) hi2.out.1) ?_
              rw [HV2.out]
          case measure => simp [intOf]; omega
    · obtain rfl : i = L.length := by omega
      obtain ⟨aT, cT, hT⟩ := own_slice hr.out.1.own
      subst hT
      go_wp2
      go_end0
      exact ⟨rfl, hr.out.1, hr.out.2.1, hr.out.2.2.1, hr.out.2.2.2⟩
end Go.Proofs.YtlicjpbmlmongaaDoor.H

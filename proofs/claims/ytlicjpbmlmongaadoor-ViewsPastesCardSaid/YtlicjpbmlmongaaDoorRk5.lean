/- The book with lists of lists: more is put behind each list of texts. -/
import Derived.Test.YtlicjpbmlmongaaDoorRk4
set_option linter.unusedVariables false
set_option linter.unusedSimpArgs false
namespace Go.Proofs.YtlicjpbmlmongaaDoor.H
open Go.RowKit Go.Proofs.YtlicjpbmlmongaaDoorW.PrintWords Go.Proofs

/-- All blocks but the lists' and the book's own list lie as they lay. -/
def FrG (L : List Held) (T : Value) (w W : World) : Prop := ∀ b, b < w.heap.size → (∀ i, i < L.length → (L.getD i zH).v.ownBlock ≠ some b) → T.ownBlock ≠ some b → W.heap[b]? = w.heap[b]?
structure GrowInvR (B0 Bk m : Nat) (T TR : Value) (L LR : List Held) (X : Nat → List ByteArray) (w : World) (i : Nat) (L' : List Held) (W : World) : Prop where
  len : L'.length = L.length
  same : ∀ j, j < L.length → (L'.getD j zH).v = (L.getD j zH).v ∧ (L'.getD j zH).n = (L.getD j zH).n
  rest : ∀ j, i ≤ j → j < L.length → L'.getD j zH = L.getD j zH
  book : BookR Bk T TR m L' LR W
  rows : RowsL B0 L X W
  longs : ∀ j, j < i → LongOK B0 Bk L X (L'.getD j zH).long j W
  low : Below B0 w W
  fr : FrG L T w W
theorem long_keepsR {B0 Bk : Nat} {L : List Held} {X : Nat → List ByteArray} {u : Value} {j i : Nat} {W W1 : World} (hA : ApartR Bk L) (hj : j < L.length) (hi : i < L.length) (hne : j ≠ i) (h : LongOK B0 Bk L X u j W) (hg : W.grownBy W1 (L.getD i zH).v.ownBlock) : LongOK B0 Bk L X u j W1 := by
  refine ⟨own_other h.1 hg ?_, h.2⟩
  rcases h.2 with h2 | ⟨c, h2, hc⟩
  · rw [h2]; exact hA.ne j i hj hi hne
  · right
    intro e
    rw [h2] at e
    have := hA.low i hi c e.symm
    omega
/-- The book's entry is turned; the lists lie elsewhere. -/
theorem grow_storeR {B0 Bk m g cap : Nat} {TR : Value} {L L' LR : List Held} {X : Nat → List ByteArray} {w W : World} {i : Nat} {u : Value} (hA : ApartR Bk L) (hi : i < L.length) (h : GrowInvR B0 Bk m (.slice (some ⟨g, 0, none⟩) L'.length cap) TR L LR X w i L' W) (hu : LongOK B0 Bk L X u i W) (h0 : B0 ≤ Bk) (hsz : w.heap.size ≤ W.heap.size) :
    GrowInvR B0 Bk m (.slice (some ⟨g, 0, none⟩) L'.length cap) TR L LR X w (i + 1) (L'.set i ⟨(L'.getD i zH).v, u, (L'.getD i zH).n⟩) (W.setCell ⟨g, i * 3 + 1, none⟩ u) := by
  have hi' : i < L'.length := by rw [h.len]; exact hi
  have e : L'.getD i zH = L'[i] := by rw [List.getD_eq_getElem?_getD, List.getElem?_eq_getElem hi']; rfl
  have hset : ∀ j, (L'.set i ⟨(L'.getD i zH).v, u, (L'.getD i zH).n⟩).getD j zH = if j = i then ⟨(L'.getD i zH).v, u, (L'.getD i zH).n⟩ else L'.getD j zH := by
    intro j
    rw [List.getD_eq_getElem?_getD, List.getElem?_set]
    by_cases hj : j = i
    · subst hj; rw [if_pos rfl, if_pos hi', if_pos rfl]; rfl
    · rw [if_neg (fun e => hj e.symm), if_neg hj, List.getD_eq_getElem?_getD]
  obtain ⟨hs1, hs2⟩ := h.book.own.stored (i * 3 + 1) u
  have hgb := own_base h.book.own g rfl
  have hother : ∀ {n : Nat} {v : Value} {xs : List Value}, W.ownsRow B0 9 1 v n xs → (W.setCell ⟨g, i * 3 + 1, none⟩ u).ownsRow B0 9 1 v n xs := fun {n v xs} ho => own_other ho hs2 (by
    have := own_type_ne ho h.book.own (by decide)
    exact this)
  refine ⟨by rw [List.length_set]; exact h.len, fun j hj => ?_, fun j hj hjl => ?_, ⟨?_, ?_, own_other h.book.ownR hs2 (own_type_ne h.book.ownR h.book.own (by decide))⟩, fun j hj => hother (h.rows j hj), fun j hj => ?_, h.low.setCell (p := ⟨g, i * 3 + 1, none⟩) (by show B0 ≤ g; omega) u, fun b hb hne hT => (hs2.block b (Nat.lt_of_lt_of_le hb hsz) (fun e => hT e.symm)).trans (h.fr b hb hne hT)⟩
  · rw [hset]
    by_cases hji : j = i
    · subst hji; rw [if_pos rfl]; exact h.same j hj
    · rw [if_neg hji]; exact h.same j hj
  · rw [hset, if_neg (by omega)]; exact h.rest j (by omega) hjl
  · exact (hs2.block Bk (blk_lt h.book.at_) (by intro e; injection e with e; omega)).trans h.book.at_
  · rw [List.length_set, e, ← flatH_setLong L' i hi' u, Nat.mul_comm 3 i]
    exact hs1
  · rw [hset]
    by_cases hji : j = i
    · subst hji; rw [if_pos rfl]; exact ⟨hother hu.1, hu.2⟩
    · rw [if_neg hji]; have := h.longs j (by omega); exact ⟨hother this.1, this.2⟩

set_option maxHeartbeats 4000000 in
set_option maxRecDepth 100000 in
theorem growTextR_calls (B0 Bk : Nat) (T TR : Value) (m : Nat) (L LR : List Held) (X : Nat → List ByteArray) (hX : ∀ j, j < L.length → (X j).length ≤ 8796093022000) (w : World) (hP : ∀ V, Below B0 w V → PW V) (hB : BookR Bk T TR m L LR w) (hL : L.length ≤ 100000) (hA : ApartR Bk L) (hR : RowsL B0 L X w) (h0 : B0 ≤ Bk) :
    Calls Tryd.prog 33 #[.pointer (some ⟨Bk, 0, none⟩)] w fun e w' => e = .returned (.tuple #[]) ∧ ∃ L', GrowInvR B0 Bk m T TR L LR X w L.length L' w' := by
  obtain ⟨i0, hi, hz0, hz1, hz2⟩ := info_parts infoS
  have HA := Lib.hid hA
  have hBk := blk_lt hB.at_
  have HI : Hid (GrowInvR B0 Bk m T TR L LR X w 0 L w) := Lib.hid ⟨rfl, fun _ _ => ⟨rfl, rfl⟩, fun _ _ _ => rfl, hB, hR, fun j hj => by omega, Below.refl _ _, fun _ _ _ _ => rfl⟩
  have HP := Lib.hid hP
  have HX := Lib.hid hX
  clear hB hR hA hX hP
  go_enter Tryd.func33, Tryd.ntmps33
  go_wp2
  go_loopw [2] (fun i wr => ∃ k : Nat, k ≤ L.length ∧ i = .int .i64 k ∧ Hid (∃ L', GrowInvR B0 Bk m T TR L LR X w k L' wr)) (fun i _ => L.length - (intOf i).toNat)
  case atStart => exact ⟨0, Nat.zero_le _, rfl, Lib.hid ⟨L, HI.out⟩⟩
  case round =>
    obtain ⟨i, hi2, rfl, hr'⟩ := hrel
    obtain ⟨L', hr0⟩ := hr'.out
    have hr := Lib.hid hr0
    have c3 : wr.cell? ⟨Bk, 3, none⟩ = some T := blk_cell' hr0.book.at_ 3
    have hlen := hr0.len
    clear hr0 hr'
    by_cases hlt : i < L.length
    · obtain ⟨g, cap, rfl, hgb, hgl⟩ := hr.out.book.own.form (by omega)
      obtain ⟨e0, e1, e2⟩ := book_entryR hr.out.book i (by omega)
      have hrest := hr.out.rest i (Nat.le_refl _) hlt
      rw [hrest] at e0 e1 e2
      obtain ⟨a1, n1, c1, hl1⟩ := HA.out.sl i hlt
      obtain ⟨a2, c2, hv2⟩ := own_slice (hr.out.rows i hlt)
      obtain ⟨N, hN⟩ : ∃ N, (L.getD i zH).n = N := ⟨_, rfl⟩
      rw [hv2] at e0
      rw [hl1] at e1
      rw [hN] at e2
      have HREST := Lib.hid hrest
      have HLEN := Lib.hid hlen
      have HV2 := Lib.hid hv2
      have HN := Lib.hid hN
      have hx := HX.out i hlt
      have hllt : i < L'.length := by omega
      clear hl1 hv2 hN hrest hlen
      have hn100 : N ≤ 1000000 := by have := HA.out.num i hlt; rw [HN.out] at this; exact this
      have hrow : Hid (wr.ownsRow B0 9 1 (.slice a2 (X i).length c2) (X i).length (strs (X i))) := Lib.hid (by
        have := hr.out.rows i hlt; rw [HV2.out] at this; exact this)
      have hown2 : ∀ b, (Value.slice a2 (X i).length c2).ownBlock = some b → b < Bk := by have := HA.out.low i hlt; rw [HV2.out] at this; exact this
      have HOWN2 := Lib.hid hown2
      clear hown2
      have hBz : Bk < wr.heap.size := blk_lt hr.out.book.at_
      go_wp2
      obtain ⟨W0, hW0⟩ : ∃ W0, wr.alloc (Obj.cells #[Value.slice a2 (X i).length c2, Value.slice a1 n1 c1, Value.int IntKind.i64 (N : Int)] 64) = W0 := ⟨_, rfl⟩
      have HBLK : Hid (W0.heap[wr.heap.size]? = some (.cells #[Value.slice a2 (X i).length c2, Value.slice a1 n1 c1, Value.int IntKind.i64 (N : Int)] 64 (0, 0))) := Lib.hid (by rw [← hW0]; exact World.alloc_heap_new wr _)
      have hrow0 : Hid (W0.ownsRow B0 9 1 (.slice a2 (X i).length c2) (X i).length (strs (X i))) := Lib.hid (by rw [← hW0]; exact hrow.out.alloc _)
      have hg0 : Hid (wr.grownBy W0 none) := Lib.hid (by rw [← hW0]; exact World.grownBy_alloc wr _ none)
      rw [hW0]
      clear hW0 hrow c3 e0 e1 e2
      obtain ⟨wo, rfl⟩ : ∃ wo : World, wo = wr := ⟨_, rfl⟩
      go_loopw [4, 5] (fun uv kv wi => ∃ k : Nat, k ≤ 40 ∧ kv = .int .i64 k ∧ Hid (W0.grownBy wi (Value.slice a2 (X i).length c2).ownBlock ∧ wi.ownsRow B0 9 1 uv ((X i).length + k) (strs (X i ++ List.replicate k (markS N))) ∧ wi.ownsRow B0 9 1 (.slice a2 (X i).length c2) (X i).length (strs (X i)) ∧ (uv.ownBlock = (Value.slice a2 (X i).length c2).ownBlock ∨ ∃ c, uv.ownBlock = some c ∧ W0.heap.size ≤ c))) (fun _ kv _ => 40 - (intOf kv).toNat)
      case atStart => exact ⟨0, Nat.zero_le _, rfl, Lib.hid ⟨World.grownBy.refl _ _, by simpa using hrow0.out, hrow0.out, .inl rfl⟩⟩
      case round =>
        obtain ⟨k, hk, rfl, hi3⟩ := hrel
        have hb1 : wr.heap[wo.heap.size]? = some (.cells #[Value.slice a2 (X i).length c2, Value.slice a1 n1 c1, Value.int IntKind.i64 (N : Int)] 64 (0, 0)) :=
          (hi3.out.1.block _ (blk_lt HBLK.out) (fun e => by have := HOWN2.out _ e.symm; omega)).trans HBLK.out
        have q0 := blk_cell' hb1 0
        have q2 := blk_cell' hb1 2
        simp only [List.getElem?_toArray, List.getElem?_cons_zero, List.getElem?_cons_succ] at q0 q2
        have hzz : wo.heap.size < wr.heap.size := blk_lt hb1
        obtain ⟨ua, uc, hu⟩ := own_slice hi3.out.2.1
        subst hu
        by_cases hkl : k < 40
        · have hlo2 : Below B0 w wr := hr.out.low.grown (World.grownBy.trans (hg0.out.weak (L.getD i zH).v.ownBlock) (by rw [HV2.out]; exact hi3.out.1)) (by omega) (fun b h => own_base (hr.out.rows i hlt) b h)
          have HMK := Lib.hid (markText_any N hn100 wr (HP.out wr hlo2))
          clear hlo2
          go_wp2_with fail
          with_reducible refine HMK.out.mono ?_
          rintro e w9 ⟨rfl, hbq⟩
          have HI9 : Hid (W0.grownBy w9 (Value.slice a2 (X i).length c2).ownBlock ∧ w9.ownsRow B0 9 1 (.slice ua ((X i).length + k) uc) ((X i).length + k) (strs (X i ++ List.replicate k (markS N))) ∧ w9.ownsRow B0 9 1 (.slice a2 (X i).length c2) (X i).length (strs (X i)) ∧ ((Value.slice ua ((X i).length + k) uc).ownBlock = (Value.slice a2 (X i).length c2).ownBlock ∨ ∃ c, (Value.slice ua ((X i).length + k) uc).ownBlock = some c ∧ W0.heap.size ≤ c)) :=
            Lib.hid ⟨World.grownBy.trans hi3.out.1 (grown_of_below hbq _), pw_own_below hi3.out.2.1 hbq, pw_own_below hi3.out.2.2.1 hbq, hi3.out.2.2.2⟩
          have hz9 : Bk < w9.heap.size := by have := hi3.out.1.size; have := hg0.out.size; have := hbq.size; omega
          clear hi3 hbq HMK
          go_wp2_with (at_builtin; go_loud (refine wpList_append_two _ rfl _ _ 25 rfl B0 9 i0 _ 16 Tryd.underlying25 hi hz0 hz1 hz2 rfl _ ((X i).length + k) _ rfl (HI9.out.2.1.alloc _) ⟨w9.heap.size, 0, none⟩ 1 (.string (markS N)) rfl (Boxed.new w9 _ _).cell rfl (by unfold maxLen; omega) (by omega) (by simp; omega) ?_))
          intro g3 cap3 w3 hown3 hcase
          have hN1 : Hid (W0.grownBy w3 (Value.slice a2 (X i).length c2).ownBlock ∧ w3.ownsRow B0 9 1 (.slice (some ⟨g3, 0, none⟩) ((X i).length + (k + 1)) cap3) ((X i).length + (k + 1)) (strs (X i ++ List.replicate (k + 1) (markS N))) ∧ w3.ownsRow B0 9 1 (.slice a2 (X i).length c2) (X i).length (strs (X i)) ∧ ((Value.slice (some ⟨g3, 0, none⟩) ((X i).length + (k + 1)) cap3).ownBlock = (Value.slice a2 (X i).length c2).ownBlock ∨ ∃ c, (Value.slice (some ⟨g3, 0, none⟩) ((X i).length + (k + 1)) cap3).ownBlock = some c ∧ W0.heap.size ≤ c)) := Lib.hid (by
            obtain ⟨z1, z2, z3, z4⟩ := HI9.out
            have ha := World.grownBy.trans z1 (World.grownBy_alloc w9 (Obj.cells #[Value.string (markS N)] 9) _)
            have e : strs (X i) ++ (strs (List.replicate k (markS N)) ++ [Value.string (markS N)]) = strs (X i ++ List.replicate (k + 1) (markS N)) := by
              rw [strs_append, List.replicate_succ', strs_append]; rfl
            rw [strs_append, List.append_assoc, e] at hown3
            have hv := short_after (z3.alloc (Obj.cells #[Value.string (markS N)] 9)) (z2.alloc (Obj.cells #[Value.string (markS N)] 9)) (by rw [strs_append]; exact List.prefix_append _ _) (by rw [strs_append, strs_append, List.replicate_succ', strs_append, ← List.append_assoc]; exact List.prefix_append _ _) hown3 (by omega) hcase
            refine ⟨?_, hown3, hv, ?_⟩
            · rcases hcase with ⟨h1, h2⟩ | ⟨h1, h2⟩
              · refine grown_more ha h2 ?_
                rcases z4 with h | ⟨c, h, hc⟩
                · rw [h1] at h; exact .inl h
                · rw [h1] at h; right; simp [Value.ownBlock] at h; omega
              · exact World.grownBy.trans ha (grown_of_below h2 _)
            · rcases hcase with ⟨h1, h2⟩ | ⟨h1, h2⟩
              · rcases z4 with h | ⟨c, h, hc⟩
                · rw [h1] at h; exact .inl h
                · rw [h1] at h; exact .inr ⟨c, h, hc⟩
              · right
                refine ⟨g3, rfl, ?_⟩
                have := z1.size
                rw [h1]; simp; omega)
          clear hown3 hcase q0 q2 hb1
          go_wp2
          go_roundw
          case rel => exact ⟨k + 1, by omega, by go_num, hN1⟩
          case measure => simp [intOf]; omega
        · obtain rfl : k = 40 := by omega
          obtain ⟨gu, cu, hu, _, _⟩ := hi3.out.2.1.form (by omega)
          injection hu with hu _ hu2
          subst hu hu2
          have hg1 : Hid (wo.grownBy wr (L.getD i zH).v.ownBlock) := Lib.hid (by rw [HV2.out]; exact World.grownBy.trans (hg0.out.weak _) hi3.out.1)
          have hlow : Hid (∀ b, (L.getD i zH).v.ownBlock = some b → b < Bk) := Lib.hid (HA.out.low i hlt)
          have hb2 : Hid (BookR Bk (.slice (some ⟨g, 0, none⟩) L'.length cap) TR m L' LR wr) := Lib.hid (book_keepsR hr.out.book hg1.out hlow.out)
          have hinv : Hid (GrowInvR B0 Bk m (.slice (some ⟨g, 0, none⟩) L'.length cap) TR L LR X w i L' wr) := Lib.hid ⟨HLEN.out, hr.out.same, hr.out.rest, hb2.out,
            rows_of_oneR (X' := X) HA.out hr.out.rows i hlt hg1.out (by rw [HV2.out]; exact hi3.out.2.2.1) (fun _ _ => rfl),
            fun j hj => long_keepsR HA.out (by omega) hlt (by omega) (hr.out.longs j hj) hg1.out,
            hr.out.low.grown hg1.out (by omega) (fun b h => own_base (hr.out.rows i hlt) b h), fun b hb hne hT => (hg1.out.block b (Nat.lt_of_lt_of_le hb hr.out.low.size) (fun e => hne i hlt e.symm)).trans (hr.out.fr b hb hne hT)⟩
          have hlong : Hid (LongOK B0 Bk L X (.slice (some ⟨gu, 0, none⟩) ((X i).length + 40) uc) i wr) := Lib.hid ⟨by rw [HN.out]; exact hi3.out.2.1, by
            rcases hi3.out.2.2.2 with h | ⟨c, h, hc⟩
            · left; rw [HV2.out]; exact h
            · right; exact ⟨c, h, by have := hg0.out.size; omega⟩⟩
          have hfin := Lib.hid (grow_storeR HA.out hlt hinv.out hlong.out h0 hinv.out.low.size)
          have c3 : wr.cell? ⟨Bk, 3, none⟩ = some (.slice (some ⟨g, 0, none⟩) L'.length cap) := blk_cell' hb2.out.at_ 3
          obtain ⟨_, e1, _⟩ := book_entryR hb2.out i hllt
          have f1 : wr.frozen? ⟨g, i * 3 + 1, none⟩ = false := hb2.out.own.frozenAt _
          clear q0 q2 hb1
          go_wp2
          go_roundw
          case rel => exact ⟨i + 1, by omega, by go_num, Lib.hid ⟨_, hfin.out⟩⟩
          case measure => simp [intOf]; omega
    · obtain rfl : i = L.length := by omega
      obtain ⟨aT, cT, hT⟩ := own_slice hr.out.book.own
      subst hT
      go_wp2
      go_end0
      exact ⟨rfl, L', hr.out⟩
end Go.Proofs.YtlicjpbmlmongaaDoor.H

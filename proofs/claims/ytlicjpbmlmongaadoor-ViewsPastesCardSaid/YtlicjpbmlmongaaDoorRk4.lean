/- The book with lists of lists: marks are written into the list of lists. -/
import Derived.Test.YtlicjpbmlmongaaDoorRk3
set_option linter.unusedVariables false
set_option linter.unusedSimpArgs false
namespace Go.Proofs.YtlicjpbmlmongaaDoor.H
open Go.RowKit Go.Proofs.YtlicjpbmlmongaaDoorW.PrintWords Go.Proofs

/-- The slices of marks. -/
def mrk (ms : List Nat) : List Value := ms.map fun g => .slice (some ⟨g, 0, none⟩) 1 1
theorem mrk_app (a b : List Nat) : mrk (a ++ b) = mrk a ++ mrk b := List.map_append
theorem mrk_len (a : List Nat) : (mrk a).length = a.length := List.length_map _
/-- Marks that lie in blocks from b on. -/
def Mks (N b : Nat) (ms : List Nat) (W : World) : Prop := ∀ g ∈ ms, b ≤ g ∧ MarkAt N g W
theorem Mks.below {N b : Nat} {ms : List Nat} {W W' : World} (h : Mks N b ms W) (hb : Below W.heap.size W W') : Mks N b ms W' := fun g hg => ⟨(h g hg).1, (hb.block g (Array.getElem?_eq_some_iff.1 (h g hg).2).1).trans (h g hg).2⟩
theorem Mks.other {N b r : Nat} {ms : List Nat} {W W' : World} (h : Mks N b ms W) (hg : W.grownBy W' (some r)) (hr : r < b) : Mks N b ms W' := fun g hm => ⟨(h g hm).1, (hg.block g (Array.getElem?_eq_some_iff.1 (h g hm).2).1 (by intro e; injection e with e; have := (h g hm).1; omega)).trans (h g hm).2⟩
theorem Mks.lt {N b : Nat} {ms : List Nat} {W : World} (h : Mks N b ms W) : ∀ g ∈ ms, g < W.heap.size := fun g hg => (Array.getElem?_eq_some_iff.1 (h g hg).2).1
/-- All blocks but one lie as they lay. -/
def FrR (G : Nat) (w W : World) : Prop := ∀ b, b < w.heap.size → b ≠ G → W.heap[b]? = w.heap[b]?
theorem FrR.grown {G : Nat} {w W W1 : World} (h : FrR G w W) (hs : w.heap.size ≤ W.heap.size) (hg : W.grownBy W1 (some G)) : FrR G w W1 := fun b hb hne => (hg.block b (by omega) (by intro e; injection e with e; exact hne e)).trans (h b hb hne)
theorem FrR.below {G : Nat} {w W W1 : World} (h : FrR G w W) (hs : w.heap.size ≤ W.heap.size) (hb : Below W.heap.size W W1) : FrR G w W1 := fun b hlt hne => (hb.block b (by omega)).trans (h b hlt hne)
theorem row_entry {Bk m g cap : Nat} {T : Value} {L : List Held} {h0 : Held} {W : World} (h : BookR Bk T (.slice (some ⟨g, 0, none⟩) 1 cap) m L [h0] W) :
    W.cell? ⟨g, 0, none⟩ = some h0.v ∧ W.cell? ⟨g, 1, none⟩ = some h0.long ∧ W.cell? ⟨g, 2, none⟩ = some (.int .i64 h0.n) := by
  have hk := fun j (hj : j < 1 * 3) => h.ownR.cellAt j hj
  exact ⟨(hk 0 (by omega)).trans rfl, (hk 1 (by omega)).trans rfl, (hk 2 (by omega)).trans rfl⟩
/-- What stands when the list of lists is marked. -/
structure FillR (B0 Bk : Nat) (T TR : Value) (m : Nat) (L : List Held) (h0 : Held) (G n cap : Nat) (w W : World) : Prop where
  book : BookR Bk T TR m L [h0] W
  row : ∃ ms : List Nat, ms.length = n ∧ Mks h0.n w.heap.size ms W ∧ W.ownsRow B0 25 1 (.slice (some ⟨G, 0, none⟩) n cap) n (mrk ms)
  low : Below B0 w W
  fr : FrR G w W
set_option maxHeartbeats 4000000 in
set_option maxRecDepth 100000 in
theorem fillRowR_calls (B0 Bk : Nat) (T TR : Value) (m : Nat) (L : List Held) (N G n cap : Nat) (xs : List Value) (w : World) (hP : ∀ V, Below B0 w V → PW V) (hB : BookR Bk T TR m L [⟨.slice (some ⟨G, 0, none⟩) n cap, .slice none 0 0, N⟩] w) (hN : N ≤ 1000000) (hn : n ≤ 1000000) (hG : G < Bk) (hR : w.ownsRow B0 25 1 (.slice (some ⟨G, 0, none⟩) n cap) n xs) (h0 : B0 ≤ Bk) :
    Calls Tryd.prog 23 #[.pointer (some ⟨Bk, 0, none⟩)] w fun e w' => e = .returned (.tuple #[]) ∧ FillR B0 Bk T TR m L ⟨.slice (some ⟨G, 0, none⟩) n cap, .slice none 0 0, N⟩ G n cap w w' := by
  have HB := Lib.hid hB
  have HR := Lib.hid hR
  have HP := Lib.hid hP
  have hBk := blk_lt hB.at_
  have hGb := own_blk hR
  have c5 : w.cell? ⟨Bk, 5, none⟩ = some TR := blk_cell' hB.at_ 5
  obtain ⟨gT, cT, rfl, hgb, hgl⟩ := hB.ownR.form (by simp)
  have HE := Lib.hid (row_entry hB)
  have hn63 : n ≤ 9223372036854775807 := by omega
  clear hB hR hP
  go_enter Tryd.func23, Tryd.ntmps23
  go_wp2
  go_loopw [2] (fun i wr => (i = .int .i64 0 ∧ Hid (w = wr)) ∨ (i = .int .i64 1 ∧ Hid (FillR B0 Bk T (.slice (some ⟨gT, 0, none⟩) 1 cT) m L ⟨.slice (some ⟨G, 0, none⟩) n cap, .slice none 0 0, N⟩ G n cap w wr))) (fun i _ => 1 - (intOf i).toNat)
  case atStart => exact .inl ⟨rfl, Lib.hid rfl⟩
  case round =>
    rcases hrel with ⟨rfl, hw⟩ | ⟨rfl, hF⟩
    · have hw' := hw.out
      subst hw'
      clear hw
      obtain ⟨e0, e1, e2⟩ := HE.out
      go_wp2
      obtain ⟨W0, hW0⟩ : ∃ W0, w.alloc (Obj.cells #[Value.slice (some ⟨G, 0, none⟩) n cap, Value.slice none 0 0, Value.int IntKind.i64 (N : Int)] 62) = W0 := ⟨_, rfl⟩
      have hblk : W0.heap[w.heap.size]? = some (.cells #[Value.slice (some ⟨G, 0, none⟩) n cap, Value.slice none 0 0, Value.int IntKind.i64 (N : Int)] 62 (0, 0)) := by rw [← hW0]; exact World.alloc_heap_new w _
      have hb0 : Below w.heap.size w W0 := by rw [← hW0]; exact bal (Below.refl _ _) _
      have HBLK := Lib.hid hblk
      have HB0 := Lib.hid hb0
      have HRow0 := Lib.hid (pw_own_below HR.out hb0)
      rw [hW0]
      clear hW0 hblk hb0 c5 e0 e1 e2
      go_loopw [4] (fun kv wi => ∃ k : Nat, k ≤ n ∧ kv = .int .i64 (k : Int) ∧ Hid (∃ ms : List Nat, ms.length = k ∧ Mks N w.heap.size ms wi ∧ wi.ownsRow B0 25 1 (.slice (some ⟨G, 0, none⟩) n cap) n (mrk ms ++ xs.drop k) ∧ Below B0 W0 wi ∧ FrR G W0 wi ∧ W0.heap.size ≤ wi.heap.size)) (fun kv _ => n - (intOf kv).toNat)
      case atStart => exact ⟨0, Nat.zero_le _, rfl, Lib.hid ⟨[], rfl, (show Mks N w.heap.size [] W0 from fun g hg => by simp at hg), by simpa [mrk] using HRow0.out, Below.refl _ _, fun _ _ _ => rfl, Nat.le_refl _⟩⟩
      case round =>
        obtain ⟨k, hk, rfl, hst⟩ := hrel
        obtain ⟨ms, hml, hms, hro, hlo, hfr, hsz⟩ := hst.out
        have hwz : w.heap.size < wr.heap.size := by have := blk_lt HBLK.out; omega
        have hb1 : wr.heap[w.heap.size]? = some (.cells #[Value.slice (some ⟨G, 0, none⟩) n cap, Value.slice none 0 0, Value.int IntKind.i64 (N : Int)] 62 (0, 0)) :=
          (hfr _ (blk_lt HBLK.out) (by omega)).trans HBLK.out
        have q0 := blk_cell' hb1 0
        have q2 := blk_cell' hb1 2
        simp only [List.getElem?_toArray, List.getElem?_cons_zero, List.getElem?_cons_succ] at q0 q2
        have hwB : Below B0 w W0 := HB0.out.mono (by omega)
        by_cases hkl : k < n
        · have hxl : xs.length = n := by have := HR.out.1; omega
          have hGr := own_blk hro
          obtain ⟨u, hu⟩ : ∃ u, (mrk ms ++ xs.drop k)[k]? = some u := ⟨_, List.getElem?_eq_getElem (by rw [List.length_append, mrk_len, List.length_drop]; omega)⟩
          have z1 : wr.cell? ⟨G, k, none⟩ = some u := (hro.cellAt k (by omega)).trans hu
          have z2 : wr.frozen? ⟨G, k, none⟩ = false := hro.frozenAt k
          have hbz : B0 ≤ wr.heap.size := by omega
          have HMK := Lib.hid (show ∀ V, Below wr.heap.size wr V → Calls Tryd.prog 62 #[.int .i64 (N : Int)] V fun e w' => ∃ g, e = .returned (.slice (some ⟨g, 0, none⟩) 1 1) ∧ V.heap.size ≤ g ∧ MarkAt N g w' ∧ Below V.heap.size V w' from fun V h => markRow_any N hN V (HP.out V (hwB.trans (hlo.trans (h.mono hbz)))))
          have HCL := Lib.hid (show ∀ V, Below wr.heap.size wr V → V.cell? ⟨w.heap.size, 0, none⟩ = some (.slice (some ⟨G, 0, none⟩) n cap) ∧ V.cell? ⟨w.heap.size, 2, none⟩ = some (.int .i64 (N : Int)) ∧ V.cell? ⟨G, k, none⟩ = some u ∧ V.frozen? ⟨G, k, none⟩ = false from fun V h => ⟨pw_cell_below h q0, pw_cell_below h q2, pw_cell_below h z1, (h.frozen (p := ⟨G, k, none⟩) hGr.2).trans z2⟩)
          have HST := Lib.hid (And.intro hml (And.intro hms (And.intro hro (And.intro hlo (And.intro hfr (And.intro hsz hxl))))))
          have hncap := (twin_cap hro).1
          have hkc : k < cap := by omega
          clear hml hms hro hlo hfr hsz hu hb1 hst
          go_wp2
          go_region_with ((go_at_call 62; with_reducible refine (HMK.out _ (by repeat (first | exact Below.refl _ _ | refine bdr ?_ | refine bdn ?_ _))).mono ?_; rintro e w9 ⟨g9, rfl, hg9, hm9, hbq⟩; have HB9 := Lib.hid (show Below wr.heap.size wr w9 ∧ wr.heap.size ≤ g9 ∧ MarkAt N g9 w9 from ⟨bth (by repeat (first | exact Below.refl _ _ | refine bdr ?_ | refine bdn ?_ _)) hbq, Nat.le_trans (Below.size (by repeat (first | exact Below.refl _ _ | refine bdr ?_ | refine bdn ?_ _))) hg9, hm9⟩); clear hbq hm9 hg9; obtain ⟨q0', q2', z1', z2'⟩ := HCL.out w9 HB9.out.1))
          all_goals
            go_wp2
            go_roundw
            case rel =>
              obtain ⟨hml, hms, hro, hlo, hfr, hsz, hxl⟩ := HST.out
              have hst := (pw_own_below hro HB9.out.1).stored k (.slice (some ⟨g9, 0, none⟩) 1 1)
              have e : (mrk ms ++ xs.drop k).set k (.slice (some ⟨g9, 0, none⟩) 1 1) = mrk (ms ++ [g9]) ++ xs.drop (k + 1) := by
                rw [List.set_append_right _ _ (by rw [mrk_len]; omega), mrk_len, hml, Nat.sub_self, List.drop_eq_getElem_cons (by omega), List.set_cons_zero, mrk_app, List.append_assoc]
                rfl
              rw [e] at hst
              have hG9 := (own_blk hro).1
              have hGw : G < w.heap.size := by omega
              refine ⟨k + 1, hkl, by go_num, Lib.hid ⟨ms ++ [g9], by rw [List.length_append, hml]; rfl, fun g hg => ?_, hst.1, ?_, ?_, ?_⟩⟩
              · have hmm : Mks N w.heap.size (ms ++ [g9]) w9 := fun g hg => by
                  rcases List.mem_append.1 hg with h | h
                  · exact hms.below HB9.out.1 g h
                  · rw [List.mem_singleton.1 h]
                    exact ⟨by have := HB9.out.2.1; omega, HB9.out.2.2⟩
                exact hmm.other hst.2 hGw g hg
              · exact (hlo.trans (HB9.out.1.mono (by omega))).grown hst.2 (by have := HB9.out.1.size; omega) (fun b hb => by injection hb with hb; omega)
              · exact FrR.grown (FrR.below hfr hsz HB9.out.1) (Nat.le_trans hsz HB9.out.1.size) hst.2
              · exact Nat.le_trans hsz (Nat.le_trans HB9.out.1.size hst.2.size)
            case measure => simp [intOf]; omega
        · obtain rfl : k = n := by omega
          have hxl : xs.length = k := by have := HR.out.1; omega
          rw [List.drop_of_length_le (by omega), List.append_nil] at hro
          have hfr2 : FrR G w wr := fun b hb hne => (hfr b (Nat.lt_of_lt_of_le hb HB0.out.size) hne).trans (HB0.out.block b hb)
          have HF := Lib.hid (show FillR B0 Bk T (.slice (some ⟨gT, 0, none⟩) 1 cT) m L ⟨.slice (some ⟨G, 0, none⟩) k cap, .slice none 0 0, N⟩ G k cap w wr from ⟨by
            have hbk := HB.out
            have key : ∀ {v : Value} {e n s : Nat} {xs : List Value}, w.ownsRow (Bk + 1) e s v n xs → wr.ownsRow (Bk + 1) e s v n xs := fun {v e n s xs} ho => by
              refine own_move ho (fun b hb => ?_)
              have h1 := own_base ho b hb
              exact hfr2 b (own_lt ho b hb) (by omega)
            exact ⟨(hfr2 Bk hBk (by omega)).trans hbk.at_, key hbk.own, key hbk.ownR⟩, ⟨ms, hml, hms, hro⟩, hwB.trans hlo, hfr2⟩)
          clear hml hms hro hlo hfr hsz hfr2 hb1 hst
          go_wp2
          go_roundw
          case rel => exact .inr ⟨rfl, HF⟩
          case measure => simp [intOf]
    · have c5 : wr.cell? ⟨Bk, 5, none⟩ = some (.slice (some ⟨gT, 0, none⟩) 1 cT) := blk_cell' hF.out.book.at_ 5
      go_wp2
      go_end0
      exact ⟨rfl, hF.out⟩
end Go.Proofs.YtlicjpbmlmongaaDoor.H

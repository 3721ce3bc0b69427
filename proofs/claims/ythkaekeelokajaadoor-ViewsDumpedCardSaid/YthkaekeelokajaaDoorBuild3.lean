/- A Builder among other variables, for the bodies of ranges over functions: whatever is no cells lies as it lay; WriteString too. -/
import Derived.Test.YthkaekeelokajaaDoorBuild2
import Derived.RangeFuncOwn
set_option linter.unusedVariables false
set_option linter.unusedSimpArgs false
namespace Go.Proofs.YthkaekeelokajaaDoor.B
open Go.RowKit Go.Proofs Go.Proofs.YthkaekeelokajaaDoor.H Go.Proofs.YthkaekeelokajaaDoorW.PrintWords

structure BK (N b : Nat) (bs : List Value) (w w' : World) : Prop where
  at_ : BAt N b bs w'
  only : OnlyAt N b w w'
  keeps : KeepsOthers w w'
theorem keeps_below {w w' : World} (h : Below w.heap.size w w') : KeepsOthers w w' := ⟨h.size, fun k o hk _ => (h.block k (Array.getElem?_eq_some_iff.1 hk).1).trans hk⟩
theorem row_cells {w : World} {N e size n : Nat} {v : Value} {xs : List Value} (h : w.ownsRow N e size v n xs) : ∀ (j : Nat) (o : Obj), v.ownBlock = some j → w.heap[j]? = some o → o.isCells = true := by
  intro j o hj ho
  rcases h.2 with ⟨rfl, _⟩ | ⟨g, cap, cur, rfl, _, hg, _⟩
  · cases hj
  · obtain rfl : g = j := by simpa [Value.ownBlock] using hj
    rw [hg] at ho
    cases ho; rfl
theorem copyCheckK (N b : Nat) (bs : List Value) (w : World) (h : BAt N b bs w) (hbN : b < N) :
    Calls Tryd.prog 122 #[.pointer (some ⟨b, 0, none⟩)] w fun e w' => e = .returned (.tuple #[]) ∧ (∃ v, w'.heap[b]? = some (.cells #[.pointer (some ⟨b, 0, none⟩), v] 82 (0, 0)) ∧ w'.ownsRow N 5 1 v bs.length bs) ∧ OnlyAt N b w w' ∧ KeepsOthers w w' := by
  obtain ⟨p, v, hp, hk, ho⟩ := h
  have c0 : w.cell? ⟨b, 0, none⟩ = some p := by rw [Lib.cell_of_heap hk]; rfl
  rcases hp with rfl | rfl
  · refine (copyCheck_fresh b w c0 (by simp [World.shape?, hk]) (Lib.frozen_of_heap hk 0)).mono ?_
    rintro e w' ⟨rfl, rfl⟩
    refine ⟨rfl, ⟨v, ?_, bat_set hk ho⟩, ⟨rfl, rfl, rfl, by simp [World.setCell], fun k _ hn => Below.heap_setCell _ _ _ k hn⟩, KeepsOthers.setCell _ _ _⟩
    simp [World.setCell, Array.getElem?_modify, hk]
  · refine (copyCheck_used b w c0).mono ?_
    rintro e w' ⟨rfl, rfl⟩
    exact ⟨rfl, ⟨v, hk, ho⟩, OnlyAt.refl _ _ _, KeepsOthers.refl _⟩
set_option maxHeartbeats 2000000 in
set_option maxRecDepth 100000 in
theorem writeByteK (N b : Nat) (bs : List Value) (c : Int) (w : World) (h : BAt N b bs w) (hlen : bs.length + 1 ≤ 140737488355328) (hbN : b < N) (hNw : N ≤ w.heap.size) :
    Calls Tryd.prog 80 #[.pointer (some ⟨b, 0, none⟩), .int .u8 c] w fun e w' => e = .returned .nilIface ∧ BK N b (bs ++ [.int .u8 c]) w w' := by
  obtain ⟨i0, hi, hz0, hz1, hz2⟩ := info_parts infoByte
  go_enter Tryd.func80, Tryd.ntmps80
  go_wp2_with (go_at_call 122; refine (copyCheckK N b bs _ h hbN).mono ?_)
  rintro e w1 ⟨rfl, ⟨v, hbk, hown⟩, ho1, hko1⟩
  have hne : v.ownBlock ≠ some b := Lib.ownBlock_ne hown hbk (by decide)
  have hsz := ho1.size
  have c0 : w1.cell? ⟨b, 0, none⟩ = some (.pointer (some ⟨b, 0, none⟩)) := by rw [Lib.cell_of_heap hbk]; rfl
  have c1 : w1.cell? ⟨b, 1, none⟩ = some v := by rw [Lib.cell_of_heap hbk]; rfl
  have HO1 := Lib.hid (And.intro ho1 hko1)
  clear ho1 hko1
  go_wp2_with (at_builtin; refine wpList_append_own _ rfl _ _ 53 rfl N 5 i0 (.int .u8 0) 1 1 Tryd.underlying53 hi hz0 hz1 hz2 rfl (by decide) _ _ _ rfl (hown.alloc _) ⟨w1.heap.size, 0, none⟩ 1 1 [.int .u8 c] rfl rfl ?c1 ?c2 ?c3 ?c4 ?c5 ?_)
  case c1 =>
    intro j u hj
    match j, hj with
    | 0, hj => simp at hj; subst hj; simp [Addr.add]
  case c2 => intro u hu; simp at hu; subst hu; rfl
  case c3 => unfold maxLen; omega
  case c4 => omega
  case c5 => simp; omega
  intro v' w2 hown' hgrow _
  have hlt : b < w1.heap.size := blk_lt hbk
  have hb2 : w2.heap[b]? = some (.cells #[.pointer (some ⟨b, 0, none⟩), v] 82 (0, 0)) := by
    rw [hgrow.block b (by simp; omega) (fun e => hne e.symm), Lib.alloc_old w1 _ b hlt]
    exact hbk
  have d0 : w2.cell? ⟨b, 0, none⟩ = some (.pointer (some ⟨b, 0, none⟩)) := by rw [Lib.cell_of_heap hb2]; rfl
  have d1 : w2.cell? ⟨b, 1, none⟩ = some v := by rw [Lib.cell_of_heap hb2]; rfl
  have f1 : w2.frozen? ⟨b, 1, none⟩ = false := Lib.frozen_of_heap hb2 1
  obtain ⟨g, cap, rfl⟩ : ∃ g cap, v' = .slice (some ⟨g, 0, none⟩) (bs.length + 1) cap := by
    rcases hown'.2 with ⟨_, h0⟩ | ⟨g, cap, cur, hv, _⟩
    · omega
    · exact ⟨g, cap, hv⟩
  go_wp2
  go_ret
  have h1 : OnlyAt N b w1 w2 := OnlyAt.trans (OnlyAt.of_below (bal (Below.refl _ _) (.cells #[.int .u8 c] 5)) (by omega)) (only_grown hgrow (by simp; omega) (fun k hk => own_base hown k hk))
  have h2 : OnlyAt N b w2 (w2.setCell ⟨b, 1, none⟩ (.slice (some ⟨g, 0, none⟩) (bs.length + 1) cap)) := ⟨rfl, rfl, rfl, by simp [World.setCell], fun k _ hn => Below.heap_setCell _ _ _ k hn⟩
  have k1 : KeepsOthers w1 w2 := (KeepsOthers.alloc w1 (.cells #[.int .u8 c] 5)).trans (KeepsOthers.of_grownBy hgrow (row_cells (hown.alloc _)))
  exact ⟨rfl, ⟨_, _, .inr rfl, blk_put hb2 1 _ rfl, bat_set hb2 (by simpa using hown')⟩, HO1.out.1.trans (h1.trans h2), HO1.out.2.trans (k1.trans (KeepsOthers.setCell _ _ _))⟩
set_option maxHeartbeats 2000000 in
set_option maxRecDepth 100000 in
theorem writeStringK (N b : Nat) (bs : List Value) (s : ByteArray) (w : World) (h : BAt N b bs w) (hlen : bs.length + s.size ≤ 140737488355328) (hbN : b < N) (hNw : N ≤ w.heap.size) :
    Calls Tryd.prog 78 #[.pointer (some ⟨b, 0, none⟩), .string s] w fun e w' => e = .returned (.tuple #[.int .i64 s.size, .nilIface]) ∧ BK N b (bs ++ Lib.strCells s) w w' := by
  obtain ⟨i0, hi, hz0, hz1, hz2⟩ := info_parts infoByte
  go_enter Tryd.func78, Tryd.ntmps78
  go_wp2_with (go_at_call 122; refine (copyCheckK N b bs _ h hbN).mono ?_)
  rintro e w1 ⟨rfl, ⟨v, hbk, hown⟩, ho1, hko1⟩
  have hne : v.ownBlock ≠ some b := Lib.ownBlock_ne hown hbk (by decide)
  have hsz := ho1.size
  have c0 : w1.cell? ⟨b, 0, none⟩ = some (.pointer (some ⟨b, 0, none⟩)) := by rw [Lib.cell_of_heap hbk]; rfl
  have c1 : w1.cell? ⟨b, 1, none⟩ = some v := by rw [Lib.cell_of_heap hbk]; rfl
  have HO1 := Lib.hid (And.intro ho1 hko1)
  clear ho1 hko1
  go_wp2_with (at_builtin; refine Lib.wpList_append_own_string _ rfl _ _ 53 9 rfl N 5 i0 Tryd.underlying53 Tryd.underlying9 hi hz0 hz1 hz2 _ _ _ rfl hown s rfl ?c3 ?c4 ?c5 ?_)
  case c3 => unfold maxLen; omega
  case c4 => omega
  case c5 => omega
  intro v' w2 hown' hgrow _
  have hlt : b < w1.heap.size := blk_lt hbk
  have hb2 : w2.heap[b]? = some (.cells #[.pointer (some ⟨b, 0, none⟩), v] 82 (0, 0)) := by
    rw [hgrow.block b hlt (fun e => hne e.symm)]
    exact hbk
  have d0 : w2.cell? ⟨b, 0, none⟩ = some (.pointer (some ⟨b, 0, none⟩)) := by rw [Lib.cell_of_heap hb2]; rfl
  have d1 : w2.cell? ⟨b, 1, none⟩ = some v := by rw [Lib.cell_of_heap hb2]; rfl
  have f1 : w2.frozen? ⟨b, 1, none⟩ = false := Lib.frozen_of_heap hb2 1
  obtain ⟨ao, n', cap, rfl⟩ : ∃ ao n' cap, v' = .slice ao n' cap := by
    rcases hown'.2 with ⟨hv, _⟩ | ⟨g, cap, cur, hv, _⟩
    · exact ⟨_, _, _, hv⟩
    · exact ⟨_, _, _, hv⟩
  go_wp2
  go_ret2
  have h1 : OnlyAt N b w1 w2 := only_grown hgrow (by omega) (fun k hk => own_base hown k hk)
  have h2 : OnlyAt N b w2 (w2.setCell ⟨b, 1, none⟩ (.slice ao n' cap)) := ⟨rfl, rfl, rfl, by simp [World.setCell], fun k _ hn => Below.heap_setCell _ _ _ k hn⟩
  have k1 : KeepsOthers w1 w2 := KeepsOthers.of_grownBy hgrow (row_cells hown)
  exact ⟨rfl, ⟨_, _, .inr rfl, blk_put hb2 1 _ rfl, bat_set hb2 (by simpa [Lib.strCells_length] using hown')⟩, HO1.out.1.trans (h1.trans h2), HO1.out.2.trans (k1.trans (KeepsOthers.setCell _ _ _))⟩
end Go.Proofs.YthkaekeelokajaaDoor.B

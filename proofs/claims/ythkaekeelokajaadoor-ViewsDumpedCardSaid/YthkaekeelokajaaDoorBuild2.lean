/- A Builder among other variables: what is written into it leaves all other blocks below its row as they lay. -/
import Derived.Test.YthkaekeelokajaaDoorBuilder
import Derived.Test.YthkaekeelokajaaDoorHelp
import Derived.RangeFuncBox
set_option linter.unusedVariables false
set_option linter.unusedSimpArgs false
namespace Go.Proofs.YthkaekeelokajaaDoor.B
open Go.RowKit Go.Proofs Go.Proofs.YthkaekeelokajaaDoor.H Go.Proofs.YthkaekeelokajaaDoorW.PrintWords

/-- The builder at block b, its row from block N on. -/
def BAt (N b : Nat) (bs : List Value) (w : World) : Prop := ∃ p v, (p = .pointer none ∨ p = .pointer (some ⟨b, 0, none⟩)) ∧ w.heap[b]? = some (.cells #[p, v] 82 (0, 0)) ∧ w.ownsRow N 5 1 v bs.length bs
/-- Below N nothing has turned but block b. -/
structure OnlyAt (N b : Nat) (w w' : World) : Prop where
  os : w'.os = w.os
  tape : w'.tape = w.tape
  output : w'.output = w.output
  size : w.heap.size ≤ w'.heap.size
  same : ∀ k, k < N → k ≠ b → w'.heap[k]? = w.heap[k]?
theorem OnlyAt.refl (N b : Nat) (w : World) : OnlyAt N b w w := ⟨rfl, rfl, rfl, Nat.le_refl _, fun _ _ _ => rfl⟩
theorem OnlyAt.trans {N b : Nat} {w w1 w2 : World} (h : OnlyAt N b w w1) (k : OnlyAt N b w1 w2) : OnlyAt N b w w2 := ⟨k.os.trans h.os, k.tape.trans h.tape, k.output.trans h.output, Nat.le_trans h.size k.size, fun i hi hn => (k.same i hi hn).trans (h.same i hi hn)⟩
theorem OnlyAt.below {N b B : Nat} {w w' : World} (h : OnlyAt N b w w') (hb : B ≤ b) (hN : B ≤ N) : Below B w w' := ⟨h.os, h.tape, h.output, h.size, fun k hk => h.same k (by omega) (by omega)⟩
theorem OnlyAt.cell {N b : Nat} {w w' : World} (h : OnlyAt N b w w') {k o : Nat} {v : Value} (hk : k < N) (hn : k ≠ b) (hc : w.cell? ⟨k, o, none⟩ = some v) : w'.cell? ⟨k, o, none⟩ = some v := (World.cell?_of_block (h.same k hk hn)).trans hc
theorem OnlyAt.of_below {N b : Nat} {w w' : World} (h : Below w.heap.size w w') (hN : N ≤ w.heap.size) : OnlyAt N b w w' := ⟨h.os, h.tape, h.output, h.size, fun k hk _ => h.block k (by omega)⟩
theorem BAt.lt {N b : Nat} {bs : List Value} {w : World} (h : BAt N b bs w) : b < w.heap.size := by
  obtain ⟨p, v, _, hb, _⟩ := h
  exact blk_lt hb
theorem BAt.on {N b : Nat} {bs : List Value} {w w' : World} (h : BAt N b bs w) (hb : Below w.heap.size w w') : BAt N b bs w' := by
  obtain ⟨p, v, hp, hk, ho⟩ := h
  exact ⟨p, v, hp, (hb.block b (blk_lt hk)).trans hk, pw_own_below ho hb⟩
theorem bat_set {N b : Nat} {v v' : Value} {p : Value} {n : Nat} {xs : List Value} {w : World} {j : Nat} {u : Value} (hk : w.heap[b]? = some (.cells #[p, v] 82 (0, 0))) (ho : w.ownsRow N 5 1 v' n xs) : (w.setCell ⟨b, j, none⟩ u).ownsRow N 5 1 v' n xs :=
  ho.kept (row := some b) ⟨rfl, rfl, rfl, by simp [World.setCell], fun k _ hk => Below.heap_setCell _ _ _ _ (fun e => hk (by simp [e]))⟩ (Or.inr (Lib.ownBlock_ne ho hk (by decide)))
theorem bat_fresh {N : Nat} (w : World) (h : w.heap.size < N) : BAt N w.heap.size [] (w.alloc (.cells #[.pointer none, .slice none 0 0] 82)) :=
  ⟨_, _, .inl rfl, World.alloc_heap_new w _, World.ownsRow_nil _ _ _ _⟩
theorem BAt.is {N b : Nat} {bs : List Value} {w : World} (h : BAt N b bs w) (hN : b ≤ N) : Lib.IsBuilder 82 5 b b bs w := by
  obtain ⟨p, v, hp, hk, ho⟩ := h
  rcases hp with rfl | rfl
  · exact .inl ⟨Nat.le_refl _, v, hk, own_weaken ho hN, Lib.ownBlock_ne ho hk (by decide)⟩
  · exact .inr ⟨Nat.le_refl _, v, hk, own_weaken ho hN, Lib.ownBlock_ne ho hk (by decide)⟩
theorem copyCheckN (N b : Nat) (bs : List Value) (w : World) (h : BAt N b bs w) (hbN : b < N) :
    Calls Tryd.prog 122 #[.pointer (some ⟨b, 0, none⟩)] w fun e w' => e = .returned (.tuple #[]) ∧ (∃ v, w'.heap[b]? = some (.cells #[.pointer (some ⟨b, 0, none⟩), v] 82 (0, 0)) ∧ w'.ownsRow N 5 1 v bs.length bs) ∧ OnlyAt N b w w' := by
  obtain ⟨p, v, hp, hk, ho⟩ := h
  have c0 : w.cell? ⟨b, 0, none⟩ = some p := by rw [Lib.cell_of_heap hk]; rfl
  rcases hp with rfl | rfl
  · refine (copyCheck_fresh b w c0 (by simp [World.shape?, hk]) (Lib.frozen_of_heap hk 0)).mono ?_
    rintro e w' ⟨rfl, rfl⟩
    refine ⟨rfl, ⟨v, ?_, bat_set hk ho⟩, ⟨rfl, rfl, rfl, by simp [World.setCell], fun k _ hn => Below.heap_setCell _ _ _ k hn⟩⟩
    simp [World.setCell, Array.getElem?_modify, hk]
  · refine (copyCheck_used b w c0).mono ?_
    rintro e w' ⟨rfl, rfl⟩
    exact ⟨rfl, ⟨v, hk, ho⟩, OnlyAt.refl _ _ _⟩
theorem only_grown {N b : Nat} {w w1 : World} {row : Option Nat} (h : w.grownBy w1 row) (hN : N ≤ w.heap.size) (hr : ∀ k, row = some k → N ≤ k) : OnlyAt N b w w1 :=
  ⟨h.os, h.tape, h.output, h.size, fun k hk _ => h.block k (by omega) (fun e => by have := hr k e.symm; omega)⟩

set_option maxHeartbeats 2000000 in
set_option maxRecDepth 100000 in
theorem writeByteN (N b : Nat) (bs : List Value) (c : Int) (w : World) (h : BAt N b bs w) (hlen : bs.length + 1 ≤ 140737488355328) (hbN : b < N) (hNw : N ≤ w.heap.size) :
    Calls Tryd.prog 80 #[.pointer (some ⟨b, 0, none⟩), .int .u8 c] w fun e w' => e = .returned .nilIface ∧ BAt N b (bs ++ [.int .u8 c]) w' ∧ OnlyAt N b w w' := by
  obtain ⟨i0, hi, hz0, hz1, hz2⟩ := info_parts infoByte
  go_enter Tryd.func80, Tryd.ntmps80
  go_wp2_with (go_at_call 122; refine (copyCheckN N b bs _ h hbN).mono ?_)
  rintro e w1 ⟨rfl, ⟨v, hbk, hown⟩, ho1⟩
  have hne : v.ownBlock ≠ some b := Lib.ownBlock_ne hown hbk (by decide)
  have hsz := ho1.size
  have c0 : w1.cell? ⟨b, 0, none⟩ = some (.pointer (some ⟨b, 0, none⟩)) := by rw [Lib.cell_of_heap hbk]; rfl
  have c1 : w1.cell? ⟨b, 1, none⟩ = some v := by rw [Lib.cell_of_heap hbk]; rfl
  have HO1 := Lib.hid ho1
  clear ho1
  go_wp2_with (at_builtin; refine wpList_append_own _ rfl _ _ 53 rfl N 5 i0 (.int .u8 0) 1 1 Tryd.underlying53 hi hz0 hz1 hz2 rfl (by decide) _ _ _ rfl (hown.alloc _) ⟨w1.heap.size, 0, none⟩ 1 1 [.int .u8 c] rfl rfl ?c1 ?c2 ?c3 ?c4 ?c5 ?_)
  case c1 =>
    intro j u hj
    match j, hj with
    | 0, hj => simp at hj; subst hj; simp [Addr.add]
  case c2 => intro u hu; simp at hu; subst hu; rfl
  case c3 => unfold maxLen; omega
  case c4 => omega
  case c5 => simp; omega
  intro v' w2 hown' hgrow _
  have hlt : b < w1.heap.size := blk_lt hbk
  have hb2 : w2.heap[b]? = some (.cells #[.pointer (some ⟨b, 0, none⟩), v] 82 (0, 0)) := by
    rw [hgrow.block b (by simp; omega) (fun e => hne e.symm), Lib.alloc_old w1 _ b hlt]
    exact hbk
  have d0 : w2.cell? ⟨b, 0, none⟩ = some (.pointer (some ⟨b, 0, none⟩)) := by rw [Lib.cell_of_heap hb2]; rfl
  have d1 : w2.cell? ⟨b, 1, none⟩ = some v := by rw [Lib.cell_of_heap hb2]; rfl
  have f1 : w2.frozen? ⟨b, 1, none⟩ = false := Lib.frozen_of_heap hb2 1
  obtain ⟨g, cap, rfl⟩ : ∃ g cap, v' = .slice (some ⟨g, 0, none⟩) (bs.length + 1) cap := by
    rcases hown'.2 with ⟨_, h0⟩ | ⟨g, cap, cur, hv, _⟩
    · omega
    · exact ⟨g, cap, hv⟩
  go_wp2
  go_ret
  refine ⟨rfl, ⟨_, _, .inr rfl, blk_put hb2 1 _ rfl, bat_set hb2 (by simpa using hown')⟩, ?_⟩
  have h1 : OnlyAt N b w1 w2 := OnlyAt.trans (OnlyAt.of_below (bal (Below.refl _ _) (.cells #[.int .u8 c] 5)) (by omega)) (only_grown hgrow (by simp; omega) (fun k hk => own_base hown k hk))
  have h2 : OnlyAt N b w2 (w2.setCell ⟨b, 1, none⟩ (.slice (some ⟨g, 0, none⟩) (bs.length + 1) cap)) := ⟨rfl, rfl, rfl, by simp [World.setCell], fun k _ hn => Below.heap_setCell _ _ _ k hn⟩
  exact HO1.out.trans (h1.trans h2)
end Go.Proofs.YthkaekeelokajaaDoor.B

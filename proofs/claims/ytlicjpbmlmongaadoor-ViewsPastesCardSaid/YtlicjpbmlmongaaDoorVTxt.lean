/- Lists of texts of the call's own: a text put behind; lists of lists of texts that are read; a list of texts that the call makes and fills. -/
import Derived.Test.YtlicjpbmlmongaaDoorVApp
import Derived.Laws.MakeOwn
import Derived.Laws.Rows
import Derived.Deep.AppendLies
set_option linter.unusedVariables false
set_option linter.unusedSimpArgs false
namespace Go.Proofs.YtlicjpbmlmongaaDoor.C
open Go.RowKit Go.Proofs Go.Proofs.YtlicjpbmlmongaaDoor.H Go.Proofs.YtlicjpbmlmongaaDoorW.PrintWords

/-- A list of texts of the call's own, from block base on. -/
def Txs (base : Nat) (v : Value) (L : List ByteArray) (W : World) : Prop := W.ownsRow base 9 1 v L.length (strs L)
theorem Txs.nil (base : Nat) (W : World) : Txs base (.slice none 0 0) [] W := World.ownsRow_nil _ _ _ _
theorem Txs.below {base : Nat} {v : Value} {L : List ByteArray} {W W' : World} (h : Txs base v L W) (hb : Below W.heap.size W W') : Txs base v L W' := pw_own_below h hb
theorem Txs.reads {base : Nat} {v : Value} {L : List ByteArray} {W : World} (h : Txs base v L W) : ∃ A c, v = .slice A L.length c ∧ L.length ≤ c ∧ Kd.C Kd.string W A L.length L := Kd.R_reads (R_of_own h)
section
variable {ops : Array Oper} {rest : List Oper} {o : Oper} {a : Act} {Q : Exit → Act → World → Prop}
/-- append(l, s). -/
theorem app_txt (w : World) (base : Nat) (hgd : o.guard = none) (s x : Operand) (ho : o.op = .call { callee := .builtin .append, args := #[s, x], argTypes := #[25, 25] })
    (v : Value) (L L2 : List ByteArray) (c : ByteArray) (hL2 : L ++ [c] = L2) (hs : a.eval s = v) (hx : a.eval x = .slice (some ⟨w.heap.size, 0, none⟩) 1 1) (HO : Txs base v L w) (hbase : base ≤ w.heap.size) (hl : L.length + 1 ≤ 8000000000000)
    (h : ∀ v1 w1, Txs base v1 L2 w1 → w.grownBy w1 v.ownBlock → wpList Tryd.prog ops Q rest (a.put o.dst v1) w1) :
    wpList Tryd.prog ops Q (o :: rest) a (w.alloc (.cells #[.string c] 9)) := by
  subst hL2
  obtain ⟨i0, hi, hz0, hz1, hz2⟩ := info_parts infoS
  refine wpList_append_own _ hgd s x 25 ho base 9 i0 (.string ⟨#[]⟩) 1 16 Tryd.underlying25 hi hz0 hz1 hz2 rfl (by decide) v L.length (strs L) hs (World.ownsRow.alloc HO _) ⟨w.heap.size, 0, none⟩ 1 1 [.string c] hx rfl ?c1 ?c2 ?c3 ?c4 ?c5 ?_
  case c1 =>
    intro j u hj
    match j, hj with
    | 0, hj => simp at hj; subst hj; simp [Addr.add]
  case c2 => intro u hu; simp at hu; subst hu; rfl
  case c3 => unfold maxLen; omega
  case c4 => omega
  case c5 => simp; omega
  intro v1 w1 hown hg _
  refine h v1 w1 ?_ ⟨hg.os, hg.tape, hg.output, by have := hg.size; simp at this; omega, fun k hk hr => (hg.block k (by simp; omega) hr).trans (Lib.alloc_old w _ k hk)⟩
  unfold Txs
  rw [strs_append, List.length_append, List.length_singleton]
  exact hown
end
/-- The list so far, and all else as it was. -/
structure TS (w : World) (v : Value) (L : List ByteArray) (W : World) : Prop where
  txs : Txs w.heap.size v L W
  low : Below w.heap.size w W
theorem TS.below {w : World} {v : Value} {L : List ByteArray} {W W' : World} (h : TS w v L W) (hb : Below W.heap.size W W') : TS w v L W' := ⟨h.txs.below hb, bth h.low hb⟩
theorem TS.app {w : World} {v v1 : Value} {L L1 : List ByteArray} {W w1 : World} (h : TS w v L W) (hb : Txs w.heap.size v1 L1 w1) (hg : W.grownBy w1 v.ownBlock) : TS w v1 L1 w1 := ⟨hb, h.low.grown hg h.low.size (fun k hk => own_base h.txs k hk)⟩
/-- A list of lists of texts that is read. -/
def RowsAt (W : World) (A : Option Addr) (L : List (List ByteArray)) : Prop := ∀ i (h : i < L.length), ∃ ad Ai ci, A = some ad ∧ W.cell? (ad.add i) = some (.slice Ai L[i].length ci) ∧ L[i].length ≤ ci ∧ Kd.C Kd.string W Ai L[i].length L[i]
theorem RowsAt.below {W W' : World} {A : Option Addr} {L : List (List ByteArray)} (h : RowsAt W A L) (hb : Below W.heap.size W W') : RowsAt W' A L := fun i hi => by
  obtain ⟨ad, Ai, ci, e, h1, h2, h3⟩ := h i hi
  exact ⟨ad, Ai, ci, e, pw_cell_below hb h1, h2, Kd.C_below h3 hb⟩
/-- A list of texts that the call made: all cells told. -/
def FillAt (W : World) (g : Nat) (L : List ByteArray) : Prop := W.heap[g]? = some (.cells (strs L).toArray 9 (0, 0))
theorem FillAt.cell {W : World} {g : Nat} {L : List ByteArray} (h : FillAt W g L) (j : Nat) (hj : j < L.length) : W.cell? ⟨g, j, none⟩ = some (.string L[j]) ∧ W.frozen? ⟨g, j, none⟩ = false := by
  refine ⟨?_, Lib.frozen_of_heap h j⟩
  rw [Lib.cell_of_heap h]
  simp [strs, hj]
theorem FillAt.put {W : World} {g : Nat} {L : List ByteArray} (h : FillAt W g L) (j : Nat) (x : ByteArray) : FillAt (W.setCell ⟨g, j, none⟩ (.string x)) g (L.set j x) := by
  unfold FillAt
  rw [heap_setCell_same _ _ _ _ _ _ h]
  congr 2
  apply Array.ext'
  rw [Array.toList_setIfInBounds]
  simp only [strs, List.map_set]
theorem FillAt.reads {W : World} {g : Nat} {L : List ByteArray} (h : FillAt W g L) (hl : L.length ≤ 9223372036854775807) : Kd.C Kd.string W (some ⟨g, 0, none⟩) L.length L := by
  refine ⟨rfl, hl, fun h0 => ⟨_, rfl, fun j p hj => ⟨[.string p], rfl, rfl, fun i u hu => ?_⟩⟩⟩
  obtain ⟨hlt, hp⟩ := List.getElem?_eq_some_iff.1 hj
  have hi : i = 0 := by
    rcases Nat.eq_zero_or_pos i with h1 | h1
    · exact h1
    · rw [List.getElem?_eq_none (by simp; omega)] at hu; cases hu
  subst hi
  simp at hu
  subst hu
  rw [add_plain, show Kd.string.sz = 1 from rfl, Nat.mul_one, Nat.add_zero, (h.cell j hlt).1, hp]
/-- What make lays: so many empty texts. -/
def mkS (n : Nat) : Array Value := madeCells (Value.string ⟨#[]⟩).cells (n * 1)
theorem fill_new (w : World) (n : Nat) : FillAt (w.alloc (.cells (mkS n) 9)) w.heap.size (List.replicate n ⟨#[]⟩) := by
  unfold FillAt mkS
  rw [heap_alloc_new]
  congr 2
  apply Array.ext
  · simp [size_madeCells, strs]
  · intro i h1 h2
    simp [madeCells, strs, Value.cells, Nat.mod_one]
end Go.Proofs.YtlicjpbmlmongaaDoor.C

/- Written by merge.py out of Book2, Book3, Book4, Book5, Book6. -/
import Derived.Test.YtlicjpbmlmongaaGreatDoorBook1
import Derived.Test.YtlicjpbmlmongaaGreatDoorShelf
import Derived.WalkLawsBesides
import Derived.WalkSpells
import Derived.RangeFuncBox
import Derived.Deep.RegionLaw
import Derived.Deep.RegionHeld3
import Derived.Outline
import Derived.Deep.QuietTactic
import Derived.BigQuiet
section
/- The book of lists: marks, and a list put into it. -/
set_option linter.unusedVariables false
set_option linter.unusedSimpArgs false
namespace Go.Proofs.YtlicjpbmlmongaaGreatDoor.H
open Go.RowKit Go.Proofs.YtlicjpbmlmongaaGreatDoorW.PrintWords Go.Proofs

/-- The mark of the n-th list. -/
def markS (n : Nat) : ByteArray := ⟨#[35]⟩ ++ ⟨(Lib.decDigits n).toArray⟩
theorem dec_short : ∀ n, n < 100 → (Lib.decDigits n).length ≤ 2 := by decide +kernel
set_option maxHeartbeats 1000000 in
theorem word_calls (n : Nat) (h : n < 100) (w : World) : Calls Tryz.prog 143 #[.int .i64 n] w fun e w' => e = .returned (.string (markS n)) ∧ w = w' := by
  have hs := dec_short n h
  obtain ⟨D, hD⟩ : ∃ D : ByteArray, ⟨(Lib.decDigits n).toArray⟩ = D := ⟨_, rfl⟩
  have hs2 : D.size ≤ 2 := by rw [← hD, Lib.size_eq]; exact hs
  have hc := fun w => Tryz.strconv_Itoa_small n h w
  unfold markS
  rw [hD] at hc ⊢
  clear hs hD
  go_enter Tryz.func143, Tryz.ntmps143
  go_wp2_with (go_at_call 162; refine (hc _).mono ?_; rintro e w' ⟨rfl, rfl⟩)
  go_ret
  exact ⟨rfl, rfl⟩
set_option maxHeartbeats 1000000 in
theorem markText_calls (n : Nat) (h : n < 100) (w : World) : Calls Tryz.prog 100 #[.int .i64 n] w fun e w' => e = .returned (.string (markS n)) ∧ w = w' := by
  go_enter Tryz.func100, Tryz.ntmps100
  go_wp2_with (go_at_call 143; refine (word_calls n h _).mono ?_; rintro e w' ⟨rfl, rfl⟩)
  go_ret
  exact ⟨rfl, rfl⟩
set_option maxHeartbeats 1000000 in
theorem isText_calls (n : Nat) (h : n < 100) (w : World) : Calls Tryz.prog 112 #[.string (markS n), .int .i64 n] w fun e w' => e = .returned (.bool true) ∧ w = w' := by
  go_enter Tryz.func112, Tryz.ntmps112
  go_wp2_with (go_at_call 143; refine (word_calls n h _).mono ?_; rintro e w' ⟨rfl, rfl⟩)
  go_ret
  exact ⟨by simp, rfl⟩

/-- A list that is held: its value, what was put behind it, its number. -/
structure Held where
  v : Value
  long : Value
  n : Nat
def Held.cells (h : Held) : List Value := [h.v, h.long, .int .i64 h.n]
def flatH (L : List Held) : List Value := L.flatMap Held.cells
theorem flatH_len (L : List Held) : (flatH L).length = L.length * 3 := by
  induction L with
  | nil => rfl
  | cons h L ih => simp only [flatH, List.flatMap_cons, List.length_append, Held.cells, List.length_cons, List.length_nil] at ih ⊢; omega
theorem flatH_get (L : List Held) : ∀ (i : Nat) (hi : i < L.length), (flatH L)[3 * i]? = some L[i].v ∧ (flatH L)[3 * i + 1]? = some L[i].long ∧ (flatH L)[3 * i + 2]? = some (.int .i64 L[i].n) := by
  induction L with
  | nil => intro i hi; simp at hi
  | cons h L ih =>
    intro i hi
    match i, hi with
    | 0, _ => exact ⟨rfl, rfl, rfl⟩
    | i + 1, hi =>
      obtain ⟨a, b, c⟩ := ih i (by simpa using hi)
      have e : flatH (h :: L) = h.v :: h.long :: .int .i64 h.n :: flatH L := rfl
      rw [e]
      refine ⟨?_, ?_, ?_⟩
      · rw [show 3 * (i + 1) = 3 * i + 1 + 1 + 1 by omega]; exact a
      · rw [show 3 * (i + 1) + 1 = 3 * i + 1 + 1 + 1 + 1 by omega]; exact b
      · rw [show 3 * (i + 1) + 2 = 3 * i + 2 + 1 + 1 + 1 by omega]; exact c
theorem flatH_app (L M : List Held) : flatH (L ++ M) = flatH L ++ flatH M := List.flatMap_append
theorem flatH_setLong (L : List Held) : ∀ (i : Nat) (hi : i < L.length) (u : Value), (flatH L).set (3 * i + 1) u = flatH (L.set i ⟨L[i].v, u, L[i].n⟩) := by
  induction L with
  | nil => intro i hi; simp at hi
  | cons h L ih =>
    intro i hi u
    match i, hi with
    | 0, _ => rfl
    | i + 1, hi =>
      have e : ∀ (x : Held) (M : List Held), flatH (x :: M) = x.v :: x.long :: .int .i64 x.n :: flatH M := fun _ _ => rfl
      rw [e, show 3 * (i + 1) + 1 = 3 * i + 1 + 1 + 1 + 1 by omega]
      simp only [List.set_cons_succ, List.getElem_cons_succ]
      rw [e, ih i (by simpa using hi) u]

/-- The book: how many lists it has held, and the lists. -/
structure Book (Bk : Nat) (T : Value) (m : Nat) (L : List Held) (W : World) : Prop where
  at_ : W.heap[Bk]? = some (.cells #[.int .i64 m, .slice none 0 0, .slice none 0 0, T, .slice none 0 0, .slice none 0 0, .slice none 0 0, .slice none 0 0, .slice none 0 0, .slice none 0 0, .slice none 0 0, .slice none 0 0, .slice none 0 0] 44 (0, 0))
  own : W.ownsRow (Bk + 1) 106 3 T L.length (flatH L)
theorem blk_cell' {w : World} {b : Nat} {cs : Array Value} {t : TypeId} (h : w.heap[b]? = some (.cells cs t (0, 0))) (i : Nat) : w.cell? ⟨b, i, none⟩ = cs[i]? := by
  rw [Lib.cell_of_heap h]
theorem blk_frozen' {w : World} {b : Nat} {cs : Array Value} {t : TypeId} (h : w.heap[b]? = some (.cells cs t (0, 0))) (i : Nat) : w.frozen? ⟨b, i, none⟩ = false := Lib.frozen_of_heap h i
theorem own_block_ne {w : World} {base e s n : Nat} {v : Value} {xs : List Value} {g t : Nat} {cells : Array Value} (h : w.ownsRow base e s v n xs) (hb : w.heap[g]? = some (.cells cells t (0, 0))) (hlt : g < base) : v.ownBlock = none ∨ v.ownBlock ≠ some g := by
  right
  intro he
  have := own_base h g he
  omega
theorem grown_set (W : World) (b o : Nat) (v : Value) : W.grownBy (W.setCell ⟨b, o, none⟩ v) (some b) :=
  ⟨rfl, rfl, rfl, (KeepsWalks.setCell W _ v).size, fun k _ hk => Below.heap_setCell _ _ _ k (fun e => hk (by rw [e]))⟩
theorem infoH : (Tryz.prog.info? 106).map (fun i => (i.zero, i.size, i.bytes)) = some (some (.agg #[.slice none 0 0, .slice none 0 0, .int .i64 0]), 3, 56) := by kernel_rfl

set_option maxHeartbeats 2000000 in
set_option maxRecDepth 100000 in
theorem keepText_calls (Bk : Nat) (T : Value) (m : Nat) (L : List Held) (A : Option Addr) (ln c : Nat) (w : World) (hB : Book Bk T m L w) (hm : m ≤ 1000) (hL : L.length ≤ 1000) :
    Calls Tryz.prog 35 #[.pointer (some ⟨Bk, 0, none⟩), .slice A ln c] w fun e w' => e = .returned (.tuple #[]) ∧ (∃ T', Book Bk T' (m + 1) (L ++ [⟨.slice A ln c, .slice none 0 0, m + 1⟩]) w') ∧ Below Bk w w' := by
  obtain ⟨i0, hi, hz0, hz1, hz2⟩ := info_parts infoH
  have HB := Lib.hid hB
  have c0 : w.cell? ⟨Bk, 0, none⟩ = some (.int .i64 m) := blk_cell' hB.at_ 0
  have c3 : w.cell? ⟨Bk, 3, none⟩ = some T := blk_cell' hB.at_ 3
  have f0 := blk_frozen' hB.at_ 0
  have f3 := blk_frozen' hB.at_ 3
  clear hB
  go_enter Tryz.func35, Tryz.ntmps35
  go_wp2
  obtain ⟨w1, hw1⟩ : ∃ w1, w.setCell ⟨Bk, 0, none⟩ (.int .i64 ((m : Int) + 1)) = w1 := ⟨_, rfl⟩
  have hat : w1.heap[Bk]? = some (.cells #[.int .i64 ((m : Int) + 1), .slice none 0 0, .slice none 0 0, T, .slice none 0 0, .slice none 0 0, .slice none 0 0, .slice none 0 0, .slice none 0 0, .slice none 0 0, .slice none 0 0, .slice none 0 0, .slice none 0 0] 44 (0, 0)) := by
    rw [← hw1]; exact blk_put HB.out.at_ 0 _ rfl
  have how : w1.ownsRow (Bk + 1) 106 3 T L.length (flatH L) := by
    rw [← hw1]; exact own_other HB.out.own (grownBy_setCell' w Bk _) (own_block_ne HB.out.own HB.out.at_ (by omega))
  have hbl : Below Bk w w1 := by rw [← hw1]; exact (Below.refl Bk w).setCell (p := ⟨Bk, 0, none⟩) (Nat.le_refl _) _
  have hlt : Bk < w1.heap.size := blk_lt hat
  rw [hw1]
  clear hw1 c0 c3 f0 f3
  have d0 : w1.cell? ⟨Bk, 0, none⟩ = some (.int .i64 ((m : Int) + 1)) := blk_cell' hat 0
  have d3 : w1.cell? ⟨Bk, 3, none⟩ = some T := blk_cell' hat 3
  have HAT := Lib.hid hat
  have HOW := Lib.hid how
  clear hat how
  have hone : ∀ u ∈ [Value.slice A ln c, .slice none 0 0, .int .i64 ((m : Int) + 1)], u.oneCell' = true := by
    intro u hu; simp at hu; rcases hu with rfl | rfl | rfl <;> rfl
  have HONE := Lib.hid hone
  clear hone
  go_region_law (refine step_append_lies _ rfl (.tmp 15) (.tmp 22) 33 rfl (Bk + 1) 106 i0 _ 3 56 Tryz.underlying33 hi hz0 hz1 hz2 rfl (by decide) T L.length (flatH L) (by simp [Act.eval, Act.put]) ((HOW.out).drew.alloc _) ⟨w1.heap.size, 0, none⟩ 1 1 [.slice A ln c, .slice none 0 0, .int .i64 ((m : Int) + 1)] (by simp [Act.eval, Act.put]) rfl (by exact World.news_of_block (heap_alloc_new w1.drew _)) HONE.out (by decide) (by unfold maxLen; omega) (by omega) (by simp; omega) _ rfl ?_; intro g cap w2 hown2 hgrow2 hat2 hlt2; have hat3 : w2.heap[Bk]? = w1.heap[Bk]? := (hgrow2.block Bk (by simp; omega) (by have := own_block_ne HOW.out HAT.out (by omega); rcases this with h | h; (rw [h]; simp); exact fun e => h e.symm)).trans (Lib.alloc_old w1.drew _ Bk hlt); have hat4 := hat3.trans HAT.out; have e3 : w2.cell? ⟨Bk, 3, none⟩ = some T := blk_cell' hat4 3; have g3 : w2.frozen? ⟨Bk, 3, none⟩ = false := blk_frozen' hat4 3)
  all_goals
    go_end0
    refine ⟨rfl, ⟨_, ⟨blk_put hat4 3 _ rfl, ?_⟩⟩, ?_⟩
    · have := own_other hown2 (grown_set w2 Bk 3 (.slice (some ⟨g, 0, none⟩) (L.length + 1) cap)) (.inr (by simp [Value.ownBlock]; exact Ne.symm (by
        intro e; subst e
        rcases hown2.2 with ⟨h, _⟩ | ⟨g', cap', cur, h, hb, _⟩
        · cases h
        · simp only [Value.slice.injEq, Option.some.injEq, Addr.mk.injEq, and_true, true_and] at h
          obtain ⟨rfl, _⟩ := h
          omega)))
      rw [flatH_app, List.length_append]
      exact this
    · exact ((Below.grown (((hbl.drew).alloc (by simp; omega) _)) hgrow2 (by simp; omega) (fun k hk => by have := own_base HOW.out k hk; omega))).setCell (p := ⟨Bk, 3, none⟩) (Nat.le_refl _) _
set_option maxHeartbeats 1000000 in
theorem texts_calls (Bk : Nat) (T : Value) (m : Nat) (L : List Held) (A : Option Addr) (ln c : Nat) (w : World) (hB : Book Bk T m L w) (hm : m ≤ 1000) (hL : L.length ≤ 1000) :
    Calls Tryz.prog 12 #[.pointer (some ⟨Bk, 0, none⟩), .slice A ln c] w fun e w' => e = .returned (.tuple #[]) ∧ (∃ T', Book Bk T' (m + 1) (L ++ [⟨.slice A ln c, .slice none 0 0, m + 1⟩]) w') ∧ Below Bk w w' := by
  have HB := Lib.hid hB
  clear hB
  go_enter Tryz.func12, Tryz.ntmps12
  go_wp2_with (go_at_call 35; refine (keepText_calls Bk T m L A ln c _ HB.out hm hL).mono ?_; rintro e w' ⟨rfl, hX, hb⟩; have HX := Lib.hid hX; clear hX)
  go_end0
  exact ⟨rfl, HX.out, hb⟩
end Go.Proofs.YtlicjpbmlmongaaGreatDoor.H

end
section
/- The book of lists: marks are written into all. -/
set_option linter.unusedVariables false
set_option linter.unusedSimpArgs false
namespace Go.Proofs.YtlicjpbmlmongaaGreatDoor.H
open Go.RowKit Go.Proofs.YtlicjpbmlmongaaGreatDoorW.PrintWords Go.Proofs

def zH : Held := ⟨.slice none 0 0, .slice none 0 0, 0⟩
/-- The lists as rows of the call's own. -/
def RowsL (B0 : Nat) (L : List Held) (X : Nat → List ByteArray) (W : World) : Prop := ∀ i, i < L.length → W.ownsRow B0 9 1 (L.getD i zH).v (X i).length (strs (X i))
/-- Each in a block of its own, below the book's. -/
structure ApartL (Bk : Nat) (L : List Held) : Prop where
  low : ∀ i, i < L.length → ∀ b, (L.getD i zH).v.ownBlock = some b → b < Bk
  ne : ∀ i j, i < L.length → j < L.length → i ≠ j → (L.getD i zH).v.ownBlock = none ∨ (L.getD i zH).v.ownBlock ≠ (L.getD j zH).v.ownBlock
  num : ∀ i, i < L.length → (L.getD i zH).n < 100
  sl : ∀ i, i < L.length → ∃ a n c, (L.getD i zH).long = .slice a n c
theorem rows_of_one {B0 Bk : Nat} {L : List Held} {X X' : Nat → List ByteArray} {W W1 : World} (hA : ApartL Bk L) (h : RowsL B0 L X W) (i : Nat) (hi : i < L.length)
    (hg : W.grownBy W1 (L.getD i zH).v.ownBlock) (ho : W1.ownsRow B0 9 1 (L.getD i zH).v (X' i).length (strs (X' i))) (hX : ∀ j, j ≠ i → X' j = X j) : RowsL B0 L X' W1 := by
  intro j hj
  by_cases e : j = i
  · subst e; exact ho
  · rw [hX j e]; exact own_other (h j hj) hg (hA.ne j i hj hi e)
theorem book_keeps {Bk m : Nat} {T : Value} {L : List Held} {W W1 : World} {row : Option Nat} (h : Book Bk T m L W) (hg : W.grownBy W1 row) (hr : ∀ b, row = some b → b < Bk) : Book Bk T m L W1 :=
  ⟨(hg.block Bk (blk_lt h.at_) (fun e => by have := hr Bk e.symm; omega)).trans h.at_, own_other h.own hg (by
    cases row with
    | none => cases T.ownBlock <;> simp
    | some b =>
      right; intro e
      have h1 := own_base h.own b e
      have h2 := hr b rfl
      omega)⟩
theorem _root_.Go.World.grownBy.weak {W W1 : World} (h : W.grownBy W1 none) (row : Option Nat) : W.grownBy W1 row := ⟨h.os, h.tape, h.output, h.size, fun k hk _ => h.block k hk (by simp)⟩
theorem grown_dr {W W1 : World} {row : Option Nat} (h : W.grownBy W1 row) : W.grownBy W1.drew row := ⟨h.os, h.tape, h.output, h.size, h.block⟩
theorem grown_low {B0 : Nat} {w W W1 : World} {row : Option Nat} (h : Below B0 w W) (hB : B0 ≤ W.heap.size) (hg : W.grownBy W1 row) (hr : ∀ b, row = some b → B0 ≤ b) : Below B0 w W1 := h.grown hg hB hr
/-- What stands in the lists when the first i are marked. -/
def marksTo (L : List Held) (X : Nat → List ByteArray) (i : Nat) (j : Nat) : List ByteArray := if j < i then List.replicate (X j).length (markS (L.getD j zH).n) else X j
theorem marks_len (L : List Held) (X : Nat → List ByteArray) (i j : Nat) : (marksTo L X i j).length = (X j).length := by unfold marksTo; split <;> simp
theorem mark_step (x : List ByteArray) (m : ByteArray) (k : Nat) (hk : k < x.length) : (strs (List.replicate k m ++ x.drop k)).set k (.string m) = strs (List.replicate (k + 1) m ++ x.drop (k + 1)) := by
  unfold strs
  rw [← List.map_set, List.set_append_right _ _ (by simp), List.length_replicate, Nat.sub_self, List.drop_eq_getElem_cons hk, List.set_cons_zero, List.replicate_succ', List.append_assoc]
  rfl

theorem mark_at (x : List ByteArray) (m : ByteArray) (k : Nat) (hk : k < x.length) : (strs (List.replicate k m ++ x.drop k))[k]? = some (.string x[k]) := by
  unfold strs
  rw [List.getElem?_map, List.getElem?_append_right (by simp), List.length_replicate, Nat.sub_self, List.drop_eq_getElem_cons hk]
  rfl
/-- A book's entry, as cells. -/
theorem book_entry {Bk m g cap : Nat} {L : List Held} {W : World} (h : Book Bk (.slice (some ⟨g, 0, none⟩) L.length cap) m L W) (i : Nat) (hi : i < L.length) :
    W.cell? ⟨g, i * 3, none⟩ = some (L.getD i zH).v ∧ W.cell? ⟨g, i * 3 + 1, none⟩ = some (L.getD i zH).long ∧ W.cell? ⟨g, i * 3 + 2, none⟩ = some (.int .i64 (L.getD i zH).n) := by
  obtain ⟨a, b, c⟩ := flatH_get L i hi
  have e : L.getD i zH = L[i] := by rw [List.getD_eq_getElem?_getD, List.getElem?_eq_getElem hi]; rfl
  rw [e, Nat.mul_comm i 3]
  have hk := fun j (hj : j < L.length * 3) => h.own.cellAt j hj
  exact ⟨(hk _ (by omega)).trans a, (hk _ (by omega)).trans b, (hk _ (by omega)).trans c⟩

set_option maxHeartbeats 4000000 in
set_option maxRecDepth 100000 in
theorem fillText_calls (B0 Bk : Nat) (T : Value) (m : Nat) (L : List Held) (X : Nat → List ByteArray) (w : World) (hB : Book Bk T m L w) (hL : L.length ≤ 1000) (hA : ApartL Bk L) (hR : RowsL B0 L X w) (h0 : B0 ≤ Bk) :
    Calls Tryz.prog 38 #[.pointer (some ⟨Bk, 0, none⟩)] w fun e w' => e = .returned (.tuple #[]) ∧ Book Bk T m L w' ∧ RowsL B0 L (marksTo L X L.length) w' ∧ Below B0 w w' := by
  have HB := Lib.hid hB
  have HR := Lib.hid hR
  have HA := Lib.hid hA
  have hBk := blk_lt hB.at_
  clear hB hR hA
  go_enter Tryz.func38, Tryz.ntmps38
  go_wp2
  go_loopw [2] (fun i wr => ∃ k : Nat, k ≤ L.length ∧ i = .int .i64 k ∧ Hid (Book Bk T m L wr ∧ RowsL B0 L (marksTo L X k) wr ∧ Below B0 w wr)) (fun i _ => L.length - (intOf i).toNat)
  case atStart => exact ⟨0, Nat.zero_le _, rfl, Lib.hid ⟨HB.out, fun j hj => by have := HR.out j hj; simpa [marksTo] using this, Below.refl _ _⟩⟩
  case round =>
    obtain ⟨i, hi, rfl, hr⟩ := hrel
    have c3 : wr.cell? ⟨Bk, 3, none⟩ = some T := blk_cell' hr.out.1.at_ 3
    by_cases hlt : i < L.length
    · obtain ⟨g, cap, rfl, hgb, hgl⟩ := hr.out.1.own.form (by omega)
      obtain ⟨e0, e1, e2⟩ := book_entry hr.out.1 i hlt
      obtain ⟨a1, n1, c1, hl1⟩ := HA.out.sl i hlt
      obtain ⟨a2, c2, hv2⟩ := own_slice (hr.out.2.1 i hlt)
      rw [marks_len] at hv2
      obtain ⟨N, hN⟩ : ∃ N, (L.getD i zH).n = N := ⟨_, rfl⟩
      rw [hv2] at e0
      rw [hl1] at e1
      rw [hN] at e2
      have HL1 := Lib.hid hl1
      have HV2 := Lib.hid hv2
      have HN := Lib.hid hN
      clear hl1 hv2 hN
      have hn100 : N < 100 := by have := HA.out.num i hlt; rw [HN.out] at this; exact this
      have hrow : Hid (wr.ownsRow B0 9 1 (.slice a2 (X i).length c2) (X i).length (strs (X i))) := Lib.hid (by
        have := hr.out.2.1 i hlt; rw [HV2.out] at this; simpa [marksTo] using this)
      have hown2 : ∀ b, (Value.slice a2 (X i).length c2).ownBlock = some b → b < Bk := by have := HA.out.low i hlt; rw [HV2.out] at this; exact this
      have HOWN2 := Lib.hid hown2
      clear hown2
      have hBz : Bk < wr.heap.size := blk_lt hr.out.1.at_
      go_wp2
      obtain ⟨W0, hW0⟩ : ∃ W0, wr.alloc (Obj.cells #[Value.slice a2 (X i).length c2, Value.slice a1 n1 c1, Value.int IntKind.i64 (N : Int)] 106) = W0 := ⟨_, rfl⟩
      have hblk : W0.heap[wr.heap.size]? = some (.cells #[Value.slice a2 (X i).length c2, Value.slice a1 n1 c1, Value.int IntKind.i64 (N : Int)] 106 (0, 0)) := by rw [← hW0]; exact World.alloc_heap_new wr _
      have hrow0 : Hid (W0.ownsRow B0 9 1 (.slice a2 (X i).length c2) (X i).length (strs (X i))) := Lib.hid (by rw [← hW0]; exact hrow.out.alloc _)
      have hg0 : Hid (wr.grownBy W0 none) := Lib.hid (by rw [← hW0]; exact World.grownBy_alloc wr _ none)
      have HBLK := Lib.hid hblk
      rw [hW0]
      clear hW0 hblk hrow c3 e0 e1 e2
      obtain ⟨wo, rfl⟩ : ∃ wo : World, wo = wr := ⟨_, rfl⟩
      go_loopw [4] (fun kv wi => ∃ k : Nat, k ≤ (X i).length ∧ kv = .int .i64 k ∧ Hid (W0.grownBy wi (Value.slice a2 (X i).length c2).ownBlock ∧ wi.ownsRow B0 9 1 (.slice a2 (X i).length c2) (X i).length (strs (List.replicate k (markS N) ++ (X i).drop k)))) (fun kv _ => (X i).length - (intOf kv).toNat)
      case atStart => exact ⟨0, Nat.zero_le _, rfl, Lib.hid ⟨World.grownBy.refl _ _, hrow0.out⟩⟩
      case round =>
        obtain ⟨k, hk, rfl, hi2⟩ := hrel
        have hb1 : wr.heap[wo.heap.size]? = some (.cells #[Value.slice a2 (X i).length c2, Value.slice a1 n1 c1, Value.int IntKind.i64 (N : Int)] 106 (0, 0)) :=
          (hi2.out.1.block _ (blk_lt HBLK.out) (fun e => by have := HOWN2.out _ e.symm; omega)).trans HBLK.out
        have q0 := blk_cell' hb1 0
        have q2 := blk_cell' hb1 2
        have hx63 : (X i).length ≤ 9223372036854775807 := by
          rcases hi2.out.2.2 with ⟨h, h'⟩ | ⟨g', cap', cur, h, _, _, h1, h2, _⟩
          · omega
          · unfold maxLen at h2; omega
        simp only [List.getElem?_toArray, List.getElem?_cons_zero, List.getElem?_cons_succ] at q0 q2
        by_cases hkl : k < (X i).length
        · obtain ⟨g2, cap2, hv3, hgb2, hgl2⟩ := hi2.out.2.form (by omega)
          injection hv3 with hv3 _ hv4
          subst hv3 hv4
          have z1 : wr.cell? ⟨g2, k, none⟩ = some (.string ((X i)[k])) := (hi2.out.2.cellAt k (by omega)).trans (mark_at _ _ k hkl)
          have z2 : wr.frozen? ⟨g2, k, none⟩ = false := hi2.out.2.frozenAt k
          go_wp2
          go_region_with ((go_at_call 100; refine (markText_calls N hn100 _).mono ?_; rintro e w' ⟨rfl, rfl⟩))
          all_goals
            go_wp2
            go_roundw
            case rel =>
              have hst := hi2.out.2.stored k (.string (markS N))
              rw [mark_step _ _ k hkl] at hst
              exact ⟨k + 1, by omega, by go_num, Lib.hid ⟨World.grownBy.trans hi2.out.1 (by first | exact hst.2 | exact grown_dr hst.2), by first | exact hst.1 | exact hst.1.drew⟩⟩
            case measure => simp [intOf]; omega
        · obtain rfl : k = (X i).length := by omega
          have hX2 : List.replicate (X i).length (markS N) ++ (X i).drop (X i).length = List.replicate (X i).length (markS N) := by simp
          rw [hX2] at hi2
          go_wp2
          go_roundw
          case rel =>
            refine ⟨i + 1, by omega, by go_num, Lib.hid ⟨?_, ?_, ?_⟩⟩
            · exact book_keeps (book_keeps hr.out.1 hg0.out (fun b h => by cases h)) hi2.out.1 HOWN2.out
            · have hg1 : wo.grownBy wr (L.getD i zH).v.ownBlock := by rw [HV2.out]; exact World.grownBy.trans (hg0.out.weak _) hi2.out.1
              refine rows_of_one HA.out hr.out.2.1 i hlt hg1 ?_ ?_
              · rw [HV2.out, marks_len]
                have e : marksTo L X (i + 1) i = List.replicate (X i).length (markS N) := by unfold marksTo; rw [if_pos (by omega), HN.out]
                rw [e]; exact hi2.out.2
              · intro j hj; unfold marksTo
                by_cases h : j < i
                · rw [if_pos (by omega), if_pos h]
                · rw [if_neg (by omega), if_neg h]
            · exact (hr.out.2.2.grown (hg0.out.weak none) (by omega) (fun b h => by cases h)).grown hi2.out.1 (by have := hg0.out.size; omega) (fun b h => by
                rcases hi2.out.2.2 with ⟨h', _⟩ | ⟨g', cap', cur, h', hb', _⟩
                · rw [h'] at h; simp [Value.ownBlock] at h
                · rw [h'] at h; simp [Value.ownBlock] at h; omega)
          case measure => simp [intOf]; omega
    · obtain rfl : i = L.length := by omega
      obtain ⟨aT, cT, hT⟩ := own_slice hr.out.1.own
      subst hT
      go_wp2
      go_end0
      exact ⟨rfl, hr.out.1, hr.out.2.1, hr.out.2.2⟩
end Go.Proofs.YtlicjpbmlmongaaGreatDoor.H

end
section
/- The book of lists: marks are put behind each. -/
set_option linter.unusedVariables false
set_option linter.unusedSimpArgs false
namespace Go.Proofs.YtlicjpbmlmongaaGreatDoor.H
open Go.RowKit Go.Proofs.YtlicjpbmlmongaaGreatDoorW.PrintWords Go.Proofs

theorem grown_more {W0 W W1 : World} {row : Option Nat} {g : Nat} (h : W0.grownBy W row) (k : W.grownBy W1 (some g)) (hg : some g = row ∨ W0.heap.size ≤ g) : W0.grownBy W1 row :=
  ⟨k.os.trans h.os, k.tape.trans h.tape, k.output.trans h.output, Nat.le_trans h.size k.size, fun j hj hne => (k.block j (Nat.lt_of_lt_of_le hj h.size) (fun e => by
    rcases hg with hg | hg
    · exact hne (e.trans hg)
    · have : j = g := by simpa using e
      omega)).trans (h.block j hj hne)⟩
/-- What stands behind the j-th list. -/
def LongOK (B0 Bk : Nat) (L : List Held) (X : Nat → List ByteArray) (u : Value) (j : Nat) (W : World) : Prop :=
  W.ownsRow B0 9 1 u ((X j).length + 40) (strs (X j ++ List.replicate 40 (markS (L.getD j zH).n))) ∧ (u.ownBlock = (L.getD j zH).v.ownBlock ∨ ∃ c, u.ownBlock = some c ∧ Bk ≤ c)
structure GrowInv (B0 Bk m : Nat) (T : Value) (L : List Held) (X : Nat → List ByteArray) (w : World) (i : Nat) (L' : List Held) (W : World) : Prop where
  len : L'.length = L.length
  same : ∀ j, j < L.length → (L'.getD j zH).v = (L.getD j zH).v ∧ (L'.getD j zH).n = (L.getD j zH).n
  rest : ∀ j, i ≤ j → j < L.length → L'.getD j zH = L.getD j zH
  book : Book Bk T m L' W
  rows : RowsL B0 L X W
  longs : ∀ j, j < i → LongOK B0 Bk L X (L'.getD j zH).long j W
  low : Below B0 w W
theorem long_keeps {B0 Bk : Nat} {L : List Held} {X : Nat → List ByteArray} {u : Value} {j i : Nat} {W W1 : World} (hA : ApartL Bk L) (hj : j < L.length) (hi : i < L.length) (hne : j ≠ i) (h : LongOK B0 Bk L X u j W) (hg : W.grownBy W1 (L.getD i zH).v.ownBlock) : LongOK B0 Bk L X u j W1 := by
  refine ⟨own_other h.1 hg ?_, h.2⟩
  rcases h.2 with h2 | ⟨c, h2, hc⟩
  · rw [h2]; exact hA.ne j i hj hi hne
  · right
    intro e
    rw [h2] at e
    have := hA.low i hi c e.symm
    omega
/-- The book's entry is turned; the lists lie elsewhere. -/
theorem grow_store {B0 Bk m g cap : Nat} {L L' : List Held} {X : Nat → List ByteArray} {w W : World} {i : Nat} {u : Value} (hA : ApartL Bk L) (hi : i < L.length) (h : GrowInv B0 Bk m (.slice (some ⟨g, 0, none⟩) L'.length cap) L X w i L' W) (hu : LongOK B0 Bk L X u i W) (h0 : B0 ≤ Bk) :
    GrowInv B0 Bk m (.slice (some ⟨g, 0, none⟩) L'.length cap) L X w (i + 1) (L'.set i ⟨(L'.getD i zH).v, u, (L'.getD i zH).n⟩) (W.setCell ⟨g, i * 3 + 1, none⟩ u) := by
  have hi' : i < L'.length := by rw [h.len]; exact hi
  have e : L'.getD i zH = L'[i] := by rw [List.getD_eq_getElem?_getD, List.getElem?_eq_getElem hi']; rfl
  have hset : ∀ j, (L'.set i ⟨(L'.getD i zH).v, u, (L'.getD i zH).n⟩).getD j zH = if j = i then ⟨(L'.getD i zH).v, u, (L'.getD i zH).n⟩ else L'.getD j zH := by
    intro j
    rw [List.getD_eq_getElem?_getD, List.getElem?_set]
    by_cases hj : j = i
    · subst hj; rw [if_pos rfl, if_pos hi', if_pos rfl]; rfl
    · rw [if_neg (fun e => hj e.symm), if_neg hj, List.getD_eq_getElem?_getD]
  obtain ⟨hs1, hs2⟩ := h.book.own.stored (i * 3 + 1) u
  have hgb := own_base h.book.own g rfl
  have hother : ∀ {n : Nat} {v : Value} {xs : List Value}, W.ownsRow B0 9 1 v n xs → (W.setCell ⟨g, i * 3 + 1, none⟩ u).ownsRow B0 9 1 v n xs := fun {n v xs} ho => own_other ho hs2 (by
    have := own_type_ne ho h.book.own (by decide)
    exact this)
  refine ⟨by rw [List.length_set]; exact h.len, fun j hj => ?_, fun j hj hjl => ?_, ⟨?_, ?_⟩, fun j hj => hother (h.rows j hj), fun j hj => ?_, h.low.setCell (p := ⟨g, i * 3 + 1, none⟩) (by show B0 ≤ g; omega) u⟩
  · rw [hset]
    by_cases hji : j = i
    · subst hji; rw [if_pos rfl]; exact h.same j hj
    · rw [if_neg hji]; exact h.same j hj
  · rw [hset, if_neg (by omega)]; exact h.rest j (by omega) hjl
  · exact (hs2.block Bk (blk_lt h.book.at_) (by intro e; injection e with e; omega)).trans h.book.at_
  · rw [List.length_set, e, ← flatH_setLong L' i hi' u, Nat.mul_comm 3 i]
    exact hs1
  · rw [hset]
    by_cases hji : j = i
    · subst hji; rw [if_pos rfl]; exact ⟨hother hu.1, hu.2⟩
    · rw [if_neg hji]; have := h.longs j (by omega); exact ⟨hother this.1, this.2⟩

set_option maxHeartbeats 4000000 in
set_option maxRecDepth 100000 in
theorem growText_calls (B0 Bk : Nat) (T : Value) (m : Nat) (L : List Held) (X : Nat → List ByteArray) (hX : ∀ j, j < L.length → (X j).length ≤ 8796093022000) (w : World) (hB : Book Bk T m L w) (hL : L.length ≤ 1000) (hA : ApartL Bk L) (hR : RowsL B0 L X w) (h0 : B0 ≤ Bk) :
    Calls Tryz.prog 50 #[.pointer (some ⟨Bk, 0, none⟩)] w fun e w' => e = .returned (.tuple #[]) ∧ ∃ L', GrowInv B0 Bk m T L X w L.length L' w' := by
  obtain ⟨i0, hi, hz0, hz1, hz2⟩ := info_parts infoS
  have HA := Lib.hid hA
  have hBk := blk_lt hB.at_
  have HI : Hid (GrowInv B0 Bk m T L X w 0 L w) := Lib.hid ⟨rfl, fun _ _ => ⟨rfl, rfl⟩, fun _ _ _ => rfl, hB, hR, fun j hj => by omega, Below.refl _ _⟩
  have HX := Lib.hid hX
  clear hB hR hA hX
  go_enter Tryz.func50, Tryz.ntmps50
  go_wp2
  go_loopw [2] (fun i wr => ∃ k : Nat, k ≤ L.length ∧ i = .int .i64 k ∧ Hid (∃ L', GrowInv B0 Bk m T L X w k L' wr)) (fun i _ => L.length - (intOf i).toNat)
  case atStart => exact ⟨0, Nat.zero_le _, rfl, Lib.hid ⟨L, HI.out⟩⟩
  case round =>
    obtain ⟨i, hi2, rfl, hr'⟩ := hrel
    obtain ⟨L', hr0⟩ := hr'.out
    have hr := Lib.hid hr0
    have c3 : wr.cell? ⟨Bk, 3, none⟩ = some T := blk_cell' hr0.book.at_ 3
    have hlen := hr0.len
    clear hr0 hr'
    by_cases hlt : i < L.length
    · obtain ⟨g, cap, rfl, hgb, hgl⟩ := hr.out.book.own.form (by omega)
      obtain ⟨e0, e1, e2⟩ := book_entry hr.out.book i (by omega)
      have hrest := hr.out.rest i (Nat.le_refl _) hlt
      rw [hrest] at e0 e1 e2
      obtain ⟨a1, n1, c1, hl1⟩ := HA.out.sl i hlt
      obtain ⟨a2, c2, hv2⟩ := own_slice (hr.out.rows i hlt)
      obtain ⟨N, hN⟩ : ∃ N, (L.getD i zH).n = N := ⟨_, rfl⟩
      rw [hv2] at e0
      rw [hl1] at e1
      rw [hN] at e2
      have HREST := Lib.hid hrest
      have HLEN := Lib.hid hlen
      have HV2 := Lib.hid hv2
      have HN := Lib.hid hN
      have hx := HX.out i hlt
      have hllt : i < L'.length := by omega
      clear hl1 hv2 hN hrest hlen
      have hn100 : N < 100 := by have := HA.out.num i hlt; rw [HN.out] at this; exact this
      have hrow : Hid (wr.ownsRow B0 9 1 (.slice a2 (X i).length c2) (X i).length (strs (X i))) := Lib.hid (by
        have := hr.out.rows i hlt; rw [HV2.out] at this; exact this)
      have hown2 : ∀ b, (Value.slice a2 (X i).length c2).ownBlock = some b → b < Bk := by have := HA.out.low i hlt; rw [HV2.out] at this; exact this
      have HOWN2 := Lib.hid hown2
      clear hown2
      have hBz : Bk < wr.heap.size := blk_lt hr.out.book.at_
      go_wp2
      obtain ⟨W0, hW0⟩ : ∃ W0, wr.alloc (Obj.cells #[Value.slice a2 (X i).length c2, Value.slice a1 n1 c1, Value.int IntKind.i64 (N : Int)] 106) = W0 := ⟨_, rfl⟩
      have HBLK : Hid (W0.heap[wr.heap.size]? = some (.cells #[Value.slice a2 (X i).length c2, Value.slice a1 n1 c1, Value.int IntKind.i64 (N : Int)] 106 (0, 0))) := Lib.hid (by rw [← hW0]; exact World.alloc_heap_new wr _)
      have hrow0 : Hid (W0.ownsRow B0 9 1 (.slice a2 (X i).length c2) (X i).length (strs (X i))) := Lib.hid (by rw [← hW0]; exact hrow.out.alloc _)
      have hg0 : Hid (wr.grownBy W0 none) := Lib.hid (by rw [← hW0]; exact World.grownBy_alloc wr _ none)
      rw [hW0]
      clear hW0 hrow c3 e0 e1 e2
      obtain ⟨wo, rfl⟩ : ∃ wo : World, wo = wr := ⟨_, rfl⟩
      go_loopw [4, 5] (fun uv kv wi => ∃ k : Nat, k ≤ 40 ∧ kv = .int .i64 k ∧ Hid (W0.grownBy wi (Value.slice a2 (X i).length c2).ownBlock ∧ wi.ownsRow B0 9 1 uv ((X i).length + k) (strs (X i ++ List.replicate k (markS N))) ∧ wi.ownsRow B0 9 1 (.slice a2 (X i).length c2) (X i).length (strs (X i)) ∧ (uv.ownBlock = (Value.slice a2 (X i).length c2).ownBlock ∨ ∃ c, uv.ownBlock = some c ∧ W0.heap.size ≤ c))) (fun _ kv _ => 40 - (intOf kv).toNat)
      case atStart => exact ⟨0, Nat.zero_le _, rfl, Lib.hid ⟨World.grownBy.refl _ _, by simpa using hrow0.out, hrow0.out, .inl rfl⟩⟩
      case round =>
        obtain ⟨k, hk, rfl, hi3⟩ := hrel
        have hb1 : wr.heap[wo.heap.size]? = some (.cells #[Value.slice a2 (X i).length c2, Value.slice a1 n1 c1, Value.int IntKind.i64 (N : Int)] 106 (0, 0)) :=
          (hi3.out.1.block _ (blk_lt HBLK.out) (fun e => by have := HOWN2.out _ e.symm; omega)).trans HBLK.out
        have q0 := blk_cell' hb1 0
        have q2 := blk_cell' hb1 2
        simp only [List.getElem?_toArray, List.getElem?_cons_zero, List.getElem?_cons_succ] at q0 q2
        have hzz : wo.heap.size < wr.heap.size := blk_lt hb1
        obtain ⟨ua, uc, hu⟩ := own_slice hi3.out.2.1
        subst hu
        by_cases hkl : k < 40
        · go_wp2_with (first | (go_at_call 100; refine (markText_calls N hn100 _).mono ?_; rintro e w' ⟨rfl, rfl⟩) | (at_builtin; go_loud (refine wpList_append_two _ rfl _ _ 24 rfl B0 9 i0 _ 16 Tryz.underlying24 hi hz0 hz1 hz2 rfl _ ((X i).length + k) _ rfl (hi3.out.2.1.alloc _) ⟨wr.heap.size, 0, none⟩ 1 (.string (markS N)) rfl (Boxed.new wr _ _).cell rfl (by unfold maxLen; omega) (by omega) (by simp; omega) ?_)))
          intro g3 cap3 w3 hown3 hcase
          have hN1 : Hid (W0.grownBy w3 (Value.slice a2 (X i).length c2).ownBlock ∧ w3.ownsRow B0 9 1 (.slice (some ⟨g3, 0, none⟩) ((X i).length + (k + 1)) cap3) ((X i).length + (k + 1)) (strs (X i ++ List.replicate (k + 1) (markS N))) ∧ w3.ownsRow B0 9 1 (.slice a2 (X i).length c2) (X i).length (strs (X i)) ∧ ((Value.slice (some ⟨g3, 0, none⟩) ((X i).length + (k + 1)) cap3).ownBlock = (Value.slice a2 (X i).length c2).ownBlock ∨ ∃ c, (Value.slice (some ⟨g3, 0, none⟩) ((X i).length + (k + 1)) cap3).ownBlock = some c ∧ W0.heap.size ≤ c)) := Lib.hid (by
            obtain ⟨z1, z2, z3, z4⟩ := hi3.out
            have ha := World.grownBy.trans z1 (World.grownBy_alloc wr (Obj.cells #[Value.string (markS N)] 9) _)
            have e : strs (X i) ++ (strs (List.replicate k (markS N)) ++ [Value.string (markS N)]) = strs (X i ++ List.replicate (k + 1) (markS N)) := by
              rw [strs_append, List.replicate_succ', strs_append]; rfl
            rw [strs_append, List.append_assoc, e] at hown3
            have hv := short_after (z3.alloc (Obj.cells #[Value.string (markS N)] 9)) (z2.alloc (Obj.cells #[Value.string (markS N)] 9)) (by rw [strs_append]; exact List.prefix_append _ _) (by rw [strs_append, strs_append, List.replicate_succ', strs_append, ← List.append_assoc]; exact List.prefix_append _ _) hown3 (by omega) hcase
            refine ⟨?_, hown3, hv, ?_⟩
            · rcases hcase with ⟨h1, h2⟩ | ⟨h1, h2⟩
              · refine grown_more ha h2 ?_
                rcases z4 with h | ⟨c, h, hc⟩
                · rw [h1] at h; exact .inl h
                · rw [h1] at h; right; simp [Value.ownBlock] at h; omega
              · exact World.grownBy.trans ha (grown_of_below h2 _)
            · rcases hcase with ⟨h1, h2⟩ | ⟨h1, h2⟩
              · rcases z4 with h | ⟨c, h, hc⟩
                · rw [h1] at h; exact .inl h
                · rw [h1] at h; exact .inr ⟨c, h, hc⟩
              · right
                refine ⟨g3, rfl, ?_⟩
                have := z1.size
                rw [h1]; simp; omega)
          clear hown3 hcase hi3 q0 q2 hb1
          go_wp2
          go_roundw
          case rel => exact ⟨k + 1, by omega, by go_num, hN1⟩
          case measure => simp [intOf]; omega
        · obtain rfl : k = 40 := by omega
          obtain ⟨gu, cu, hu, _, _⟩ := hi3.out.2.1.form (by omega)
          injection hu with hu _ hu2
          subst hu hu2
          have hg1 : Hid (wo.grownBy wr (L.getD i zH).v.ownBlock) := Lib.hid (by rw [HV2.out]; exact World.grownBy.trans (hg0.out.weak _) hi3.out.1)
          have hlow : Hid (∀ b, (L.getD i zH).v.ownBlock = some b → b < Bk) := Lib.hid (HA.out.low i hlt)
          have hb2 : Hid (Book Bk (.slice (some ⟨g, 0, none⟩) L'.length cap) m L' wr) := Lib.hid (book_keeps hr.out.book hg1.out hlow.out)
          have hinv : Hid (GrowInv B0 Bk m (.slice (some ⟨g, 0, none⟩) L'.length cap) L X w i L' wr) := Lib.hid ⟨HLEN.out, hr.out.same, hr.out.rest, hb2.out,
            rows_of_one (X' := X) HA.out hr.out.rows i hlt hg1.out (by rw [HV2.out]; exact hi3.out.2.2.1) (fun _ _ => rfl),
            fun j hj => long_keeps HA.out (by omega) hlt (by omega) (hr.out.longs j hj) hg1.out,
            hr.out.low.grown hg1.out (by omega) (fun b h => own_base (hr.out.rows i hlt) b h)⟩
          have hlong : Hid (LongOK B0 Bk L X (.slice (some ⟨gu, 0, none⟩) ((X i).length + 40) uc) i wr) := Lib.hid ⟨by rw [HN.out]; exact hi3.out.2.1, by
            rcases hi3.out.2.2.2 with h | ⟨c, h, hc⟩
            · left; rw [HV2.out]; exact h
            · right; exact ⟨c, h, by have := hg0.out.size; omega⟩⟩
          have hfin := Lib.hid (grow_store HA.out hlt hinv.out hlong.out h0)
          have c3 : wr.cell? ⟨Bk, 3, none⟩ = some (.slice (some ⟨g, 0, none⟩) L'.length cap) := blk_cell' hb2.out.at_ 3
          obtain ⟨_, e1, _⟩ := book_entry hb2.out i hllt
          have f1 : wr.frozen? ⟨g, i * 3 + 1, none⟩ = false := hb2.out.own.frozenAt _
          clear q0 q2 hb1
          go_wp2
          go_roundw
          case rel => exact ⟨i + 1, by omega, by go_num, Lib.hid ⟨_, hfin.out⟩⟩
          case measure => simp [intOf]; omega
    · obtain rfl : i = L.length := by omega
      obtain ⟨aT, cT, hT⟩ := own_slice hr.out.book.own
      subst hT
      go_wp2
      go_end0
      exact ⟨rfl, L', hr.out⟩
end Go.Proofs.YtlicjpbmlmongaaGreatDoor.H

end
section
/- The book of lists: all marks stand where they were written. -/
set_option linter.unusedVariables false
set_option linter.unusedSimpArgs false
namespace Go.Proofs.YtlicjpbmlmongaaGreatDoor.H
open Go.RowKit Go.Proofs.YtlicjpbmlmongaaGreatDoorW.PrintWords Go.Proofs

theorem isText_same (n : Nat) (h : n < 100) (w : World) : Calls Tryz.prog 112 #[.string (markS n), .int .i64 n] w fun e w' => e = .returned (.bool true) ∧ w' = w := (isText_calls n h w).mono fun e w' ⟨a, b⟩ => ⟨a, b.symm⟩
def LookOK (B0 : Nat) (h : Held) (w : World) : Prop := ∃ n : Nat, n ≤ 8796093022000 ∧ h.n < 100 ∧ w.ownsRow B0 9 1 h.v n (strs (List.replicate n (markS h.n))) ∧ w.ownsRow B0 9 1 h.long (n + 40) (strs (List.replicate (n + 40) (markS h.n)))
theorem rep_at (n k : Nat) (m : ByteArray) (h : k < n) : (strs (List.replicate n m))[k]? = some (.string m) := by simp [strs, h]
theorem book_below {Bk m : Nat} {T : Value} {L : List Held} {W W1 : World} (h : Book Bk T m L W) (hb : Below W.heap.size W W1) : Book Bk T m L W1 := ⟨(hb.block _ (blk_lt h.at_)).trans h.at_, pw_own_below h.own hb⟩

set_option maxHeartbeats 4000000 in
set_option maxRecDepth 100000 in
theorem lookText_calls (B0 Bk : Nat) (T : Value) (m : Nat) (L : List Held) (w : World) (hB : Book Bk T m L w) (hL : L.length ≤ 1000) (hK : ∀ i, i < L.length → LookOK B0 (L.getD i zH) w) :
    Calls Tryz.prog 62 #[.pointer (some ⟨Bk, 0, none⟩)] w fun e w' => e = .returned (.bool true) ∧ Below w.heap.size w w' := by
  have HB := Lib.hid hB
  have HK := Lib.hid hK
  clear hB hK
  go_enter Tryz.func62, Tryz.ntmps62
  go_wp2
  go_loopw [3] (fun i wr => ∃ k : Nat, k ≤ L.length ∧ i = .int .i64 k ∧ Hid (Below w.heap.size w wr)) (fun i _ => L.length - (intOf i).toNat)
  case atStart => exact ⟨0, Nat.zero_le _, rfl, Lib.hid (Below.refl _ _)⟩
  case round =>
    obtain ⟨i, hi, rfl, hr⟩ := hrel
    have hbk := Lib.hid (book_below HB.out hr.out)
    have c3 : wr.cell? ⟨Bk, 3, none⟩ = some T := blk_cell' hbk.out.at_ 3
    by_cases hlt : i < L.length
    · obtain ⟨g, cap, rfl, hgb, hgl⟩ := HB.out.own.form (by omega)
      obtain ⟨e0, e1, e2⟩ := book_entry hbk.out i hlt
      obtain ⟨n, hn, hN, ho1, ho2⟩ := HK.out i hlt
      obtain ⟨a1, c1, h1⟩ := own_slice ho1
      obtain ⟨a2, c2, h2⟩ := own_slice ho2
      obtain ⟨V, hV⟩ : ∃ V, L.getD i zH = V := ⟨_, rfl⟩
      rw [hV] at e0 e1 e2 ho1 ho2 h1 h2 hN
      obtain ⟨v, lg, N⟩ := V
      simp only at e0 e1 e2 ho1 ho2 h1 h2 hN
      subst h1 h2
      have HO1 := Lib.hid (pw_own_below ho1 hr.out)
      have HO2 := Lib.hid (pw_own_below ho2 hr.out)
      clear hV ho1 ho2
      go_wp2
      obtain ⟨W0, hW0⟩ : ∃ W0, wr.alloc (Obj.cells #[Value.slice a1 n c1, Value.slice a2 (n + 40) c2, Value.int IntKind.i64 (N : Int)] 106) = W0 := ⟨_, rfl⟩
      have HBLK : Hid (W0.heap[wr.heap.size]? = some (.cells #[Value.slice a1 n c1, Value.slice a2 (n + 40) c2, Value.int IntKind.i64 (N : Int)] 106 (0, 0))) := Lib.hid (by rw [← hW0]; exact World.alloc_heap_new wr _)
      have hb0 : Hid (Below wr.heap.size wr W0) := Lib.hid (by rw [← hW0]; exact bal (Below.refl _ _) _)
      rw [hW0]
      clear hW0 c3 e0 e1 e2
      obtain ⟨wo, rfl⟩ : ∃ wo : World, wo = wr := ⟨_, rfl⟩
      go_loopw [5] (fun kv wi => ∃ k : Nat, k ≤ n + 40 ∧ kv = .int .i64 k ∧ Hid (Below W0.heap.size W0 wi)) (fun kv _ => n + 40 - (intOf kv).toNat)
      case atStart => exact ⟨0, Nat.zero_le _, rfl, Lib.hid (Below.refl _ _)⟩
      case round =>
        obtain ⟨k, hk, rfl, hi3⟩ := hrel
        have hb1 := (hi3.out.block _ (blk_lt HBLK.out)).trans HBLK.out
        have q0 := blk_cell' hb1 0
        have q1 := blk_cell' hb1 1
        have q2 := blk_cell' hb1 2
        simp only [List.getElem?_toArray, List.getElem?_cons_zero, List.getElem?_cons_succ] at q0 q1 q2
        have hbw := bth hb0.out hi3.out
        by_cases hkl : k < n + 40
        · obtain ⟨g2, cap2, hv2, _, _⟩ := HO2.out.form (by omega)
          injection hv2 with hv2 _ hv3
          subst hv2 hv3
          have y2 : wr.cell? ⟨g2, k, none⟩ = some (.string (markS N)) := pw_cell_below hbw ((HO2.out.cellAt k (by omega)).trans (rep_at _ _ _ hkl))
          by_cases hkn : k < n
          · obtain ⟨g1, cap1, hv1, _, _⟩ := HO1.out.form (by omega)
            injection hv1 with hv1 _ hv3
            subst hv1 hv3
            have y1 : wr.cell? ⟨g1, k, none⟩ = some (.string (markS N)) := pw_cell_below hbw ((HO1.out.cellAt k (by omega)).trans (rep_at _ _ _ hkn))
            go_wp2
            go_quiet ((go_at_call 112; exact Calls.quiet_of_same (isText_same N hN _)))
            go_wp2
            go_roundw
            case rel => exact ⟨k + 1, by omega, by go_num, Lib.hid (bdn hi3.out _)⟩
            case measure => simp [intOf]; omega
          · have hd1 : decide (k < n) = false := by simpa using hkn
            have hd2 : decide ((k : Int) < (n : Int)) = false := by simpa using hkn
            go_wp2
            go_quiet ((go_at_call 112; exact Calls.quiet_of_same (isText_same N hN _)))
            go_wp2
            go_roundw
            case rel => exact ⟨k + 1, by omega, by go_num, Lib.hid (bdn hi3.out _)⟩
            case measure => simp [intOf]; omega
        · obtain rfl : k = n + 40 := by omega
          go_wp2
          go_roundw
          case rel => exact ⟨i + 1, by omega, by go_num, Lib.hid (bth (bth hr.out hb0.out) hi3.out)⟩
          case measure => simp [intOf]; omega
    · obtain rfl : i = L.length := by omega
      obtain ⟨aT, cT, hT⟩ := own_slice HB.out.own
      subst hT
      go_wp2
      go_ret
      exact ⟨rfl, hr.out⟩
end Go.Proofs.YtlicjpbmlmongaaGreatDoor.H

end
section
/- The book of lists: Apart tells true of lists of texts that lie apart. -/
set_option linter.unusedVariables false
set_option linter.unusedSimpArgs false
namespace Go.Proofs.YtlicjpbmlmongaaGreatDoor.H
open Go.RowKit Go.Proofs.YtlicjpbmlmongaaGreatDoorW.PrintWords Go.Proofs

set_option maxHeartbeats 1000000 in
theorem fillByte_none (Bk : Nat) (T : Value) (m : Nat) (L : List Held) (w : World) (h : Book Bk T m L w) :
    Calls Tryz.prog 36 #[.pointer (some ⟨Bk, 0, none⟩)] w fun e w' => e = .returned (.tuple #[]) ∧ w = w' := by
  have c0 : w.cell? ⟨Bk, 1, none⟩ = some (.slice none 0 0) := blk_cell' h.at_ 1
  clear h
  go_enter Tryz.func36, Tryz.ntmps36
  go_wp2
  go_loopw [2] (fun i wr => i = .int .i64 0 ∧ w = wr) (fun _ _ => 0)
  case atStart => exact ⟨rfl, rfl⟩
  case round =>
    obtain ⟨rfl, rfl⟩ := hrel
    go_wp2
    go_end0
    exact ⟨rfl, rfl⟩
set_option maxHeartbeats 1000000 in
theorem growByte_none (Bk : Nat) (T : Value) (m : Nat) (L : List Held) (w : World) (h : Book Bk T m L w) :
    Calls Tryz.prog 48 #[.pointer (some ⟨Bk, 0, none⟩)] w fun e w' => e = .returned (.tuple #[]) ∧ w = w' := by
  have c0 : w.cell? ⟨Bk, 1, none⟩ = some (.slice none 0 0) := blk_cell' h.at_ 1
  clear h
  go_enter Tryz.func48, Tryz.ntmps48
  go_wp2
  go_loopw [2] (fun i wr => i = .int .i64 0 ∧ w = wr) (fun _ _ => 0)
  case atStart => exact ⟨rfl, rfl⟩
  case round =>
    obtain ⟨rfl, rfl⟩ := hrel
    go_wp2
    go_end0
    exact ⟨rfl, rfl⟩
set_option maxHeartbeats 1000000 in
theorem lookByte_none (Bk : Nat) (T : Value) (m : Nat) (L : List Held) (w : World) (h : Book Bk T m L w) :
    Calls Tryz.prog 60 #[.pointer (some ⟨Bk, 0, none⟩)] w fun e w' => e = .returned (.bool true) ∧ w = w' := by
  have c0 : w.cell? ⟨Bk, 1, none⟩ = some (.slice none 0 0) := blk_cell' h.at_ 1
  clear h
  go_enter Tryz.func60, Tryz.ntmps60
  go_wp2
  go_loopw [3] (fun i wr => i = .int .i64 0 ∧ w = wr) (fun _ _ => 0)
  case atStart => exact ⟨rfl, rfl⟩
  case round =>
    obtain ⟨rfl, rfl⟩ := hrel
    go_wp2
    go_ret
    exact ⟨rfl, rfl⟩
set_option maxHeartbeats 1000000 in
theorem fillInt_none (Bk : Nat) (T : Value) (m : Nat) (L : List Held) (w : World) (h : Book Bk T m L w) :
    Calls Tryz.prog 37 #[.pointer (some ⟨Bk, 0, none⟩)] w fun e w' => e = .returned (.tuple #[]) ∧ w = w' := by
  have c0 : w.cell? ⟨Bk, 2, none⟩ = some (.slice none 0 0) := blk_cell' h.at_ 2
  clear h
  go_enter Tryz.func37, Tryz.ntmps37
  go_wp2
  go_loopw [2] (fun i wr => i = .int .i64 0 ∧ w = wr) (fun _ _ => 0)
  case atStart => exact ⟨rfl, rfl⟩
  case round =>
    obtain ⟨rfl, rfl⟩ := hrel
    go_wp2
    go_end0
    exact ⟨rfl, rfl⟩
set_option maxHeartbeats 1000000 in
theorem growInt_none (Bk : Nat) (T : Value) (m : Nat) (L : List Held) (w : World) (h : Book Bk T m L w) :
    Calls Tryz.prog 49 #[.pointer (some ⟨Bk, 0, none⟩)] w fun e w' => e = .returned (.tuple #[]) ∧ w = w' := by
  have c0 : w.cell? ⟨Bk, 2, none⟩ = some (.slice none 0 0) := blk_cell' h.at_ 2
  clear h
  go_enter Tryz.func49, Tryz.ntmps49
  go_wp2
  go_loopw [2] (fun i wr => i = .int .i64 0 ∧ w = wr) (fun _ _ => 0)
  case atStart => exact ⟨rfl, rfl⟩
  case round =>
    obtain ⟨rfl, rfl⟩ := hrel
    go_wp2
    go_end0
    exact ⟨rfl, rfl⟩
set_option maxHeartbeats 1000000 in
theorem lookInt_none (Bk : Nat) (T : Value) (m : Nat) (L : List Held) (w : World) (h : Book Bk T m L w) :
    Calls Tryz.prog 61 #[.pointer (some ⟨Bk, 0, none⟩)] w fun e w' => e = .returned (.bool true) ∧ w = w' := by
  have c0 : w.cell? ⟨Bk, 2, none⟩ = some (.slice none 0 0) := blk_cell' h.at_ 2
  clear h
  go_enter Tryz.func61, Tryz.ntmps61
  go_wp2
  go_loopw [3] (fun i wr => i = .int .i64 0 ∧ w = wr) (fun _ _ => 0)
  case atStart => exact ⟨rfl, rfl⟩
  case round =>
    obtain ⟨rfl, rfl⟩ := hrel
    go_wp2
    go_ret
    exact ⟨rfl, rfl⟩
set_option maxHeartbeats 1000000 in
theorem fillBlob_none (Bk : Nat) (T : Value) (m : Nat) (L : List Held) (w : World) (h : Book Bk T m L w) :
    Calls Tryz.prog 39 #[.pointer (some ⟨Bk, 0, none⟩)] w fun e w' => e = .returned (.tuple #[]) ∧ w = w' := by
  have c0 : w.cell? ⟨Bk, 4, none⟩ = some (.slice none 0 0) := blk_cell' h.at_ 4
  clear h
  go_enter Tryz.func39, Tryz.ntmps39
  go_wp2
  go_loopw [2] (fun i wr => i = .int .i64 0 ∧ w = wr) (fun _ _ => 0)
  case atStart => exact ⟨rfl, rfl⟩
  case round =>
    obtain ⟨rfl, rfl⟩ := hrel
    go_wp2
    go_end0
    exact ⟨rfl, rfl⟩
set_option maxHeartbeats 1000000 in
theorem growBlob_none (Bk : Nat) (T : Value) (m : Nat) (L : List Held) (w : World) (h : Book Bk T m L w) :
    Calls Tryz.prog 51 #[.pointer (some ⟨Bk, 0, none⟩)] w fun e w' => e = .returned (.tuple #[]) ∧ w = w' := by
  have c0 : w.cell? ⟨Bk, 4, none⟩ = some (.slice none 0 0) := blk_cell' h.at_ 4
  clear h
  go_enter Tryz.func51, Tryz.ntmps51
  go_wp2
  go_loopw [2] (fun i wr => i = .int .i64 0 ∧ w = wr) (fun _ _ => 0)
  case atStart => exact ⟨rfl, rfl⟩
  case round =>
    obtain ⟨rfl, rfl⟩ := hrel
    go_wp2
    go_end0
    exact ⟨rfl, rfl⟩
set_option maxHeartbeats 1000000 in
theorem lookBlob_none (Bk : Nat) (T : Value) (m : Nat) (L : List Held) (w : World) (h : Book Bk T m L w) :
    Calls Tryz.prog 63 #[.pointer (some ⟨Bk, 0, none⟩)] w fun e w' => e = .returned (.bool true) ∧ w = w' := by
  have c0 : w.cell? ⟨Bk, 4, none⟩ = some (.slice none 0 0) := blk_cell' h.at_ 4
  clear h
  go_enter Tryz.func63, Tryz.ntmps63
  go_wp2
  go_loopw [3] (fun i wr => i = .int .i64 0 ∧ w = wr) (fun _ _ => 0)
  case atStart => exact ⟨rfl, rfl⟩
  case round =>
    obtain ⟨rfl, rfl⟩ := hrel
    go_wp2
    go_ret
    exact ⟨rfl, rfl⟩
set_option maxHeartbeats 1000000 in
theorem fillRow_none (Bk : Nat) (T : Value) (m : Nat) (L : List Held) (w : World) (h : Book Bk T m L w) :
    Calls Tryz.prog 40 #[.pointer (some ⟨Bk, 0, none⟩)] w fun e w' => e = .returned (.tuple #[]) ∧ w = w' := by
  have c0 : w.cell? ⟨Bk, 5, none⟩ = some (.slice none 0 0) := blk_cell' h.at_ 5
  clear h
  go_enter Tryz.func40, Tryz.ntmps40
  go_wp2
  go_loopw [2] (fun i wr => i = .int .i64 0 ∧ w = wr) (fun _ _ => 0)
  case atStart => exact ⟨rfl, rfl⟩
  case round =>
    obtain ⟨rfl, rfl⟩ := hrel
    go_wp2
    go_end0
    exact ⟨rfl, rfl⟩
set_option maxHeartbeats 1000000 in
theorem growRow_none (Bk : Nat) (T : Value) (m : Nat) (L : List Held) (w : World) (h : Book Bk T m L w) :
    Calls Tryz.prog 52 #[.pointer (some ⟨Bk, 0, none⟩)] w fun e w' => e = .returned (.tuple #[]) ∧ w = w' := by
  have c0 : w.cell? ⟨Bk, 5, none⟩ = some (.slice none 0 0) := blk_cell' h.at_ 5
  clear h
  go_enter Tryz.func52, Tryz.ntmps52
  go_wp2
  go_loopw [2] (fun i wr => i = .int .i64 0 ∧ w = wr) (fun _ _ => 0)
  case atStart => exact ⟨rfl, rfl⟩
  case round =>
    obtain ⟨rfl, rfl⟩ := hrel
    go_wp2
    go_end0
    exact ⟨rfl, rfl⟩
set_option maxHeartbeats 1000000 in
theorem lookRow_none (Bk : Nat) (T : Value) (m : Nat) (L : List Held) (w : World) (h : Book Bk T m L w) :
    Calls Tryz.prog 64 #[.pointer (some ⟨Bk, 0, none⟩)] w fun e w' => e = .returned (.bool true) ∧ w = w' := by
  have c0 : w.cell? ⟨Bk, 5, none⟩ = some (.slice none 0 0) := blk_cell' h.at_ 5
  clear h
  go_enter Tryz.func64, Tryz.ntmps64
  go_wp2
  go_loopw [3] (fun i wr => i = .int .i64 0 ∧ w = wr) (fun _ _ => 0)
  case atStart => exact ⟨rfl, rfl⟩
  case round =>
    obtain ⟨rfl, rfl⟩ := hrel
    go_wp2
    go_ret
    exact ⟨rfl, rfl⟩
set_option maxHeartbeats 1000000 in
theorem fillFlag_none (Bk : Nat) (T : Value) (m : Nat) (L : List Held) (w : World) (h : Book Bk T m L w) :
    Calls Tryz.prog 41 #[.pointer (some ⟨Bk, 0, none⟩)] w fun e w' => e = .returned (.tuple #[]) ∧ w = w' := by
  have c0 : w.cell? ⟨Bk, 6, none⟩ = some (.slice none 0 0) := blk_cell' h.at_ 6
  clear h
  go_enter Tryz.func41, Tryz.ntmps41
  go_wp2
  go_loopw [2] (fun i wr => i = .int .i64 0 ∧ w = wr) (fun _ _ => 0)
  case atStart => exact ⟨rfl, rfl⟩
  case round =>
    obtain ⟨rfl, rfl⟩ := hrel
    go_wp2
    go_end0
    exact ⟨rfl, rfl⟩
set_option maxHeartbeats 1000000 in
theorem growFlag_none (Bk : Nat) (T : Value) (m : Nat) (L : List Held) (w : World) (h : Book Bk T m L w) :
    Calls Tryz.prog 53 #[.pointer (some ⟨Bk, 0, none⟩)] w fun e w' => e = .returned (.tuple #[]) ∧ w = w' := by
  have c0 : w.cell? ⟨Bk, 6, none⟩ = some (.slice none 0 0) := blk_cell' h.at_ 6
  clear h
  go_enter Tryz.func53, Tryz.ntmps53
  go_wp2
  go_loopw [2] (fun i wr => i = .int .i64 0 ∧ w = wr) (fun _ _ => 0)
  case atStart => exact ⟨rfl, rfl⟩
  case round =>
    obtain ⟨rfl, rfl⟩ := hrel
    go_wp2
    go_end0
    exact ⟨rfl, rfl⟩
set_option maxHeartbeats 1000000 in
theorem lookFlag_none (Bk : Nat) (T : Value) (m : Nat) (L : List Held) (w : World) (h : Book Bk T m L w) :
    Calls Tryz.prog 65 #[.pointer (some ⟨Bk, 0, none⟩)] w fun e w' => e = .returned (.bool true) ∧ w = w' := by
  have c0 : w.cell? ⟨Bk, 6, none⟩ = some (.slice none 0 0) := blk_cell' h.at_ 6
  clear h
  go_enter Tryz.func65, Tryz.ntmps65
  go_wp2
  go_loopw [3] (fun i wr => i = .int .i64 0 ∧ w = wr) (fun _ _ => 0)
  case atStart => exact ⟨rfl, rfl⟩
  case round =>
    obtain ⟨rfl, rfl⟩ := hrel
    go_wp2
    go_ret
    exact ⟨rfl, rfl⟩
set_option maxHeartbeats 1000000 in
theorem fillRange_none (Bk : Nat) (T : Value) (m : Nat) (L : List Held) (w : World) (h : Book Bk T m L w) :
    Calls Tryz.prog 42 #[.pointer (some ⟨Bk, 0, none⟩)] w fun e w' => e = .returned (.tuple #[]) ∧ w = w' := by
  have c0 : w.cell? ⟨Bk, 7, none⟩ = some (.slice none 0 0) := blk_cell' h.at_ 7
  clear h
  go_enter Tryz.func42, Tryz.ntmps42
  go_wp2
  go_loopw [2] (fun i wr => i = .int .i64 0 ∧ w = wr) (fun _ _ => 0)
  case atStart => exact ⟨rfl, rfl⟩
  case round =>
    obtain ⟨rfl, rfl⟩ := hrel
    go_wp2
    go_end0
    exact ⟨rfl, rfl⟩
set_option maxHeartbeats 1000000 in
theorem growRange_none (Bk : Nat) (T : Value) (m : Nat) (L : List Held) (w : World) (h : Book Bk T m L w) :
    Calls Tryz.prog 54 #[.pointer (some ⟨Bk, 0, none⟩)] w fun e w' => e = .returned (.tuple #[]) ∧ w = w' := by
  have c0 : w.cell? ⟨Bk, 7, none⟩ = some (.slice none 0 0) := blk_cell' h.at_ 7
  clear h
  go_enter Tryz.func54, Tryz.ntmps54
  go_wp2
  go_loopw [2] (fun i wr => i = .int .i64 0 ∧ w = wr) (fun _ _ => 0)
  case atStart => exact ⟨rfl, rfl⟩
  case round =>
    obtain ⟨rfl, rfl⟩ := hrel
    go_wp2
    go_end0
    exact ⟨rfl, rfl⟩
set_option maxHeartbeats 1000000 in
theorem lookRange_none (Bk : Nat) (T : Value) (m : Nat) (L : List Held) (w : World) (h : Book Bk T m L w) :
    Calls Tryz.prog 66 #[.pointer (some ⟨Bk, 0, none⟩)] w fun e w' => e = .returned (.bool true) ∧ w = w' := by
  have c0 : w.cell? ⟨Bk, 7, none⟩ = some (.slice none 0 0) := blk_cell' h.at_ 7
  clear h
  go_enter Tryz.func66, Tryz.ntmps66
  go_wp2
  go_loopw [3] (fun i wr => i = .int .i64 0 ∧ w = wr) (fun _ _ => 0)
  case atStart => exact ⟨rfl, rfl⟩
  case round =>
    obtain ⟨rfl, rfl⟩ := hrel
    go_wp2
    go_ret
    exact ⟨rfl, rfl⟩
set_option maxHeartbeats 1000000 in
theorem fillChange_none (Bk : Nat) (T : Value) (m : Nat) (L : List Held) (w : World) (h : Book Bk T m L w) :
    Calls Tryz.prog 43 #[.pointer (some ⟨Bk, 0, none⟩)] w fun e w' => e = .returned (.tuple #[]) ∧ w = w' := by
  have c0 : w.cell? ⟨Bk, 8, none⟩ = some (.slice none 0 0) := blk_cell' h.at_ 8
  clear h
  go_enter Tryz.func43, Tryz.ntmps43
  go_wp2
  go_loopw [2] (fun i wr => i = .int .i64 0 ∧ w = wr) (fun _ _ => 0)
  case atStart => exact ⟨rfl, rfl⟩
  case round =>
    obtain ⟨rfl, rfl⟩ := hrel
    go_wp2
    go_end0
    exact ⟨rfl, rfl⟩
set_option maxHeartbeats 1000000 in
theorem growChange_none (Bk : Nat) (T : Value) (m : Nat) (L : List Held) (w : World) (h : Book Bk T m L w) :
    Calls Tryz.prog 55 #[.pointer (some ⟨Bk, 0, none⟩)] w fun e w' => e = .returned (.tuple #[]) ∧ w = w' := by
  have c0 : w.cell? ⟨Bk, 8, none⟩ = some (.slice none 0 0) := blk_cell' h.at_ 8
  clear h
  go_enter Tryz.func55, Tryz.ntmps55
  go_wp2
  go_loopw [2] (fun i wr => i = .int .i64 0 ∧ w = wr) (fun _ _ => 0)
  case atStart => exact ⟨rfl, rfl⟩
  case round =>
    obtain ⟨rfl, rfl⟩ := hrel
    go_wp2
    go_end0
    exact ⟨rfl, rfl⟩
set_option maxHeartbeats 1000000 in
theorem lookChange_none (Bk : Nat) (T : Value) (m : Nat) (L : List Held) (w : World) (h : Book Bk T m L w) :
    Calls Tryz.prog 67 #[.pointer (some ⟨Bk, 0, none⟩)] w fun e w' => e = .returned (.bool true) ∧ w = w' := by
  have c0 : w.cell? ⟨Bk, 8, none⟩ = some (.slice none 0 0) := blk_cell' h.at_ 8
  clear h
  go_enter Tryz.func67, Tryz.ntmps67
  go_wp2
  go_loopw [3] (fun i wr => i = .int .i64 0 ∧ w = wr) (fun _ _ => 0)
  case atStart => exact ⟨rfl, rfl⟩
  case round =>
    obtain ⟨rfl, rfl⟩ := hrel
    go_wp2
    go_ret
    exact ⟨rfl, rfl⟩
set_option maxHeartbeats 1000000 in
theorem fillEntry_none (Bk : Nat) (T : Value) (m : Nat) (L : List Held) (w : World) (h : Book Bk T m L w) :
    Calls Tryz.prog 44 #[.pointer (some ⟨Bk, 0, none⟩)] w fun e w' => e = .returned (.tuple #[]) ∧ w = w' := by
  have c0 : w.cell? ⟨Bk, 9, none⟩ = some (.slice none 0 0) := blk_cell' h.at_ 9
  clear h
  go_enter Tryz.func44, Tryz.ntmps44
  go_wp2
  go_loopw [2] (fun i wr => i = .int .i64 0 ∧ w = wr) (fun _ _ => 0)
  case atStart => exact ⟨rfl, rfl⟩
  case round =>
    obtain ⟨rfl, rfl⟩ := hrel
    go_wp2
    go_end0
    exact ⟨rfl, rfl⟩
set_option maxHeartbeats 1000000 in
theorem growEntry_none (Bk : Nat) (T : Value) (m : Nat) (L : List Held) (w : World) (h : Book Bk T m L w) :
    Calls Tryz.prog 56 #[.pointer (some ⟨Bk, 0, none⟩)] w fun e w' => e = .returned (.tuple #[]) ∧ w = w' := by
  have c0 : w.cell? ⟨Bk, 9, none⟩ = some (.slice none 0 0) := blk_cell' h.at_ 9
  clear h
  go_enter Tryz.func56, Tryz.ntmps56
  go_wp2
  go_loopw [2] (fun i wr => i = .int .i64 0 ∧ w = wr) (fun _ _ => 0)
  case atStart => exact ⟨rfl, rfl⟩
  case round =>
    obtain ⟨rfl, rfl⟩ := hrel
    go_wp2
    go_end0
    exact ⟨rfl, rfl⟩
set_option maxHeartbeats 1000000 in
theorem lookEntry_none (Bk : Nat) (T : Value) (m : Nat) (L : List Held) (w : World) (h : Book Bk T m L w) :
    Calls Tryz.prog 68 #[.pointer (some ⟨Bk, 0, none⟩)] w fun e w' => e = .returned (.bool true) ∧ w = w' := by
  have c0 : w.cell? ⟨Bk, 9, none⟩ = some (.slice none 0 0) := blk_cell' h.at_ 9
  clear h
  go_enter Tryz.func68, Tryz.ntmps68
  go_wp2
  go_loopw [3] (fun i wr => i = .int .i64 0 ∧ w = wr) (fun _ _ => 0)
  case atStart => exact ⟨rfl, rfl⟩
  case round =>
    obtain ⟨rfl, rfl⟩ := hrel
    go_wp2
    go_ret
    exact ⟨rfl, rfl⟩
set_option maxHeartbeats 1000000 in
theorem fillNode_none (Bk : Nat) (T : Value) (m : Nat) (L : List Held) (w : World) (h : Book Bk T m L w) :
    Calls Tryz.prog 45 #[.pointer (some ⟨Bk, 0, none⟩)] w fun e w' => e = .returned (.tuple #[]) ∧ w = w' := by
  have c0 : w.cell? ⟨Bk, 10, none⟩ = some (.slice none 0 0) := blk_cell' h.at_ 10
  clear h
  go_enter Tryz.func45, Tryz.ntmps45
  go_wp2
  go_loopw [2] (fun i wr => i = .int .i64 0 ∧ w = wr) (fun _ _ => 0)
  case atStart => exact ⟨rfl, rfl⟩
  case round =>
    obtain ⟨rfl, rfl⟩ := hrel
    go_wp2
    go_end0
    exact ⟨rfl, rfl⟩
set_option maxHeartbeats 1000000 in
theorem growNode_none (Bk : Nat) (T : Value) (m : Nat) (L : List Held) (w : World) (h : Book Bk T m L w) :
    Calls Tryz.prog 57 #[.pointer (some ⟨Bk, 0, none⟩)] w fun e w' => e = .returned (.tuple #[]) ∧ w = w' := by
  have c0 : w.cell? ⟨Bk, 10, none⟩ = some (.slice none 0 0) := blk_cell' h.at_ 10
  clear h
  go_enter Tryz.func57, Tryz.ntmps57
  go_wp2
  go_loopw [2] (fun i wr => i = .int .i64 0 ∧ w = wr) (fun _ _ => 0)
  case atStart => exact ⟨rfl, rfl⟩
  case round =>
    obtain ⟨rfl, rfl⟩ := hrel
    go_wp2
    go_end0
    exact ⟨rfl, rfl⟩
set_option maxHeartbeats 1000000 in
theorem lookNode_none (Bk : Nat) (T : Value) (m : Nat) (L : List Held) (w : World) (h : Book Bk T m L w) :
    Calls Tryz.prog 69 #[.pointer (some ⟨Bk, 0, none⟩)] w fun e w' => e = .returned (.bool true) ∧ w = w' := by
  have c0 : w.cell? ⟨Bk, 10, none⟩ = some (.slice none 0 0) := blk_cell' h.at_ 10
  clear h
  go_enter Tryz.func69, Tryz.ntmps69
  go_wp2
  go_loopw [3] (fun i wr => i = .int .i64 0 ∧ w = wr) (fun _ _ => 0)
  case atStart => exact ⟨rfl, rfl⟩
  case round =>
    obtain ⟨rfl, rfl⟩ := hrel
    go_wp2
    go_ret
    exact ⟨rfl, rfl⟩
set_option maxHeartbeats 1000000 in
theorem fillCall_none (Bk : Nat) (T : Value) (m : Nat) (L : List Held) (w : World) (h : Book Bk T m L w) :
    Calls Tryz.prog 46 #[.pointer (some ⟨Bk, 0, none⟩)] w fun e w' => e = .returned (.tuple #[]) ∧ w = w' := by
  have c0 : w.cell? ⟨Bk, 11, none⟩ = some (.slice none 0 0) := blk_cell' h.at_ 11
  clear h
  go_enter Tryz.func46, Tryz.ntmps46
  go_wp2
  go_loopw [2] (fun i wr => i = .int .i64 0 ∧ w = wr) (fun _ _ => 0)
  case atStart => exact ⟨rfl, rfl⟩
  case round =>
    obtain ⟨rfl, rfl⟩ := hrel
    go_wp2
    go_end0
    exact ⟨rfl, rfl⟩
set_option maxHeartbeats 1000000 in
theorem growCall_none (Bk : Nat) (T : Value) (m : Nat) (L : List Held) (w : World) (h : Book Bk T m L w) :
    Calls Tryz.prog 58 #[.pointer (some ⟨Bk, 0, none⟩)] w fun e w' => e = .returned (.tuple #[]) ∧ w = w' := by
  have c0 : w.cell? ⟨Bk, 11, none⟩ = some (.slice none 0 0) := blk_cell' h.at_ 11
  clear h
  go_enter Tryz.func58, Tryz.ntmps58
  go_wp2
  go_loopw [2] (fun i wr => i = .int .i64 0 ∧ w = wr) (fun _ _ => 0)
  case atStart => exact ⟨rfl, rfl⟩
  case round =>
    obtain ⟨rfl, rfl⟩ := hrel
    go_wp2
    go_end0
    exact ⟨rfl, rfl⟩
set_option maxHeartbeats 1000000 in
theorem lookCall_none (Bk : Nat) (T : Value) (m : Nat) (L : List Held) (w : World) (h : Book Bk T m L w) :
    Calls Tryz.prog 70 #[.pointer (some ⟨Bk, 0, none⟩)] w fun e w' => e = .returned (.bool true) ∧ w = w' := by
  have c0 : w.cell? ⟨Bk, 11, none⟩ = some (.slice none 0 0) := blk_cell' h.at_ 11
  clear h
  go_enter Tryz.func70, Tryz.ntmps70
  go_wp2
  go_loopw [3] (fun i wr => i = .int .i64 0 ∧ w = wr) (fun _ _ => 0)
  case atStart => exact ⟨rfl, rfl⟩
  case round =>
    obtain ⟨rfl, rfl⟩ := hrel
    go_wp2
    go_ret
    exact ⟨rfl, rfl⟩
set_option maxHeartbeats 1000000 in
theorem fillStep_none (Bk : Nat) (T : Value) (m : Nat) (L : List Held) (w : World) (h : Book Bk T m L w) :
    Calls Tryz.prog 47 #[.pointer (some ⟨Bk, 0, none⟩)] w fun e w' => e = .returned (.tuple #[]) ∧ w = w' := by
  have c0 : w.cell? ⟨Bk, 12, none⟩ = some (.slice none 0 0) := blk_cell' h.at_ 12
  clear h
  go_enter Tryz.func47, Tryz.ntmps47
  go_wp2
  go_loopw [2] (fun i wr => i = .int .i64 0 ∧ w = wr) (fun _ _ => 0)
  case atStart => exact ⟨rfl, rfl⟩
  case round =>
    obtain ⟨rfl, rfl⟩ := hrel
    go_wp2
    go_end0
    exact ⟨rfl, rfl⟩
set_option maxHeartbeats 1000000 in
theorem growStep_none (Bk : Nat) (T : Value) (m : Nat) (L : List Held) (w : World) (h : Book Bk T m L w) :
    Calls Tryz.prog 59 #[.pointer (some ⟨Bk, 0, none⟩)] w fun e w' => e = .returned (.tuple #[]) ∧ w = w' := by
  have c0 : w.cell? ⟨Bk, 12, none⟩ = some (.slice none 0 0) := blk_cell' h.at_ 12
  clear h
  go_enter Tryz.func59, Tryz.ntmps59
  go_wp2
  go_loopw [2] (fun i wr => i = .int .i64 0 ∧ w = wr) (fun _ _ => 0)
  case atStart => exact ⟨rfl, rfl⟩
  case round =>
    obtain ⟨rfl, rfl⟩ := hrel
    go_wp2
    go_end0
    exact ⟨rfl, rfl⟩
set_option maxHeartbeats 1000000 in
theorem lookStep_none (Bk : Nat) (T : Value) (m : Nat) (L : List Held) (w : World) (h : Book Bk T m L w) :
    Calls Tryz.prog 71 #[.pointer (some ⟨Bk, 0, none⟩)] w fun e w' => e = .returned (.bool true) ∧ w = w' := by
  have c0 : w.cell? ⟨Bk, 12, none⟩ = some (.slice none 0 0) := blk_cell' h.at_ 12
  clear h
  go_enter Tryz.func71, Tryz.ntmps71
  go_wp2
  go_loopw [3] (fun i wr => i = .int .i64 0 ∧ w = wr) (fun _ _ => 0)
  case atStart => exact ⟨rfl, rfl⟩
  case round =>
    obtain ⟨rfl, rfl⟩ := hrel
    go_wp2
    go_ret
    exact ⟨rfl, rfl⟩
/-- Lists of texts, each in a block of its own below the book's: the book finds them apart. -/
structure Ready (B0 Bk m : Nat) (T : Value) (L : List Held) (X : Nat → List ByteArray) (w : World) : Prop where
  book : Book Bk T m L w
  few : L.length ≤ 1000
  apart : ApartL Bk L
  rows : RowsL B0 L X w
  base : B0 ≤ Bk
  short : ∀ j, j < L.length → (X j).length ≤ 8796093022000
theorem grow_ready {B0 Bk m : Nat} {T : Value} {L L' : List Held} {X : Nat → List ByteArray} {w w1 W : World} (h : Ready B0 Bk m T L X w) (hg : GrowInv B0 Bk m T L (marksTo L X L.length) w1 L.length L' W) : ∀ i, i < L'.length → LookOK B0 (L'.getD i zH) W := by
  intro i hi
  have hi' : i < L.length := by rw [← hg.len]; exact hi
  obtain ⟨s1, s2⟩ := hg.same i hi'
  have e : marksTo L X L.length i = List.replicate (X i).length (markS (L.getD i zH).n) := by unfold marksTo; rw [if_pos hi']
  have hr := hg.rows i hi'
  have hl := (hg.longs i hi').1
  rw [e, List.length_replicate] at hr hl
  refine ⟨(X i).length, h.short i hi', by rw [s2]; exact h.apart.num i hi', by rw [s1, s2]; exact hr, ?_⟩
  rw [s2, ← List.replicate_append_replicate]
  exact hl
set_option maxHeartbeats 4000000 in
set_option maxRecDepth 100000 in
theorem apart_calls (B0 Bk m : Nat) (T : Value) (L : List Held) (X : Nat → List ByteArray) (w : World) (h : Ready B0 Bk m T L X w) :
    Calls Tryz.prog 13 #[.pointer (some ⟨Bk, 0, none⟩)] w fun e w' => e = .returned (.bool true) ∧ Below B0 w w' := by
  have HB := Lib.hid h.book
  have H := Lib.hid h
  clear h
  go_enter Tryz.func13, Tryz.ntmps13
  go_wp2_with (first | (go_at_call 36; with_reducible refine (fillByte_none Bk T m L _ HB.out).mono ?_; rintro e w' ⟨rfl, rfl⟩) | (go_at_call 37; with_reducible refine (fillInt_none Bk T m L _ HB.out).mono ?_; rintro e w' ⟨rfl, rfl⟩) | (go_at_call 38; with_reducible refine (fillText_calls B0 Bk T m L X _ HB.out H.out.few H.out.apart H.out.rows H.out.base).mono ?_))
  rintro e w1 ⟨rfl, hB1, hR1, hb1⟩
  have HB1 := Lib.hid hB1
  have HR1 := Lib.hid hR1
  have Hb1 := Lib.hid hb1
  clear hB1 hR1 hb1
  go_wp2_with (first | (go_at_call 39; with_reducible refine (fillBlob_none Bk T m L _ HB1.out).mono ?_; rintro e w' ⟨rfl, rfl⟩) | (go_at_call 40; with_reducible refine (fillRow_none Bk T m L _ HB1.out).mono ?_; rintro e w' ⟨rfl, rfl⟩) | (go_at_call 41; with_reducible refine (fillFlag_none Bk T m L _ HB1.out).mono ?_; rintro e w' ⟨rfl, rfl⟩) | (go_at_call 42; with_reducible refine (fillRange_none Bk T m L _ HB1.out).mono ?_; rintro e w' ⟨rfl, rfl⟩) | (go_at_call 43; with_reducible refine (fillChange_none Bk T m L _ HB1.out).mono ?_; rintro e w' ⟨rfl, rfl⟩) | (go_at_call 44; with_reducible refine (fillEntry_none Bk T m L _ HB1.out).mono ?_; rintro e w' ⟨rfl, rfl⟩) | (go_at_call 45; with_reducible refine (fillNode_none Bk T m L _ HB1.out).mono ?_; rintro e w' ⟨rfl, rfl⟩) | (go_at_call 46; with_reducible refine (fillCall_none Bk T m L _ HB1.out).mono ?_; rintro e w' ⟨rfl, rfl⟩) | (go_at_call 47; with_reducible refine (fillStep_none Bk T m L _ HB1.out).mono ?_; rintro e w' ⟨rfl, rfl⟩) | (go_at_call 48; with_reducible refine (growByte_none Bk T m L _ HB1.out).mono ?_; rintro e w' ⟨rfl, rfl⟩) | (go_at_call 49; with_reducible refine (growInt_none Bk T m L _ HB1.out).mono ?_; rintro e w' ⟨rfl, rfl⟩) | (go_at_call 50; with_reducible refine (growText_calls B0 Bk T m L (marksTo L X L.length) (fun j hj => by rw [marks_len]; exact H.out.short j hj) _ HB1.out H.out.few H.out.apart HR1.out H.out.base).mono ?_))
  rintro e w2 ⟨rfl, L', hG⟩
  have HG := Lib.hid hG
  have HB2 := Lib.hid hG.book
  have HLOW := Lib.hid (Hb1.out.trans hG.low)
  have HL2 := Lib.hid (show L'.length ≤ 1000 by rw [hG.len]; exact H.out.few)
  have HK := Lib.hid (grow_ready H.out hG)
  clear hG
  go_wp2_with (first | (go_at_call 51; with_reducible refine (growBlob_none Bk T m L' _ HB2.out).mono ?_; rintro e w' ⟨rfl, rfl⟩) | (go_at_call 52; with_reducible refine (growRow_none Bk T m L' _ HB2.out).mono ?_; rintro e w' ⟨rfl, rfl⟩) | (go_at_call 53; with_reducible refine (growFlag_none Bk T m L' _ HB2.out).mono ?_; rintro e w' ⟨rfl, rfl⟩) | (go_at_call 54; with_reducible refine (growRange_none Bk T m L' _ HB2.out).mono ?_; rintro e w' ⟨rfl, rfl⟩) | (go_at_call 55; with_reducible refine (growChange_none Bk T m L' _ HB2.out).mono ?_; rintro e w' ⟨rfl, rfl⟩) | (go_at_call 56; with_reducible refine (growEntry_none Bk T m L' _ HB2.out).mono ?_; rintro e w' ⟨rfl, rfl⟩) | (go_at_call 57; with_reducible refine (growNode_none Bk T m L' _ HB2.out).mono ?_; rintro e w' ⟨rfl, rfl⟩) | (go_at_call 58; with_reducible refine (growCall_none Bk T m L' _ HB2.out).mono ?_; rintro e w' ⟨rfl, rfl⟩) | (go_at_call 59; with_reducible refine (growStep_none Bk T m L' _ HB2.out).mono ?_; rintro e w' ⟨rfl, rfl⟩) | (go_at_call 60; with_reducible refine (lookByte_none Bk T m L' _ HB2.out).mono ?_; rintro e w' ⟨rfl, rfl⟩) | (go_at_call 61; with_reducible refine (lookInt_none Bk T m L' _ HB2.out).mono ?_; rintro e w' ⟨rfl, rfl⟩) | (go_at_call 62; with_reducible refine (lookText_calls B0 Bk T m L' _ HB2.out HL2.out HK.out).mono ?_))
  rintro e w3 ⟨rfl, hb3⟩
  have HB3 := Lib.hid (book_below HB2.out hb3)
  have Hb3 := Lib.hid hb3
  clear hb3
  go_wp2_with (first | (go_at_call 63; with_reducible refine (lookBlob_none Bk T m L' _ HB3.out).mono ?_; rintro e w' ⟨rfl, rfl⟩) | (go_at_call 64; with_reducible refine (lookRow_none Bk T m L' _ HB3.out).mono ?_; rintro e w' ⟨rfl, rfl⟩) | (go_at_call 65; with_reducible refine (lookFlag_none Bk T m L' _ HB3.out).mono ?_; rintro e w' ⟨rfl, rfl⟩) | (go_at_call 66; with_reducible refine (lookRange_none Bk T m L' _ HB3.out).mono ?_; rintro e w' ⟨rfl, rfl⟩) | (go_at_call 67; with_reducible refine (lookChange_none Bk T m L' _ HB3.out).mono ?_; rintro e w' ⟨rfl, rfl⟩) | (go_at_call 68; with_reducible refine (lookEntry_none Bk T m L' _ HB3.out).mono ?_; rintro e w' ⟨rfl, rfl⟩) | (go_at_call 69; with_reducible refine (lookNode_none Bk T m L' _ HB3.out).mono ?_; rintro e w' ⟨rfl, rfl⟩) | (go_at_call 70; with_reducible refine (lookCall_none Bk T m L' _ HB3.out).mono ?_; rintro e w' ⟨rfl, rfl⟩) | (go_at_call 71; with_reducible refine (lookStep_none Bk T m L' _ HB3.out).mono ?_; rintro e w' ⟨rfl, rfl⟩))
  go_ret
  exact ⟨rfl, HLOW.out.trans (Hb3.out.mono (Nat.le_trans H.out.base (Nat.le_of_lt (blk_lt HB2.out.at_))))⟩
/-- A value's row lies among the blocks from a on, below b. -/
def InIv (v : Value) (a b : Nat) : Prop := ∀ k, v.ownBlock = some k → a ≤ k ∧ k < b
theorem iv_of {w : World} {base e n : Nat} {v : Value} {xs : List Value} (h : w.ownsRow base e 1 v n xs) : InIv v base w.heap.size := fun k hk => ⟨own_base h k hk, own_lt h k hk⟩
theorem iv_ne {v u : Value} {a b c d : Nat} (h : InIv v a b) (k : InIv u c d) (hbc : b ≤ c) : (v.ownBlock = none ∨ v.ownBlock ≠ u.ownBlock) ∧ (u.ownBlock = none ∨ u.ownBlock ≠ v.ownBlock) := by
  cases hv : v.ownBlock with
  | none => exact ⟨.inl rfl, by cases hu : u.ownBlock <;> simp⟩
  | some x =>
    cases hu : u.ownBlock with
    | none => exact ⟨.inr (by simp), .inl rfl⟩
    | some y =>
      have h1 := h x hv
      have h2 := k y hu
      exact ⟨.inr (by simp; omega), .inr (by simp; omega)⟩
theorem ready_of {B0 Bk m : Nat} {T : Value} {L : List Held} {w : World} (X : Nat → List ByteArray) (lo hi : Nat → Nat) (hB : Book Bk T m L w) (hlen : L.length ≤ 90) (hbase : B0 ≤ Bk)
    (h : ∀ i, i < L.length → w.ownsRow B0 9 1 (L.getD i zH).v (X i).length (strs (X i)) ∧ InIv (L.getD i zH).v (lo i) (hi i) ∧ hi i ≤ Bk ∧ (L.getD i zH).n < 100 ∧ (L.getD i zH).long = .slice none 0 0 ∧ (X i).length ≤ 8796093022000)
    (ho : ∀ i j, i < j → j < L.length → hi i ≤ lo j) : Ready B0 Bk m T L X w := by
  refine ⟨hB, by omega, ⟨fun i hi' b hb => ?_, fun i j hi' hj hne => ?_, fun i hi' => (h i hi').2.2.2.1, fun i hi' => ⟨_, _, _, (h i hi').2.2.2.2.1⟩⟩, fun i hi' => (h i hi').1, hbase, fun i hi' => (h i hi').2.2.2.2.2⟩
  · have := ((h i hi').2.1 b hb).2
    have := (h i hi').2.2.1
    omega
  · rcases Nat.lt_or_ge i j with hlt | hge
    · exact (iv_ne (h i hi').2.1 (h j hj).2.1 (ho i j hlt hj)).1
    · exact (iv_ne (h j hj).2.1 (h i hi').2.1 (ho j i (by omega) hi')).2
theorem book_new (w : World) : Book w.heap.size (.slice none 0 0) 0 [] (w.alloc (.cells #[.int .i64 0, .slice none 0 0, .slice none 0 0, .slice none 0 0, .slice none 0 0, .slice none 0 0, .slice none 0 0, .slice none 0 0, .slice none 0 0, .slice none 0 0, .slice none 0 0, .slice none 0 0, .slice none 0 0] 44)) :=
  ⟨World.alloc_heap_new w _, World.ownsRow_nil _ _ _ _⟩
end Go.Proofs.YtlicjpbmlmongaaGreatDoor.H

end

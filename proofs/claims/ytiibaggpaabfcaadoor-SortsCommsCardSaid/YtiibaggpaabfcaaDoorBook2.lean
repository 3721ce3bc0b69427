/- The book of lists: marks, and a list put into it. -/
import Derived.Test.YtiibaggpaabfcaaDoorBook1
import Derived.Test.YtiibaggpaabfcaaDoorShelf
import Derived.WalkLawsBesides
import Derived.WalkSpells
import Derived.RangeFuncBox
import Derived.Deep.RegionLaw
import Derived.Deep.RegionHeld3
import Derived.Outline
set_option linter.unusedVariables false
set_option linter.unusedSimpArgs false
namespace Go.Proofs.YtiibaggpaabfcaaDoor.H
open Go.RowKit Go.Proofs.YtiibaggpaabfcaaDoorW.PrintWords Go.Proofs

/-- The mark of the n-th list. -/
def markS (n : Nat) : ByteArray := ⟨#[35]⟩ ++ ⟨(Lib.decDigits n).toArray⟩
theorem dec_short : ∀ n, n < 100 → (Lib.decDigits n).length ≤ 2 := by decide +kernel
set_option maxHeartbeats 1000000 in
theorem word_calls (n : Nat) (h : n < 100) (w : World) : Calls Tryd.prog 94 #[.int .i64 n] w fun e w' => e = .returned (.string (markS n)) ∧ w = w' := by
  have hs := dec_short n h
  obtain ⟨D, hD⟩ : ∃ D : ByteArray, ⟨(Lib.decDigits n).toArray⟩ = D := ⟨_, rfl⟩
  have hs2 : D.size ≤ 2 := by rw [← hD, Lib.size_eq]; exact hs
  have hc := fun w => Tryd.strconv_Itoa_small n h w
  unfold markS
  rw [hD] at hc ⊢
  clear hs hD
  go_enter Tryd.func94, Tryd.ntmps94
  go_wp2_with (go_at_call 101; refine (hc _).mono ?_; rintro e w' ⟨rfl, rfl⟩)
  go_ret
  exact ⟨rfl, rfl⟩
set_option maxHeartbeats 1000000 in
theorem markText_calls (n : Nat) (h : n < 100) (w : World) : Calls Tryd.prog 65 #[.int .i64 n] w fun e w' => e = .returned (.string (markS n)) ∧ w = w' := by
  go_enter Tryd.func65, Tryd.ntmps65
  go_wp2_with (go_at_call 94; refine (word_calls n h _).mono ?_; rintro e w' ⟨rfl, rfl⟩)
  go_ret
  exact ⟨rfl, rfl⟩
set_option maxHeartbeats 1000000 in
theorem isText_calls (n : Nat) (h : n < 100) (w : World) : Calls Tryd.prog 77 #[.string (markS n), .int .i64 n] w fun e w' => e = .returned (.bool true) ∧ w = w' := by
  go_enter Tryd.func77, Tryd.ntmps77
  go_wp2_with (go_at_call 94; refine (word_calls n h _).mono ?_; rintro e w' ⟨rfl, rfl⟩)
  go_ret
  exact ⟨by simp, rfl⟩

/-- A list that is held: its value, what was put behind it, its number. -/
structure Held where
  v : Value
  long : Value
  n : Nat
def Held.cells (h : Held) : List Value := [h.v, h.long, .int .i64 h.n]
def flatH (L : List Held) : List Value := L.flatMap Held.cells
theorem flatH_len (L : List Held) : (flatH L).length = L.length * 3 := by
  induction L with
  | nil => rfl
  | cons h L ih => simp only [flatH, List.flatMap_cons, List.length_append, Held.cells, List.length_cons, List.length_nil] at ih ⊢; omega
theorem flatH_get (L : List Held) : ∀ (i : Nat) (hi : i < L.length), (flatH L)[3 * i]? = some L[i].v ∧ (flatH L)[3 * i + 1]? = some L[i].long ∧ (flatH L)[3 * i + 2]? = some (.int .i64 L[i].n) := by
  induction L with
  | nil => intro i hi; simp at hi
  | cons h L ih =>
    intro i hi
    match i, hi with
    | 0, _ => exact ⟨rfl, rfl, rfl⟩
    | i + 1, hi =>
      obtain ⟨a, b, c⟩ := ih i (by simpa using hi)
      have e : flatH (h :: L) = h.v :: h.long :: .int .i64 h.n :: flatH L := rfl
      rw [e]
      refine ⟨?_, ?_, ?_⟩
      · rw [show 3 * (i + 1) = 3 * i + 1 + 1 + 1 by omega]; exact a
      · rw [show 3 * (i + 1) + 1 = 3 * i + 1 + 1 + 1 + 1 by omega]; exact b
      · rw [show 3 * (i + 1) + 2 = 3 * i + 2 + 1 + 1 + 1 by omega]; exact c
theorem flatH_app (L M : List Held) : flatH (L ++ M) = flatH L ++ flatH M := List.flatMap_append
theorem flatH_setLong (L : List Held) : ∀ (i : Nat) (hi : i < L.length) (u : Value), (flatH L).set (3 * i + 1) u = flatH (L.set i ⟨L[i].v, u, L[i].n⟩) := by
  induction L with
  | nil => intro i hi; simp at hi
  | cons h L ih =>
    intro i hi u
    match i, hi with
    | 0, _ => rfl
    | i + 1, hi =>
      have e : ∀ (x : Held) (M : List Held), flatH (x :: M) = x.v :: x.long :: .int .i64 x.n :: flatH M := fun _ _ => rfl
      rw [e, show 3 * (i + 1) + 1 = 3 * i + 1 + 1 + 1 + 1 by omega]
      simp only [List.set_cons_succ, List.getElem_cons_succ]
      rw [e, ih i (by simpa using hi) u]

/-- The book: how many lists it has held, and the lists. -/
structure Book (Bk : Nat) (T : Value) (m : Nat) (L : List Held) (W : World) : Prop where
  at_ : W.heap[Bk]? = some (.cells #[.int .i64 m, .slice none 0 0, .slice none 0 0, T, .slice none 0 0, .slice none 0 0, .slice none 0 0, .slice none 0 0, .slice none 0 0, .slice none 0 0, .slice none 0 0, .slice none 0 0, .slice none 0 0] 50 (0, 0))
  own : W.ownsRow (Bk + 1) 65 3 T L.length (flatH L)
theorem blk_cell' {w : World} {b : Nat} {cs : Array Value} {t : TypeId} (h : w.heap[b]? = some (.cells cs t (0, 0))) (i : Nat) : w.cell? ⟨b, i, none⟩ = cs[i]? := by
  rw [Lib.cell_of_heap h]
theorem blk_frozen' {w : World} {b : Nat} {cs : Array Value} {t : TypeId} (h : w.heap[b]? = some (.cells cs t (0, 0))) (i : Nat) : w.frozen? ⟨b, i, none⟩ = false := Lib.frozen_of_heap h i
theorem own_block_ne {w : World} {base e s n : Nat} {v : Value} {xs : List Value} {g t : Nat} {cells : Array Value} (h : w.ownsRow base e s v n xs) (hb : w.heap[g]? = some (.cells cells t (0, 0))) (hlt : g < base) : v.ownBlock = none ∨ v.ownBlock ≠ some g := by
  right
  intro he
  have := own_base h g he
  omega
theorem grown_set (W : World) (b o : Nat) (v : Value) : W.grownBy (W.setCell ⟨b, o, none⟩ v) (some b) :=
  ⟨rfl, rfl, rfl, (KeepsWalks.setCell W _ v).size, fun k _ hk => Below.heap_setCell _ _ _ k (fun e => hk (by rw [e]))⟩
theorem infoH : (Tryd.prog.info? 65).map (fun i => (i.zero, i.size, i.bytes)) = some (some (.agg #[.slice none 0 0, .slice none 0 0, .int .i64 0]), 3, 56) := by kernel_rfl

set_option maxHeartbeats 2000000 in
set_option maxRecDepth 100000 in
theorem keepText_calls (Bk : Nat) (T : Value) (m : Nat) (L : List Held) (A : Option Addr) (ln c : Nat) (w : World) (hB : Book Bk T m L w) (hm : m ≤ 1000) (hL : L.length ≤ 1000) :
    Calls Tryd.prog 21 #[.pointer (some ⟨Bk, 0, none⟩), .slice A ln c] w fun e w' => e = .returned (.tuple #[]) ∧ (∃ T', Book Bk T' (m + 1) (L ++ [⟨.slice A ln c, .slice none 0 0, m + 1⟩]) w') ∧ Below Bk w w' := by
  obtain ⟨i0, hi, hz0, hz1, hz2⟩ := info_parts infoH
  have HB := Lib.hid hB
  have c0 : w.cell? ⟨Bk, 0, none⟩ = some (.int .i64 m) := blk_cell' hB.at_ 0
  have c3 : w.cell? ⟨Bk, 3, none⟩ = some T := blk_cell' hB.at_ 3
  have f0 := blk_frozen' hB.at_ 0
  have f3 := blk_frozen' hB.at_ 3
  clear hB
  go_enter Tryd.func21, Tryd.ntmps21
  go_wp2
  obtain ⟨w1, hw1⟩ : ∃ w1, w.setCell ⟨Bk, 0, none⟩ (.int .i64 ((m : Int) + 1)) = w1 := ⟨_, rfl⟩
  have hat : w1.heap[Bk]? = some (.cells #[.int .i64 ((m : Int) + 1), .slice none 0 0, .slice none 0 0, T, .slice none 0 0, .slice none 0 0, .slice none 0 0, .slice none 0 0, .slice none 0 0, .slice none 0 0, .slice none 0 0, .slice none 0 0, .slice none 0 0] 50 (0, 0)) := by
    rw [← hw1]; exact blk_put HB.out.at_ 0 _ rfl
  have how : w1.ownsRow (Bk + 1) 65 3 T L.length (flatH L) := by
    rw [← hw1]; exact own_other HB.out.own (grownBy_setCell' w Bk _) (own_block_ne HB.out.own HB.out.at_ (by omega))
  have hbl : Below Bk w w1 := by rw [← hw1]; exact (Below.refl Bk w).setCell (p := ⟨Bk, 0, none⟩) (Nat.le_refl _) _
  have hlt : Bk < w1.heap.size := blk_lt hat
  rw [hw1]
  clear hw1 c0 c3 f0 f3
  have d0 : w1.cell? ⟨Bk, 0, none⟩ = some (.int .i64 ((m : Int) + 1)) := blk_cell' hat 0
  have d3 : w1.cell? ⟨Bk, 3, none⟩ = some T := blk_cell' hat 3
  have HAT := Lib.hid hat
  have HOW := Lib.hid how
  clear hat how
  have hone : ∀ u ∈ [Value.slice A ln c, .slice none 0 0, .int .i64 ((m : Int) + 1)], u.oneCell' = true := by
    intro u hu; simp at hu; rcases hu with rfl | rfl | rfl <;> rfl
  have HONE := Lib.hid hone
  clear hone
  go_region_law (refine step_append_lies _ rfl (.tmp 15) (.tmp 22) 39 rfl (Bk + 1) 65 i0 _ 3 56 Tryd.underlying39 hi hz0 hz1 hz2 rfl (by decide) T L.length (flatH L) (by simp [Act.eval, Act.put]) ((HOW.out).drew.alloc _) ⟨w1.heap.size, 0, none⟩ 1 1 [.slice A ln c, .slice none 0 0, .int .i64 ((m : Int) + 1)] (by simp [Act.eval, Act.put]) rfl (by exact World.news_of_block (heap_alloc_new w1.drew _)) HONE.out (by decide) (by unfold maxLen; omega) (by omega) (by simp; omega) _ rfl ?_; intro g cap w2 hown2 hgrow2 hat2 hlt2; have hat3 : w2.heap[Bk]? = w1.heap[Bk]? := (hgrow2.block Bk (by simp; omega) (by have := own_block_ne HOW.out HAT.out (by omega); rcases this with h | h; (rw [h]; simp); exact fun e => h e.symm)).trans (Lib.alloc_old w1.drew _ Bk hlt); have hat4 := hat3.trans HAT.out; have e3 : w2.cell? ⟨Bk, 3, none⟩ = some T := blk_cell' hat4 3; have g3 : w2.frozen? ⟨Bk, 3, none⟩ = false := blk_frozen' hat4 3)
  all_goals
    go_end0
    refine ⟨rfl, ⟨_, ⟨blk_put hat4 3 _ rfl, ?_⟩⟩, ?_⟩
    · have := own_other hown2 (grown_set w2 Bk 3 (.slice (some ⟨g, 0, none⟩) (L.length + 1) cap)) (.inr (by simp [Value.ownBlock]; exact Ne.symm (by
        intro e; subst e
        rcases hown2.2 with ⟨h, _⟩ | ⟨g', cap', cur, h, hb, _⟩
        · cases h
        · simp only [Value.slice.injEq, Option.some.injEq, Addr.mk.injEq, and_true, true_and] at h
          obtain ⟨rfl, _⟩ := h
          omega)))
      rw [flatH_app, List.length_append]
      exact this
    · exact ((Below.grown (((hbl.drew).alloc (by simp; omega) _)) hgrow2 (by simp; omega) (fun k hk => by have := own_base HOW.out k hk; omega))).setCell (p := ⟨Bk, 3, none⟩) (Nat.le_refl _) _
set_option maxHeartbeats 1000000 in
theorem texts_calls (Bk : Nat) (T : Value) (m : Nat) (L : List Held) (A : Option Addr) (ln c : Nat) (w : World) (hB : Book Bk T m L w) (hm : m ≤ 1000) (hL : L.length ≤ 1000) :
    Calls Tryd.prog 14 #[.pointer (some ⟨Bk, 0, none⟩), .slice A ln c] w fun e w' => e = .returned (.tuple #[]) ∧ (∃ T', Book Bk T' (m + 1) (L ++ [⟨.slice A ln c, .slice none 0 0, m + 1⟩]) w') ∧ Below Bk w w' := by
  have HB := Lib.hid hB
  clear hB
  go_enter Tryd.func14, Tryd.ntmps14
  go_wp2_with (go_at_call 21; refine (keepText_calls Bk T m L A ln c _ HB.out hm hL).mono ?_; rintro e w' ⟨rfl, hX, hb⟩; have HX := Lib.hid hX; clear hX)
  go_end0
  exact ⟨rfl, HX.out, hb⟩
end Go.Proofs.YtiibaggpaabfcaaDoor.H

/- The book of lists, one of which is of lists of texts: marks of any number; what is kept. -/
import Derived.Test.YtlicjpbmlmongaaDoorBook5
import Derived.Test.YtlicjpbmlmongaaDoorRw1
import Derived.Shelf.Unicode.PredsPay
import Derived.Lib.LaidU8
import Derived.Lib.AppendIntMem
import Derived.Deep.RegionHeld3
set_option linter.unusedVariables false
set_option linter.unusedSimpArgs false
namespace Go.Proofs.YtlicjpbmlmongaaDoor.H
open Go.RowKit Go.Proofs.YtlicjpbmlmongaaDoorW.PrintWords Go.Proofs

/-- The table by which numbers are told. -/
def PW (W : World) : Prop := Lib.TabIs Tryd.prog W "internal/strconv.uint64pow10" .u64 Lib.pow10Tab
theorem PW.below {W W' : World} (h : PW W) (hb : Below W.heap.size W W') : PW W' := TabIs_below (g := 0) (by kernel_rfl) h hb
theorem dec_len : ∀ n : Nat, (Lib.decDigits n).length ≤ n + 1 := by
  intro n
  induction n using Nat.strongRecOn with
  | ind n ih =>
    rw [Lib.decDigits]
    split
    · simp
    · have := ih (n / 10) (by omega)
      simp
      omega
theorem str_add (T : TypeId) (a b : ByteArray) (h : a.size + b.size ≤ 9223372036854775807) : binOp .add T (.string a) (.string b) = pure (.string (a ++ b)) := by
  simp only [binOp, Op.stringOp]
  rw [if_neg]
  rw [show IntKind.i64.max = 9223372036854775807 from rfl]
  omega
set_option maxHeartbeats 1000000 in
theorem word_any (n : Nat) (hn : n ≤ 1000000) (w : World) (ht : PW w) : Calls Tryd.prog 83 #[.int .i64 n] w fun e w' => e = .returned (.string (markS n)) ∧ Below w.heap.size w w' := by
  have hc : Calls Tryd.prog 85 #[.int .i64 (n : Int)] w fun e w' => e = .returned (.string ⟨(Lib.decDigits n).toArray⟩) ∧ Below w.heap.size w w' := by
    refine (Tryd.strconv_Itoa n (by omega) (by omega) w ht).mono ?_
    rintro e w' ⟨rfl, k, os, rfl⟩
    refine ⟨?_, Lib.below_grow w.heap.size w (Nat.le_refl _) k os⟩
    have : Lib.itoa (n : Int) = Lib.decDigits n := by unfold Lib.itoa; rw [if_neg (by omega)]; rfl
    rw [this]
  have hd := dec_len n
  obtain ⟨D, hD⟩ : ∃ D : ByteArray, ⟨(Lib.decDigits n).toArray⟩ = D := ⟨_, rfl⟩
  have hsz : (⟨#[35]⟩ : ByteArray).size + D.size ≤ 9223372036854775807 := by
    rw [← hD, Lib.size_eq, Lib.size_eq]
    show 1 + (Lib.decDigits n).length ≤ _
    omega
  have hadd := fun T => str_add T ⟨#[35]⟩ D hsz
  unfold markS
  rw [hD] at hc ⊢
  have HC := Lib.hid hc
  clear hc hD hd hsz
  go_enter Tryd.func83, Tryd.ntmps83
  go_wp2_with fail
  with_reducible refine HC.out.mono ?_
  rintro e w' ⟨rfl, hb⟩
  go_wp2
  go_ret
  exact ⟨rfl, hb⟩
set_option maxHeartbeats 1000000 in
theorem markText_any (n : Nat) (hn : n ≤ 1000000) (w : World) (ht : PW w) : Calls Tryd.prog 60 #[.int .i64 n] w fun e w' => e = .returned (.string (markS n)) ∧ Below w.heap.size w w' := by
  have HC := Lib.hid (word_any n hn w ht)
  clear ht
  go_enter Tryd.func60, Tryd.ntmps60
  go_wp2_with fail
  with_reducible refine HC.out.mono ?_
  rintro e w' ⟨rfl, hb⟩
  go_wp2
  go_ret
  exact ⟨rfl, hb⟩
set_option maxHeartbeats 1000000 in
theorem isText_any (n : Nat) (hn : n ≤ 1000000) (w : World) (ht : PW w) : Calls Tryd.prog 72 #[.string (markS n), .int .i64 n] w fun e w' => e = .returned (.bool true) ∧ Below w.heap.size w w' := by
  have HC := Lib.hid (word_any n hn w ht)
  clear ht
  go_enter Tryd.func72, Tryd.ntmps72
  go_wp2_with fail
  with_reducible refine HC.out.mono ?_
  rintro e w' ⟨rfl, hb⟩
  go_wp2
  go_ret
  exact ⟨by simp, hb⟩
/-- A mark as a list of one text, in a block of its own. -/
def MarkAt (n g : Nat) (W : World) : Prop := W.heap[g]? = some (.cells #[.string (markS n)] 9 (0, 0))
set_option maxHeartbeats 1000000 in
theorem markRow_any (n : Nat) (hn : n ≤ 1000000) (w : World) (ht : PW w) : Calls Tryd.prog 62 #[.int .i64 n] w fun e w' => ∃ g, e = .returned (.slice (some ⟨g, 0, none⟩) 1 1) ∧ w.heap.size ≤ g ∧ MarkAt n g w' ∧ Below w.heap.size w w' := by
  have HC := Lib.hid (word_any n hn w ht)
  clear ht
  go_enter Tryd.func62, Tryd.ntmps62
  go_wp2_with fail
  with_reducible refine HC.out.mono ?_
  rintro e w' ⟨rfl, hb⟩
  go_wp2
  go_ret
  exact ⟨_, rfl, hb.size, World.alloc_heap_new _ _, bal hb _⟩
set_option maxHeartbeats 1000000 in
theorem isRow_any (n g : Nat) (hn : n ≤ 1000000) (w : World) (ht : PW w) (hm : MarkAt n g w) : Calls Tryd.prog 74 #[.slice (some ⟨g, 0, none⟩) 1 1, .int .i64 n] w fun e w' => e = .returned (.bool true) ∧ Below w.heap.size w w' := by
  have HCV := Lib.hid (show ∀ V, Below w.heap.size w V → Calls Tryd.prog 83 #[.int .i64 n] V fun e w' => e = .returned (.string (markS n)) ∧ Below V.heap.size V w' from fun V h => word_any n hn V (ht.below h))
  have c0 : w.cell? ⟨g, 0, none⟩ = some (.string (markS n)) := by rw [Lib.cell_of_heap hm]; rfl
  have HCB := Lib.hid (show ∀ V, Below w.heap.size w V → V.cell? ⟨g, 0, none⟩ = some (.string (markS n)) from fun V h => pw_cell_below h c0)
  clear ht hm
  go_enter Tryd.func74, Tryd.ntmps74
  go_wp2_with fail
  go_region_held3 (fun V => Below w.heap.size w V ∧ V.cell? ⟨g, 0, none⟩ = some (.string (markS n)))
    (with_reducible first | assumption | exact ⟨by assumption, HCB.out _ (by assumption)⟩ | exact ⟨bdr (Below.refl _ _), HCB.out _ (bdr (Below.refl _ _))⟩ | exact ⟨Below.refl _ _, HCB.out _ (Below.refl _ _)⟩) ((go_at_call 83; with_reducible refine (HCV.out _ (show Below w.heap.size w _ ∧ _ from by assumption).1).mono ?_; rintro e w' ⟨rfl, hbq⟩; have hbq := bth (show Below w.heap.size w _ ∧ _ from by assumption).1 hbq))
  have BW := Lib.hid (show Below w.heap.size w _ ∧ _ from by assumption).1
  go_wp2
  go_ret
  exact ⟨by simp, BW.out⟩
/-- The book: how many lists it has held, and the lists: of texts, and of lists of texts. -/
structure BookR (Bk : Nat) (T TR : Value) (m : Nat) (L LR : List Held) (W : World) : Prop where
  at_ : W.heap[Bk]? = some (.cells #[.int .i64 m, .slice none 0 0, .slice none 0 0, T, .slice none 0 0, TR, .slice none 0 0, .slice none 0 0, .slice none 0 0, .slice none 0 0, .slice none 0 0, .slice none 0 0, .slice none 0 0] 42 (0, 0))
  own : W.ownsRow (Bk + 1) 64 3 T L.length (flatH L)
  ownR : W.ownsRow (Bk + 1) 62 3 TR LR.length (flatH LR)
set_option maxHeartbeats 2000000 in
set_option maxRecDepth 100000 in
theorem keepTextR_calls (Bk : Nat) (T TR : Value) (m : Nat) (L LR : List Held) (A : Option Addr) (ln c : Nat) (w : World) (hB : BookR Bk T TR m L LR w) (hm : m ≤ 100000) (hL : L.length ≤ 100000) :
    Calls Tryd.prog 18 #[.pointer (some ⟨Bk, 0, none⟩), .slice A ln c] w fun e w' => e = .returned (.tuple #[]) ∧ (∃ T', BookR Bk T' TR (m + 1) (L ++ [⟨.slice A ln c, .slice none 0 0, m + 1⟩]) LR w') ∧ Below Bk w w' := by
  obtain ⟨i0, hi, hz0, hz1, hz2⟩ := info_parts infoH
  have HB := Lib.hid hB
  have c0 : w.cell? ⟨Bk, 0, none⟩ = some (.int .i64 m) := blk_cell' hB.at_ 0
  have c3 : w.cell? ⟨Bk, 3, none⟩ = some T := blk_cell' hB.at_ 3
  have f0 := blk_frozen' hB.at_ 0
  have f3 := blk_frozen' hB.at_ 3
  clear hB
  go_enter Tryd.func18, Tryd.ntmps18
  go_wp2
  obtain ⟨w1, hw1⟩ : ∃ w1, w.setCell ⟨Bk, 0, none⟩ (.int .i64 ((m : Int) + 1)) = w1 := ⟨_, rfl⟩
  have hat : w1.heap[Bk]? = some (.cells #[.int .i64 ((m : Int) + 1), .slice none 0 0, .slice none 0 0, T, .slice none 0 0, TR, .slice none 0 0, .slice none 0 0, .slice none 0 0, .slice none 0 0, .slice none 0 0, .slice none 0 0, .slice none 0 0] 42 (0, 0)) := by
    rw [← hw1]; exact blk_put HB.out.at_ 0 _ rfl
  have how : w1.ownsRow (Bk + 1) 64 3 T L.length (flatH L) := by
    rw [← hw1]; exact own_other HB.out.own (grownBy_setCell' w Bk _) (own_block_ne HB.out.own HB.out.at_ (by omega))
  have howr : w1.ownsRow (Bk + 1) 62 3 TR LR.length (flatH LR) := by
    rw [← hw1]; exact own_other HB.out.ownR (grownBy_setCell' w Bk _) (own_block_ne HB.out.ownR HB.out.at_ (by omega))
  have HOWR := Lib.hid howr
  clear howr
  have hbl : Below Bk w w1 := by rw [← hw1]; exact (Below.refl Bk w).setCell (p := ⟨Bk, 0, none⟩) (Nat.le_refl _) _
  have hlt : Bk < w1.heap.size := blk_lt hat
  rw [hw1]
  clear hw1 c0 c3 f0 f3
  have d0 : w1.cell? ⟨Bk, 0, none⟩ = some (.int .i64 ((m : Int) + 1)) := blk_cell' hat 0
  have d3 : w1.cell? ⟨Bk, 3, none⟩ = some T := blk_cell' hat 3
  have HAT := Lib.hid hat
  have HOW := Lib.hid how
  clear hat how
  have hone : ∀ u ∈ [Value.slice A ln c, .slice none 0 0, .int .i64 ((m : Int) + 1)], u.oneCell' = true := by
    intro u hu; simp at hu; rcases hu with rfl | rfl | rfl <;> rfl
  have HONE := Lib.hid hone
  clear hone
  go_region_law (refine step_append_lies _ rfl (.tmp 15) (.tmp 22) 31 rfl (Bk + 1) 64 i0 _ 3 56 Tryd.underlying31 hi hz0 hz1 hz2 rfl (by decide) T L.length (flatH L) (by simp [Act.eval, Act.put]) ((HOW.out).drew.alloc _) ⟨w1.heap.size, 0, none⟩ 1 1 [.slice A ln c, .slice none 0 0, .int .i64 ((m : Int) + 1)] (by simp [Act.eval, Act.put]) rfl (by exact World.news_of_block (heap_alloc_new w1.drew _)) HONE.out (by decide) (by unfold maxLen; omega) (by omega) (by simp; omega) _ rfl ?_; intro g cap w2 hown2 hgrow2 hat2 hlt2; have hat3 : w2.heap[Bk]? = w1.heap[Bk]? := (hgrow2.block Bk (by simp; omega) (by have := own_block_ne HOW.out HAT.out (by omega); rcases this with h | h; (rw [h]; simp); exact fun e => h e.symm)).trans (Lib.alloc_old w1.drew _ Bk hlt); have hat4 := hat3.trans HAT.out; have e3 : w2.cell? ⟨Bk, 3, none⟩ = some T := blk_cell' hat4 3; have g3 : w2.frozen? ⟨Bk, 3, none⟩ = false := blk_frozen' hat4 3)
  all_goals
    go_end0
    refine ⟨rfl, ⟨_, ⟨blk_put hat4 3 _ rfl, ?_, ?_⟩⟩, ?_⟩
    · have := own_other hown2 (grown_set w2 Bk 3 (.slice (some ⟨g, 0, none⟩) (L.length + 1) cap)) (.inr (by simp [Value.ownBlock]; exact Ne.symm (by
        intro e; subst e
        rcases hown2.2 with ⟨h, _⟩ | ⟨g', cap', cur, h, hb, _⟩
        · cases h
        · simp only [Value.slice.injEq, Option.some.injEq, Addr.mk.injEq, and_true, true_and] at h
          obtain ⟨rfl, _⟩ := h
          omega)))
      rw [flatH_app, List.length_append]
      exact this
    · exact own_other (own_other (HOWR.out.drew.alloc _) hgrow2 (own_type_ne HOWR.out HOW.out (by decide))) (grown_set w2 Bk 3 _) (.inr (by intro e; have := own_base HOWR.out Bk e; omega))
    · exact ((Below.grown (((hbl.drew).alloc (by simp; omega) _)) hgrow2 (by simp; omega) (fun k hk => by have := own_base HOW.out k hk; omega))).setCell (p := ⟨Bk, 3, none⟩) (Nat.le_refl _) _
set_option maxHeartbeats 1000000 in
theorem textsR_calls (Bk : Nat) (T TR : Value) (m : Nat) (L LR : List Held) (A : Option Addr) (ln c : Nat) (w : World) (hB : BookR Bk T TR m L LR w) (hm : m ≤ 100000) (hL : L.length ≤ 100000) :
    Calls Tryd.prog 11 #[.pointer (some ⟨Bk, 0, none⟩), .slice A ln c] w fun e w' => e = .returned (.tuple #[]) ∧ (∃ T', BookR Bk T' TR (m + 1) (L ++ [⟨.slice A ln c, .slice none 0 0, m + 1⟩]) LR w') ∧ Below Bk w w' := by
  have HB := Lib.hid hB
  clear hB
  go_enter Tryd.func11, Tryd.ntmps11
  go_wp2_with (go_at_call 18; refine (keepTextR_calls Bk T TR m L LR A ln c _ HB.out hm hL).mono ?_; rintro e w' ⟨rfl, hX, hb⟩; have HX := Lib.hid hX; clear hX)
  go_end0
  exact ⟨rfl, HX.out, hb⟩
theorem infoHR : (Tryd.prog.info? 62).map (fun i => (i.zero, i.size, i.bytes)) = some (some (.agg #[.slice none 0 0, .slice none 0 0, .int .i64 0]), 3, 56) := by kernel_rfl
set_option maxHeartbeats 2000000 in
set_option maxRecDepth 100000 in
theorem keepRowR_calls (Bk : Nat) (T TR : Value) (m : Nat) (L LR : List Held) (A : Option Addr) (ln c : Nat) (w : World) (hB : BookR Bk T TR m L LR w) (hm : m ≤ 100000) (hL : LR.length ≤ 1000) :
    Calls Tryd.prog 17 #[.pointer (some ⟨Bk, 0, none⟩), .slice A ln c] w fun e w' => e = .returned (.tuple #[]) ∧ (∃ T', BookR Bk T T' (m + 1) L (LR ++ [⟨.slice A ln c, .slice none 0 0, m + 1⟩]) w') ∧ Below Bk w w' := by
  obtain ⟨i0, hi, hz0, hz1, hz2⟩ := info_parts infoHR
  have HB := Lib.hid hB
  have c0 : w.cell? ⟨Bk, 0, none⟩ = some (.int .i64 m) := blk_cell' hB.at_ 0
  have c3 : w.cell? ⟨Bk, 5, none⟩ = some TR := blk_cell' hB.at_ 5
  have f0 := blk_frozen' hB.at_ 0
  have f3 := blk_frozen' hB.at_ 5
  clear hB
  go_enter Tryd.func17, Tryd.ntmps17
  go_wp2
  obtain ⟨w1, hw1⟩ : ∃ w1, w.setCell ⟨Bk, 0, none⟩ (.int .i64 ((m : Int) + 1)) = w1 := ⟨_, rfl⟩
  have hat : w1.heap[Bk]? = some (.cells #[.int .i64 ((m : Int) + 1), .slice none 0 0, .slice none 0 0, T, .slice none 0 0, TR, .slice none 0 0, .slice none 0 0, .slice none 0 0, .slice none 0 0, .slice none 0 0, .slice none 0 0, .slice none 0 0] 42 (0, 0)) := by
    rw [← hw1]; exact blk_put HB.out.at_ 0 _ rfl
  have how : w1.ownsRow (Bk + 1) 62 3 TR LR.length (flatH LR) := by
    rw [← hw1]; exact own_other HB.out.ownR (grownBy_setCell' w Bk _) (own_block_ne HB.out.ownR HB.out.at_ (by omega))
  have howr : w1.ownsRow (Bk + 1) 64 3 T L.length (flatH L) := by
    rw [← hw1]; exact own_other HB.out.own (grownBy_setCell' w Bk _) (own_block_ne HB.out.own HB.out.at_ (by omega))
  have HOWR := Lib.hid howr
  clear howr
  have hbl : Below Bk w w1 := by rw [← hw1]; exact (Below.refl Bk w).setCell (p := ⟨Bk, 0, none⟩) (Nat.le_refl _) _
  have hlt : Bk < w1.heap.size := blk_lt hat
  rw [hw1]
  clear hw1 c0 c3 f0 f3
  have d0 : w1.cell? ⟨Bk, 0, none⟩ = some (.int .i64 ((m : Int) + 1)) := blk_cell' hat 0
  have d3 : w1.cell? ⟨Bk, 5, none⟩ = some TR := blk_cell' hat 5
  have HAT := Lib.hid hat
  have HOW := Lib.hid how
  clear hat how
  have hone : ∀ u ∈ [Value.slice A ln c, .slice none 0 0, .int .i64 ((m : Int) + 1)], u.oneCell' = true := by
    intro u hu; simp at hu; rcases hu with rfl | rfl | rfl <;> rfl
  have HONE := Lib.hid hone
  clear hone
  go_region_law (refine step_append_lies _ rfl (.tmp 15) (.tmp 22) 33 rfl (Bk + 1) 62 i0 _ 3 56 Tryd.underlying33 hi hz0 hz1 hz2 rfl (by decide) TR LR.length (flatH LR) (by simp [Act.eval, Act.put]) ((HOW.out).drew.alloc _) ⟨w1.heap.size, 0, none⟩ 1 1 [.slice A ln c, .slice none 0 0, .int .i64 ((m : Int) + 1)] (by simp [Act.eval, Act.put]) rfl (by exact World.news_of_block (heap_alloc_new w1.drew _)) HONE.out (by decide) (by unfold maxLen; omega) (by omega) (by simp; omega) _ rfl ?_; intro g cap w2 hown2 hgrow2 hat2 hlt2; have hat3 : w2.heap[Bk]? = w1.heap[Bk]? := (hgrow2.block Bk (by simp; omega) (by have := own_block_ne HOW.out HAT.out (by omega); rcases this with h | h; (rw [h]; simp); exact fun e => h e.symm)).trans (Lib.alloc_old w1.drew _ Bk hlt); have hat4 := hat3.trans HAT.out; have e3 : w2.cell? ⟨Bk, 5, none⟩ = some TR := blk_cell' hat4 5; have g3 : w2.frozen? ⟨Bk, 5, none⟩ = false := blk_frozen' hat4 5)
  all_goals
    go_end0
    refine ⟨rfl, ⟨_, ⟨blk_put hat4 5 _ rfl, ?_, ?_⟩⟩, ?_⟩
    · exact own_other (own_other (HOWR.out.drew.alloc _) hgrow2 (own_type_ne HOWR.out HOW.out (by decide))) (grown_set w2 Bk 5 _) (.inr (by intro e; have := own_base HOWR.out Bk e; omega))
    · have := own_other hown2 (grown_set w2 Bk 5 (.slice (some ⟨g, 0, none⟩) (LR.length + 1) cap)) (.inr (by simp [Value.ownBlock]; exact Ne.symm (by
        intro e; subst e
        rcases hown2.2 with ⟨h, _⟩ | ⟨g', cap', cur, h, hb, _⟩
        · cases h
        · simp only [Value.slice.injEq, Option.some.injEq, Addr.mk.injEq, and_true, true_and] at h
          obtain ⟨rfl, _⟩ := h
          omega)))
      rw [flatH_app, List.length_append]
      exact this
    · exact ((Below.grown (((hbl.drew).alloc (by simp; omega) _)) hgrow2 (by simp; omega) (fun k hk => by have := own_base HOW.out k hk; omega))).setCell (p := ⟨Bk, 5, none⟩) (Nat.le_refl _) _
/-- The first k lists of a twin, as the book holds them. -/
def heldOf (X : List (List ByteArray)) (vs : List (Nat × Nat)) (k : Nat) : List Held := (List.range k).map fun i => ⟨.slice (some ⟨(vs.getD i (0, 0)).1, 0, none⟩) (X.getD i []).length (vs.getD i (0, 0)).2, .slice none 0 0, i + 1⟩
theorem heldOf_len (X : List (List ByteArray)) (vs : List (Nat × Nat)) (k : Nat) : (heldOf X vs k).length = k := by simp [heldOf]
theorem heldOf_succ (X : List (List ByteArray)) (vs : List (Nat × Nat)) (k : Nat) (h : k < X.length) : heldOf X vs (k + 1) = heldOf X vs k ++ [⟨.slice (some ⟨(vs.getD k (0, 0)).1, 0, none⟩) X[k].length (vs.getD k (0, 0)).2, .slice none 0 0, k + 1⟩] := by
  have e : X.getD k [] = X[k] := by simp [List.getD_eq_getElem?_getD, h]
  unfold heldOf
  rw [List.range_succ, List.map_append, ← e]
  rfl
set_option maxHeartbeats 2000000 in
set_option maxRecDepth 100000 in
/-- The lists of a twin, each put into the book, and then their list. -/
theorem rowsR_calls (Bk : Nat) (base G n : Nat) (X : List (List ByteArray)) (vs : List (Nat × Nat)) (T TR : Value) (w : World) (hB : BookR Bk T TR 0 [] [] w) (ht : TwinAt base G n X vs w) (hX : X.length ≤ 10000) (hlow : ∀ b, b < w.heap.size → b ≠ Bk → True) (hG : G < Bk) (hn : X.length ≤ n) :
    Calls Tryd.prog 10 #[.pointer (some ⟨Bk, 0, none⟩), .slice (some ⟨G, 0, none⟩) X.length n] w fun e w' => e = .returned (.tuple #[]) ∧ (∃ T' TR', BookR Bk T' TR' (X.length + 1) (heldOf X vs X.length) [⟨.slice (some ⟨G, 0, none⟩) X.length n, .slice none 0 0, X.length + 1⟩] w') ∧ Below Bk w w' := by
  have HB := Lib.hid hB
  have HT := Lib.hid ht
  have hx63 : X.length ≤ 9223372036854775807 := by omega
  clear hB ht hlow
  go_enter Tryd.func10, Tryd.ntmps10
  go_wp2
  go_loopw [4] (fun i wr => ∃ k : Nat, k ≤ X.length ∧ i = .int .i64 (k : Int) ∧ Hid (∃ T', BookR Bk T' TR k (heldOf X vs k) [] wr ∧ Below Bk w wr)) (fun i _ => X.length - (intOf i).toNat)
  case atStart => exact ⟨0, Nat.zero_le _, rfl, Lib.hid ⟨T, HB.out, Below.refl _ _⟩⟩
  case round =>
    obtain ⟨k, hk, rfl, hst⟩ := hrel
    obtain ⟨T', hb, hl⟩ := hst.out
    have HH := Lib.hid (And.intro hb hl)
    clear hb hl hst
    by_cases hlt : k < X.length
    · have hc : wr.cell? ⟨G, k, none⟩ = some (.slice (some ⟨(vs.getD k (0, 0)).1, 0, none⟩) X[k].length (vs.getD k (0, 0)).2) := (HH.out.2.cell (p := ⟨G, k, none⟩) hG).trans (HT.out.cell k hlt)
      have hkn : k < n := by omega
      go_wp2_with (go_at_call 11; with_reducible refine (textsR_calls Bk T' TR k (heldOf X vs k) [] _ _ _ _ HH.out.1 (by omega) (by rw [heldOf_len]; omega)).mono ?_)
      rintro e w2 ⟨rfl, ⟨T2, hb2⟩, hl2⟩
      have HF := Lib.hid (show ∃ T', BookR Bk T' TR (k + 1) (heldOf X vs (k + 1)) [] w2 ∧ Below Bk w w2 from ⟨T2, by rw [heldOf_succ X vs k hlt]; exact hb2, HH.out.2.trans hl2⟩)
      clear hb2 hl2
      go_wp2
      go_roundw
      case rel => exact ⟨k + 1, hlt, by go_num, HF⟩
      case measure => simp [intOf]; omega
    · obtain rfl : k = X.length := by omega
      go_wp2_with (go_at_call 17; with_reducible refine (keepRowR_calls Bk T' TR X.length (heldOf X vs X.length) [] _ _ _ _ HH.out.1 (by omega) (by simp)).mono ?_)
      rintro e w2 ⟨rfl, ⟨T2, hb2⟩, hl2⟩
      have HF := Lib.hid (And.intro hb2 (HH.out.2.trans hl2))
      clear hb2 hl2
      go_wp2
      go_end0
      exact ⟨rfl, ⟨_, _, HF.out.1⟩, HF.out.2⟩
end Go.Proofs.YtlicjpbmlmongaaDoor.H

/- Chapter 8's alive: the answers that the document fixes are told. -/
import Derived.Test.YthkaekeelokajaaDoorVJoin
import Derived.Test.YthkaekeelokajaaDoorVCmp
import Derived.Test.YthkaekeelokajaaDoorVPaste
import Derived.Test.YthkaekeelokajaaDoorVSum
import Derived.Test.YthkaekeelokajaaDoorVDump2
import Derived.Test.YthkaekeelokajaaDoorVEnv
import Derived.Test.YthkaekeelokajaaDoorSameSelf
set_option linter.unusedVariables false
set_option linter.unusedSimpArgs false
namespace Go.Proofs.YthkaekeelokajaaDoor.P
open Go.RowKit Go.Proofs Go.Proofs.YthkaekeelokajaaDoor.Q Go.Proofs.YthkaekeelokajaaDoor.H Go.Proofs.YthkaekeelokajaaDoor.C Go.Proofs.YthkaekeelokajaaDoor.B Go.Proofs.YthkaekeelokajaaDoor.Oct Go.Proofs.YthkaekeelokajaaDoor.Crc Go.Proofs.YthkaekeelokajaaDoor.S Go.Proofs.YthkaekeelokajaaDoorW.PrintWords Go.Proofs.YthkaekeelokajaaDoorW.PrintLast

def joinX : List ByteArray := [⟨#[98, 58, 50, 58, 120]⟩, ⟨#[98, 58, 51, 58, 120]⟩]
def pasteX : List ByteArray := [⟨#[97, 58, 49]⟩, ⟨#[98, 58, 50]⟩, ⟨#[99, 58]⟩]
theorem a1 : cmpL [97, 10, 98] [97, 10, 99] = (3, 2, 0) := by decide +kernel
theorem a2 : cmpL [97, 98] [97, 98, 99] = (0, 0, 1) := by decide +kernel
theorem a3 : pasteL [58] [[⟨#[97]⟩, ⟨#[98]⟩, ⟨#[99]⟩], [⟨#[49]⟩, ⟨#[50]⟩]] = pasteX := by decide +kernel
theorem a4 : joinR [⟨#[97, 58, 49]⟩, ⟨#[98, 58, 50]⟩, ⟨#[98, 58, 51]⟩] [⟨#[98, 58, 120]⟩, ⟨#[99, 58, 121]⟩] 1 1 58 = (joinX, 0) := by decide +kernel
theorem a5 : joinR [⟨#[98]⟩, ⟨#[97]⟩] [] 1 1 58 = ([], 1) := by decide +kernel
theorem a6 : (sumL []).toNat = 4294967295 := by decide +kernel
theorem a7 : (sumL [49, 50, 51, 52, 53, 54, 55, 56, 57]).toNat = 930766865 := by decide +kernel
theorem a8 : dumpL [65, 66, 10] = [48, 48, 48, 48, 48, 48, 48, 32, 49, 48, 49, 32, 49, 48, 50, 32, 48, 49, 50, 10, 48, 48, 48, 48, 48, 48, 51, 10] := by decide +kernel
theorem same_ev (l : List ByteArray) (hl : l.length ≤ 2000000) : ∃ k, toolchestlaw01_SameTexts.f k l l = some true := (same_self l hl).at_
theorem cmp1 (w : World) : Calls Tryd.prog 32 #[.string ⟨#[97, 10, 98]⟩, .string ⟨#[97, 10, 99]⟩] w fun e w' => e = .returned (.tuple #[.int .i64 3, .int .i64 2, .int .i64 0]) ∧ Below w.heap.size w w' := by
  have h := cmp_calls ⟨#[97, 10, 98]⟩ ⟨#[97, 10, 99]⟩ (by decide) (by decide) w
  rw [show cmpL (⟨#[97, 10, 98]⟩ : ByteArray).data.toList (⟨#[97, 10, 99]⟩ : ByteArray).data.toList = (3, 2, 0) from a1] at h
  exact h
theorem cmp2 (w : World) : Calls Tryd.prog 32 #[.string ⟨#[97, 98]⟩, .string ⟨#[97, 98, 99]⟩] w fun e w' => e = .returned (.tuple #[.int .i64 0, .int .i64 0, .int .i64 1]) ∧ Below w.heap.size w w' := by
  have h := cmp_calls ⟨#[97, 98]⟩ ⟨#[97, 98, 99]⟩ (by decide) (by decide) w
  rw [show cmpL (⟨#[97, 98]⟩ : ByteArray).data.toList (⟨#[97, 98, 99]⟩ : ByteArray).data.toList = (0, 0, 1) from a2] at h
  exact h
theorem sum1 (w : World) : Calls Tryd.prog 22 #[.string ⟨#[]⟩] w fun e w' => e = .returned (.int .u32 4294967295) ∧ Below w.heap.size w w' := by
  have h := sum_calls ⟨#[]⟩ (by decide) w
  rw [show (sumL (⟨#[]⟩ : ByteArray).data.toList).toNat = 4294967295 from a6] at h
  exact h
theorem sum2 (w : World) : Calls Tryd.prog 22 #[.string ⟨#[49, 50, 51, 52, 53, 54, 55, 56, 57]⟩] w fun e w' => e = .returned (.int .u32 930766865) ∧ Below w.heap.size w w' := by
  have h := sum_calls ⟨#[49, 50, 51, 52, 53, 54, 55, 56, 57]⟩ (by decide) w
  rw [show (sumL (⟨#[49, 50, 51, 52, 53, 54, 55, 56, 57]⟩ : ByteArray).data.toList).toNat = 930766865 from a7] at h
  exact h
theorem dump1 (w : World) (hT : TzW w) : Calls Tryd.prog 24 #[.string ⟨#[65, 66, 10]⟩] w fun e w' => e = .returned (.string ⟨#[48, 48, 48, 48, 48, 48, 48, 32, 49, 48, 49, 32, 49, 48, 50, 32, 48, 49, 50, 10, 48, 48, 48, 48, 48, 48, 51, 10]⟩) ∧ Below w.heap.size w w' := by
  have h := dump_calls ⟨#[65, 66, 10]⟩ (by decide) w hT
  rw [show dumpL (⟨#[65, 66, 10]⟩ : ByteArray).data.toList = _ from a8] at h
  exact h
theorem ts_reads {w W : World} {v : Value} {l : List ByteArray} (h : TS w v l W) : ∃ A c, v = .slice A l.length c ∧ l.length ≤ c ∧ Kd.C Kd.string W A l.length l := h.txs.reads
theorem join1 (w : World) (A1 A2 : Option Addr) (c1 c2 : Nat) (h1 : Kd.C Kd.string w A1 3 [⟨#[97, 58, 49]⟩, ⟨#[98, 58, 50]⟩, ⟨#[98, 58, 51]⟩]) (h2 : Kd.C Kd.string w A2 2 [⟨#[98, 58, 120]⟩, ⟨#[99, 58, 121]⟩]) (k1 : 3 ≤ c1) (k2 : 2 ≤ c2) :
    Calls Tryd.prog 28 #[.slice A1 3 c1, .slice A2 2 c2, .int .i64 1, .int .i64 1, .int .u8 58] w fun e w' => (∃ A c, e = .returned (.tuple #[.slice A 2 c, .int .i64 0]) ∧ 2 ≤ c ∧ Kd.C Kd.string w' A 2 joinX) ∧ Below w.heap.size w w' := by
  refine (join_calls A1 A2 c1 c2 [⟨#[97, 58, 49]⟩, ⟨#[98, 58, 50]⟩, ⟨#[98, 58, 51]⟩] [⟨#[98, 58, 120]⟩, ⟨#[99, 58, 121]⟩] 1 1 58 (by decide) (by decide) w h1 h2 k1 k2 (by decide) (by decide) (fun s hs => by simp at hs; rcases hs with rfl | rfl | rfl <;> decide) (fun s hs => by simp at hs; rcases hs with rfl | rfl <;> decide)).mono ?_
  rw [a4]
  rintro e w' ⟨v, rfl, ht⟩
  obtain ⟨A, c, rfl, hc, hC⟩ := ts_reads ht
  exact ⟨⟨A, c, rfl, hc, hC⟩, ht.low⟩
theorem join2 (w : World) (A1 : Option Addr) (c1 : Nat) (h1 : Kd.C Kd.string w A1 2 [⟨#[98]⟩, ⟨#[97]⟩]) (k1 : 2 ≤ c1) :
    Calls Tryd.prog 28 #[.slice A1 2 c1, .slice none 0 0, .int .i64 1, .int .i64 1, .int .u8 58] w fun e w' => (∃ v, e = .returned (.tuple #[v, .int .i64 1])) ∧ Below w.heap.size w w' := by
  refine (join_calls A1 none c1 0 [⟨#[98]⟩, ⟨#[97]⟩] [] 1 1 58 (by decide) (by decide) w h1 ⟨rfl, by simp, fun h => absurd h (Nat.lt_irrefl 0)⟩ k1 (Nat.le_refl _) (by decide) (by decide) (fun s hs => by simp at hs; rcases hs with rfl | rfl <;> decide) (fun s hs => by cases hs)).mono ?_
  rw [a5]
  rintro e w' ⟨v, rfl, ht⟩
  exact ⟨⟨v, rfl⟩, ht.low⟩
theorem paste1 (w : World) (A : Option Addr) (c : Nat) (hr : RowsAt w A [[⟨#[97]⟩, ⟨#[98]⟩, ⟨#[99]⟩], [⟨#[49]⟩, ⟨#[50]⟩]]) (hc : 2 ≤ c) :
    Calls Tryd.prog 14 #[.slice A 2 c, .string ⟨#[58]⟩] w fun e w' => (∃ A c, e = .returned (.slice A 3 c) ∧ 3 ≤ c ∧ Kd.C Kd.string w' A 3 pasteX) ∧ Below w.heap.size w w' := by
  refine (paste_calls A c [[⟨#[97]⟩, ⟨#[98]⟩, ⟨#[99]⟩], [⟨#[49]⟩, ⟨#[50]⟩]] ⟨#[58]⟩ w hr hc (by decide) (by decide) (by decide) (fun n => ?_)).mono ?_
  · match n with
    | 0 => decide
    | 1 => decide
    | 2 => decide
    | n + 3 => exact (by decide : (sideL [58] [⟨#[]⟩, ⟨#[]⟩]).length ≤ 140737488355328)
  rw [show pasteL (⟨#[58]⟩ : ByteArray).data.toList [[⟨#[97]⟩, ⟨#[98]⟩, ⟨#[99]⟩], [⟨#[49]⟩, ⟨#[50]⟩]] = pasteX from a3]
  rintro e w' ⟨v, rfl, ht⟩
  obtain ⟨A, c, rfl, hc, hC⟩ := ts_reads ht
  exact ⟨⟨A, c, rfl, hc, hC⟩, ht.low⟩
theorem rows1 (W : World) : RowsAt (((W.alloc (.cells #[.string ⟨#[97]⟩, .string ⟨#[98]⟩, .string ⟨#[99]⟩] 9)).alloc (.cells #[.string ⟨#[49]⟩, .string ⟨#[50]⟩] 9)).alloc (.cells #[.slice (some ⟨W.heap.size, 0, none⟩) 3 3, .slice (some ⟨W.heap.size + 1, 0, none⟩) 2 2] 25)) (some ⟨W.heap.size + 1 + 1, 0, none⟩) [[⟨#[97]⟩, ⟨#[98]⟩, ⟨#[99]⟩], [⟨#[49]⟩, ⟨#[50]⟩]] := by
  have h1 := C_strs W 9 [⟨#[97]⟩, ⟨#[98]⟩, ⟨#[99]⟩] (by decide)
  have h2 := C_strs (W.alloc (.cells #[.string ⟨#[97]⟩, .string ⟨#[98]⟩, .string ⟨#[99]⟩] 9)) 9 [⟨#[49]⟩, ⟨#[50]⟩] (by decide)
  rw [World.size_alloc] at h2
  have h3 := heap_alloc_new ((W.alloc (.cells #[.string ⟨#[97]⟩, .string ⟨#[98]⟩, .string ⟨#[99]⟩] 9)).alloc (.cells #[.string ⟨#[49]⟩, .string ⟨#[50]⟩] 9)) (.cells #[.slice (some ⟨W.heap.size, 0, none⟩) 3 3, .slice (some ⟨W.heap.size + 1, 0, none⟩) 2 2] 25)
  rw [World.size_alloc, World.size_alloc] at h3
  intro i hi
  match i, hi with
  | 0, _ => exact ⟨_, _, 3, rfl, by rw [add_plain, Lib.cell_of_heap h3]; rfl, Nat.le_refl 3, Kd.C_below h1 (bth (bal (Below.refl _ _) _) (bal (Below.refl _ _) _))⟩
  | 1, _ => exact ⟨_, _, 2, rfl, by rw [add_plain, Lib.cell_of_heap h3]; rfl, Nat.le_refl 2, Kd.C_below h2 (bal (Below.refl _ _) _)⟩
  | i + 2, h => exact absurd h (by simp)
set_option maxHeartbeats 4000000 in
set_option maxRecDepth 100000 in
theorem alive_calls (w : World) (hT : TzW w) : Calls Tryd.prog 26 #[] w fun e w' => e = .returned (.bool true) ∧ Below w.heap.size w w' := by
  obtain ⟨k1, hk1⟩ := same_ev pasteX (by decide)
  obtain ⟨k2, hk2⟩ := same_ev joinX (by decide)
  have K1 := Lib.hid hk1
  have K2 := Lib.hid hk2
  have HT := Lib.hid hT
  clear hk1 hk2 hT
  go_enter Tryd.func26, Tryd.ntmps26
  go_wp2_with fail
  refine (cmp1 _).mono ?_
  rintro e w1 ⟨rfl, hb1⟩
  have B1 := Lib.hid hb1
  clear hb1
  go_wp2_with fail
  refine (cmp2 _).mono ?_
  rintro e w2 ⟨rfl, hb2⟩
  have B2 := Lib.hid (bth B1.out hb2)
  clear hb2
  go_wp2_with fail
  refine (paste1 _ _ _ (rows1 w2) (by decide)).mono ?_
  rintro e w3 ⟨⟨A3, c3, rfl, hc3, hC3⟩, hb3⟩
  have C3 := Lib.hid hC3
  have B3 := Lib.hid (bth B2.out (bth (bal (bal (bal (Below.refl _ _) _) _) _) hb3))
  clear hb3 hC3
  go_wp2_with fail
  have b4 := bal (bal (Below.refl w3.heap.size w3) (Obj.cells #[.string ⟨#[97, 58, 49]⟩, .string ⟨#[98, 58, 50]⟩, .string ⟨#[98, 58, 51]⟩] 9)) (Obj.cells #[.string ⟨#[98, 58, 120]⟩, .string ⟨#[99, 58, 121]⟩] 9)
  have j2 := C_strs (w3.alloc (Obj.cells #[.string ⟨#[97, 58, 49]⟩, .string ⟨#[98, 58, 50]⟩, .string ⟨#[98, 58, 51]⟩] 9)) 9 [⟨#[98, 58, 120]⟩, ⟨#[99, 58, 121]⟩] (by decide)
  rw [World.size_alloc] at j2
  refine (join1 _ _ _ _ _ (Kd.C_below (C_strs w3 9 [⟨#[97, 58, 49]⟩, ⟨#[98, 58, 50]⟩, ⟨#[98, 58, 51]⟩] (by decide)) (bal (Below.refl _ _) _)) j2 (by decide) (by decide)).mono ?_
  rintro e w4 ⟨⟨A4, c4, rfl, hc4, hC4⟩, hb4⟩
  have C4 := Lib.hid hC4
  have B4 := Lib.hid (bth B3.out (bth b4 hb4))
  have C3' := Lib.hid (Kd.C_below C3.out (bth b4 hb4))
  clear hb4 hC4 b4 j2
  go_wp2_with fail
  have b5 := bal (Below.refl w4.heap.size w4) (Obj.cells #[.string ⟨#[98]⟩, .string ⟨#[97]⟩] 9)
  refine (join2 _ _ _ (C_strs w4 9 [⟨#[98]⟩, ⟨#[97]⟩] (by decide)) (by decide)).mono ?_
  rintro e w5 ⟨⟨v5, rfl⟩, hb5⟩
  have B5 := Lib.hid (bth B4.out (bth b5 hb5))
  have C5 := Lib.hid (Kd.C_below C3'.out (bth b5 hb5))
  have D5 := Lib.hid (Kd.C_below C4.out (bth b5 hb5))
  clear hb5 b5
  go_wp2_with fail
  have b6 := bal (Below.refl w5.heap.size w5) (Obj.cells #[.string ⟨#[97, 58, 49]⟩, .string ⟨#[98, 58, 50]⟩, .string ⟨#[99, 58]⟩] 9)
  refine (toolchestlaw01_SameTexts.calls k1 A3 c3 pasteX (some ⟨w5.heap.size, 0, none⟩) 3 pasteX true _ (Kd.C_below C5.out b6) hc3 (C_strs w5 9 pasteX (by decide)) (by decide) K1.out).mono ?_
  first | (rintro e w6 rfl hb6) | (rintro e w6 ⟨rfl, hb6⟩)
  have B6 := Lib.hid (bth B5.out (bth b6 hb6.below))
  have D6 := Lib.hid (Kd.C_below D5.out (bth b6 hb6.below))
  clear hb6 b6
  go_wp2_with fail
  have b7 := bal (Below.refl w6.heap.size w6) (Obj.cells #[.string ⟨#[98, 58, 50, 58, 120]⟩, .string ⟨#[98, 58, 51, 58, 120]⟩] 9)
  refine (toolchestlaw01_SameTexts.calls k2 A4 c4 joinX (some ⟨w6.heap.size, 0, none⟩) 2 joinX true _ (Kd.C_below D6.out b7) hc4 (C_strs w6 9 joinX (by decide)) (by decide) K2.out).mono ?_
  first | (rintro e w7 rfl hb7) | (rintro e w7 ⟨rfl, hb7⟩)
  have B7 := Lib.hid (bth B6.out (bth b7 hb7.below))
  clear hb7 b7
  go_wp2_with fail
  refine (sum1 _).mono ?_
  rintro e w8 ⟨rfl, hb8⟩
  have B8 := Lib.hid (bth B7.out hb8)
  clear hb8
  go_wp2_with fail
  refine (sum2 _).mono ?_
  rintro e w9 ⟨rfl, hb9⟩
  have B9 := Lib.hid (bth B8.out hb9)
  clear hb9
  go_wp2_with fail
  refine (dump1 _ (HT.out.below B9.out)).mono ?_
  rintro e w10 ⟨rfl, hb10⟩
  have B10 := Lib.hid (bth B9.out hb10)
  clear hb10
  go_wp2
  go_ret
  exact ⟨rfl, B10.out⟩
end Go.Proofs.YthkaekeelokajaaDoor.P

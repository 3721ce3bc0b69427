/- Chapter 7's alive: the answers that the document fixes are told. -/
import Derived.Test.YtkedjlekeohpaaaDoorCFields
import Derived.Test.YtkedjlekeohpaaaDoorCFold
import Derived.Test.YtkedjlekeohpaaaDoorCExpand
import Derived.Test.YtkedjlekeohpaaaDoorCNumber
import Derived.Test.YtkedjlekeohpaaaDoorCBytes
import Derived.Test.YtkedjlekeohpaaaDoorEnvW
import Derived.Test.YtkedjlekeohpaaaDoorSameSelf
set_option linter.unusedVariables false
set_option linter.unusedSimpArgs false
namespace Go.Proofs.YtkedjlekeohpaaaDoor.P
open Go.RowKit Go.Proofs Go.Proofs.YtkedjlekeohpaaaDoor.Q Go.Proofs.YtkedjlekeohpaaaDoor.H Go.Proofs.YtkedjlekeohpaaaDoor.C Go.Proofs.YtkedjlekeohpaaaDoor.S Go.Proofs.YtkedjlekeohpaaaDoorW.PrintWords Go.Proofs.YtkedjlekeohpaaaDoorW.PrintLast

/-- A literal list of places. -/
theorem C_rlit (W : World) (l : List RS) (n : Nat) (hn : n = l.length) (cs : Array Value) (hc : cs = (rgs l).toArray) (hl : l.length ≤ 1000) : Kd.C k34 (W.alloc (.cells cs 34)) (some ⟨W.heap.size, 0, none⟩) n l := by
  subst hn hc
  have hb := heap_alloc_new W (.cells (rgs l).toArray 34)
  refine ⟨rfl, by omega, fun h0 => ⟨_, rfl, fun j p hj => ⟨[.int .i64 p.f0, .int .i64 p.f1], rfl, k34_mk _ _, fun i u hu => ?_⟩⟩⟩
  obtain ⟨hlt, hp⟩ := List.getElem?_eq_some_iff.1 hj
  obtain ⟨a, b⟩ := rgs_get l j hlt
  rw [add_plain, Lib.cell_of_heap hb, List.getElem?_toArray]
  match i, hu with
  | 0, hu =>
    simp at hu
    subst hu
    exact a.trans (by rw [hp])
  | 1, hu =>
    simp at hu
    subst hu
    exact b.trans (by rw [hp])
  | i + 2, hu => simp at hu
theorem f1 : fieldsE [⟨3, 3⟩, ⟨1, 1⟩] 58 false [97, 58, 98, 58, 99] = ([97, 58, 99], true) := by decide +kernel
theorem f2 : fieldsE [⟨3, 3⟩, ⟨1, 1⟩] 58 true [97, 98, 99] = ([], false) := by decide +kernel
theorem f3 : foldE 4 true [97, 98, 32, 99, 100, 32, 101, 102] = ([[97, 98, 32], [99, 100, 32], [101, 102]], 0) := by decide +kernel
theorem f4 : expE 4 [97, 9, 98] = ([97, 32, 32, 32, 98], 0) := by decide +kernel
theorem f5 : expE 0 [97] = ([], 1) := by decide +kernel
theorem f6 : pickL (hasN [⟨2, 3⟩, ⟨5, 0⟩]) 1 ([97, 98, 99, 100, 101, 102] : List UInt8) = [98, 99, 101, 102] := by decide +kernel
theorem d9 : dig 9 = ⟨#[57]⟩ := by unfold dig; rw [Lib.decDigits_one (by decide)]; rfl
theorem d10 : dig 10 = ⟨#[49, 48]⟩ := by unfold dig; rw [Lib.decDigits_two (by decide) (by decide)]; rfl
theorem f7 : numL 3 9 [⟨#[97]⟩, ⟨#[98]⟩] = [⟨#[32, 32, 57, 9, 97]⟩, ⟨#[32, 49, 48, 9, 98]⟩] := by
  simp only [numL, lineN, d9, d10]
  decide +kernel
theorem reads_own {W : World} {base n : Nat} {v : Value} {l : List ByteArray} (h : W.ownsRow base 9 1 v n (strs l)) : ∃ A c, v = .slice A l.length c ∧ l.length ≤ c ∧ Kd.C Kd.string W A l.length l := Kd.R_reads (R_of_own h)
theorem same_ev (l : List ByteArray) (hl : l.length ≤ 2000000) : ∃ k, toolchestlaw01_SameTexts.f k l l = some true := (same_self l hl).at_
theorem fields1 (w : World) (A : Option Addr) (c : Nat) (hE : w.ShapedOpen Tryd.prog) (hr : Kd.C k34 w A 2 [⟨3, 3⟩, ⟨1, 1⟩]) (hc : 2 ≤ c) :
    Calls Tryd.prog 12 #[.string ⟨#[97, 58, 98, 58, 99]⟩, .slice A 2 c, .int .u8 58, .bool false] w fun e w' => e = .returned (.tuple #[.string ⟨#[97, 58, 99]⟩, .bool true]) ∧ Below w.heap.size w w' := by
  have h := fields_calls ⟨#[97, 58, 98, 58, 99]⟩ (by decide) A c [⟨3, 3⟩, ⟨1, 1⟩] 58 false w hE hr hc
  rw [show fieldsE [⟨3, 3⟩, ⟨1, 1⟩] 58 false (⟨#[97, 58, 98, 58, 99]⟩ : ByteArray).data.toList = ([97, 58, 99], true) from f1] at h
  exact h
theorem fields2 (w : World) (A : Option Addr) (c : Nat) (hE : w.ShapedOpen Tryd.prog) (hr : Kd.C k34 w A 2 [⟨3, 3⟩, ⟨1, 1⟩]) (hc : 2 ≤ c) :
    Calls Tryd.prog 12 #[.string ⟨#[97, 98, 99]⟩, .slice A 2 c, .int .u8 58, .bool true] w fun e w' => e = .returned (.tuple #[.string ⟨#[]⟩, .bool false]) ∧ Below w.heap.size w w' := by
  have h := fields_calls ⟨#[97, 98, 99]⟩ (by decide) A c [⟨3, 3⟩, ⟨1, 1⟩] 58 true w hE hr hc
  rw [show fieldsE [⟨3, 3⟩, ⟨1, 1⟩] 58 true (⟨#[97, 98, 99]⟩ : ByteArray).data.toList = ([], false) from f2] at h
  exact h
def foldX : List ByteArray := [⟨#[97, 98, 32]⟩, ⟨#[99, 100, 32]⟩, ⟨#[101, 102]⟩]
theorem fold1 (w : World) (hE : EnvW w) :
    Calls Tryd.prog 19 #[.string ⟨#[97, 98, 32, 99, 100, 32, 101, 102]⟩, .int .i64 4, .bool true] w fun e w' => (∃ A c, e = .returned (.tuple #[.slice A 3 c, .int .i64 0]) ∧ 3 ≤ c ∧ Kd.C Kd.string w' A 3 foldX) ∧ Below w.heap.size w w' := by
  refine (fold_calls ⟨#[97, 98, 32, 99, 100, 32, 101, 102]⟩ (by decide) 4 true w hE.utf).mono ?_
  rw [show foldE 4 true (⟨#[97, 98, 32, 99, 100, 32, 101, 102]⟩ : ByteArray).data.toList = ([[97, 98, 32], [99, 100, 32], [101, 102]], 0) from f3]
  rintro e w' ⟨v, rfl, ho, hb⟩
  obtain ⟨A, c, rfl, hc, hC⟩ := reads_own (l := foldX) ho
  exact ⟨⟨A, c, rfl, hc, hC⟩, hb⟩
theorem expand1 (w : World) : Calls Tryd.prog 20 #[.string ⟨#[97, 9, 98]⟩, .int .i64 4] w fun e w' => e = .returned (.tuple #[.string ⟨#[97, 32, 32, 32, 98]⟩, .int .i64 0]) ∧ Below w.heap.size w w' := by
  have h := expand_calls ⟨#[97, 9, 98]⟩ (by decide) 4 w
  rw [show expE 4 (⟨#[97, 9, 98]⟩ : ByteArray).data.toList = ([97, 32, 32, 32, 98], 0) from f4] at h
  exact h
theorem expand2 (w : World) : Calls Tryd.prog 20 #[.string ⟨#[97]⟩, .int .i64 0] w fun e w' => e = .returned (.tuple #[.string ⟨#[]⟩, .int .i64 1]) ∧ Below w.heap.size w w' := by
  have h := expand_calls ⟨#[97]⟩ (by decide) 0 w
  rw [show expE 0 (⟨#[97]⟩ : ByteArray).data.toList = ([], 1) from f5] at h
  exact h
def numX : List ByteArray := [⟨#[32, 32, 57, 9, 97]⟩, ⟨#[32, 49, 48, 9, 98]⟩]
theorem number1 (w : World) (A : Option Addr) (c : Nat) (hE : EnvW w) (hr : Kd.C Kd.string w A 2 [⟨#[97]⟩, ⟨#[98]⟩]) (hc : 2 ≤ c) :
    Calls Tryd.prog 22 #[.slice A 2 c, .int .i64 9, .int .i64 3] w fun e w' => (∃ A c, e = .returned (.slice A 2 c) ∧ 2 ≤ c ∧ Kd.C Kd.string w' A 2 numX) ∧ Below w.heap.size w w' := by
  refine (number_calls A c [⟨#[97]⟩, ⟨#[98]⟩] 9 3 9 3 (by decide) (by decide) w hE.pow hr hc (by decide) (fun s hs => by simp at hs; rcases hs with rfl | rfl <;> decide)).mono ?_
  rw [f7]
  rintro e w' ⟨v, rfl, ho, hb⟩
  obtain ⟨A, c, rfl, hc, hC⟩ := reads_own (l := numX) ho
  exact ⟨⟨A, c, rfl, hc, hC⟩, hb⟩
theorem bytes1 (w : World) (A : Option Addr) (c : Nat) (hr : Kd.C k34 w A 2 [⟨2, 3⟩, ⟨5, 0⟩]) (hc : 2 ≤ c) :
    Calls Tryd.prog 17 #[.string ⟨#[97, 98, 99, 100, 101, 102]⟩, .slice A 2 c] w fun e w' => e = .returned (.string ⟨#[98, 99, 101, 102]⟩) ∧ Below w.heap.size w w' := by
  have h := bytes_calls ⟨#[97, 98, 99, 100, 101, 102]⟩ (by decide) A c [⟨2, 3⟩, ⟨5, 0⟩] w hr hc
  rw [show (⟨#[97, 98, 99, 100, 101, 102]⟩ : ByteArray).data.toList = [97, 98, 99, 100, 101, 102] from rfl, f6] at h
  exact h
set_option maxHeartbeats 4000000 in
set_option maxRecDepth 100000 in
theorem alive_calls (w : World) (hE : EnvW w) : Calls Tryd.prog 15 #[] w fun e w' => e = .returned (.bool true) ∧ Below w.heap.size w w' := by
  obtain ⟨k1, hk1⟩ := same_ev foldX (by decide)
  obtain ⟨k2, hk2⟩ := same_ev numX (by decide)
  have K1 := Lib.hid hk1
  have K2 := Lib.hid hk2
  have HE := Lib.hid hE
  clear hk1 hk2 hE
  obtain ⟨W1, hW1⟩ : ∃ W1, w.alloc (.cells #[.int .i64 3, .int .i64 3, .int .i64 1, .int .i64 1] 34) = W1 := ⟨_, rfl⟩
  have b1 : Below w.heap.size w W1 := by rw [← hW1]; exact bal (Below.refl _ _) _
  have r1 : Kd.C k34 W1 (some ⟨w.heap.size, 0, none⟩) 2 [⟨3, 3⟩, ⟨1, 1⟩] := by rw [← hW1]; exact C_rlit w [⟨3, 3⟩, ⟨1, 1⟩] 2 rfl _ rfl (by decide)
  have HW1 := Lib.hid hW1
  have B1 := Lib.hid b1
  have R1 := Lib.hid r1
  clear hW1 b1 r1
  go_enter Tryd.func15, Tryd.ntmps15
  go_upto_region 2 with (fail)
  rw [HW1.out]
  go_wp2_with fail
  refine (fields1 _ _ _ (HE.out.below B1.out).shape R1.out (by omega)).mono ?_
  rintro e w2 ⟨rfl, hb2⟩
  have B2 := Lib.hid (bth B1.out hb2)
  have R2 := Lib.hid (Kd.C_below R1.out hb2)
  clear hb2
  go_wp2_with fail
  refine (fields2 _ _ _ (HE.out.below B2.out).shape R2.out (by omega)).mono ?_
  rintro e w3 ⟨rfl, hb3⟩
  have B3 := Lib.hid (bth B2.out hb3)
  clear hb3
  go_wp2_with fail
  refine (fold1 _ (HE.out.below B3.out)).mono ?_
  rintro e w4 ⟨⟨A4, c4, rfl, hc4, hC4⟩, hb4⟩
  have C4 := Lib.hid hC4
  have B4 := Lib.hid (bth B3.out hb4)
  clear hb4 hC4
  go_wp2_with fail
  refine (expand1 _).mono ?_
  rintro e w5 ⟨rfl, hb5⟩
  have B5 := Lib.hid (bth B4.out hb5)
  have C5 := Lib.hid (Kd.C_below C4.out hb5)
  clear hb5
  go_wp2_with fail
  refine (expand2 _).mono ?_
  rintro e w6 ⟨rfl, hb6⟩
  have B6 := Lib.hid (bth B5.out hb6)
  have C6 := Lib.hid (Kd.C_below C5.out hb6)
  clear hb6
  go_wp2_with fail
  have b7 := bal B6.out (Obj.cells #[.string ⟨#[97]⟩, .string ⟨#[98]⟩] 9)
  refine (number1 _ _ _ (HE.out.below b7) (C_strs w6 9 [⟨#[97]⟩, ⟨#[98]⟩] (by decide)) (by omega)).mono ?_
  rintro e w7 ⟨⟨A7, c7, rfl, hc7, hC7⟩, hb7⟩
  have C7 := Lib.hid hC7
  have B7 := Lib.hid (bth b7 hb7)
  have C7' := Lib.hid (Kd.C_below C6.out (bth (bal (Below.refl _ _) _) hb7))
  clear hb7 hC7 b7
  go_wp2_with fail
  have b8 := bal (Below.refl w7.heap.size w7) (Obj.cells #[.int .i64 2, .int .i64 3, .int .i64 5, .int .i64 0] 34)
  refine (bytes1 _ _ _ (C_rlit w7 [⟨2, 3⟩, ⟨5, 0⟩] 2 rfl _ rfl (by decide)) (by omega)).mono ?_
  rintro e w8 ⟨rfl, hb8⟩
  have B8 := Lib.hid (bth B7.out (bth b8 hb8))
  have C8 := Lib.hid (Kd.C_below C7'.out (bth b8 hb8))
  have D8 := Lib.hid (Kd.C_below C7.out (bth b8 hb8))
  clear hb8 b8
  go_wp2_with fail
  have b9 := bal (Below.refl w8.heap.size w8) (Obj.cells #[.string ⟨#[97, 98, 32]⟩, .string ⟨#[99, 100, 32]⟩, .string ⟨#[101, 102]⟩] 9)
  refine (toolchestlaw01_SameTexts.calls k1 A4 c4 foldX (some ⟨w8.heap.size, 0, none⟩) 3 foldX true _ (Kd.C_below C8.out b9) hc4 (C_strs w8 9 foldX (by decide)) (by decide) K1.out).mono ?_
  first | (rintro e w9 rfl hb9) | (rintro e w9 ⟨rfl, hb9⟩)
  have B9 := Lib.hid (bth B8.out (bth b9 hb9.below))
  have D9 := Lib.hid (Kd.C_below D8.out (bth b9 hb9.below))
  clear hb9 b9
  go_wp2_with fail
  have b10 := bal (Below.refl w9.heap.size w9) (Obj.cells #[.string ⟨#[32, 32, 57, 9, 97]⟩, .string ⟨#[32, 49, 48, 9, 98]⟩] 9)
  refine (toolchestlaw01_SameTexts.calls k2 A7 c7 numX (some ⟨w9.heap.size, 0, none⟩) 2 numX true _ (Kd.C_below D9.out b10) hc7 (C_strs w9 9 numX (by decide)) (by decide) K2.out).mono ?_
  first | (rintro e w10 rfl hb10) | (rintro e w10 ⟨rfl, hb10⟩)
  have B10 := Lib.hid (bth B9.out (bth b10 hb10.below))
  clear hb10 b10
  go_wp2
  go_ret
  exact ⟨rfl, B10.out⟩
end Go.Proofs.YtkedjlekeohpaaaDoor.P

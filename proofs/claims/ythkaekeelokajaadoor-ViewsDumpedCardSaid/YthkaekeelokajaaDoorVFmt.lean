/- strconv.FormatInt at base 8, strings.Repeat of a nought, views.octal. -/
import Derived.Test.YthkaekeelokajaaDoorShelf
import Derived.Test.YthkaekeelokajaaDoorHelp
import Derived.Test.YthkaekeelokajaaDoorConv
import Derived.Test.YthkaekeelokajaaDoorVOct
import Derived.Great.Walk
import Derived.Laws.Rows
import Derived.Laws.Bits64b
import Derived.Laws.BitsAllLaws
import Derived.Laws.IdiomStrings
import Derived.WalkLawsBesides
import Derived.WalkSpells
import Derived.Outline
set_option linter.unusedVariables false
set_option linter.unusedSimpArgs false
namespace Go.Proofs.YthkaekeelokajaaDoor.C
open Go.RowKit Go.Proofs Go.Proofs.YthkaekeelokajaaDoor.H Go.Proofs.YthkaekeelokajaaDoor.Oct Go.Proofs.YthkaekeelokajaaDoorW.PrintWords

/-- The one entry of the library's table that is asked at base 8. -/
def TzW (w : World) : Prop := w.cell? ⟨3, 7, none⟩ = some (.int .u8 3)
set_option maxHeartbeats 1000000 in
set_option maxRecDepth 100000 in
theorem tz8in (w : World) (hT : TzW w) : Calls Tryd.prog 169 #[.int .u64 8] w fun e w' => e = .returned (.int .i64 3) ∧ w = w' := by
  unfold TzW at hT
  go_enter Tryd.func169, Tryd.ntmps169
  have key : IntKind.u64.wrap (bits BinOp.and IntKind.u64 8 (IntKind.u64.wrap (-8)) * 285870213051353865) / 288230376151711744 = 7 := by decide +kernel
  go_wp2_with (simp only [key])
  go_ret
  exact ⟨rfl, rfl⟩
set_option maxHeartbeats 1000000 in
set_option maxRecDepth 100000 in
theorem tz8_calls (w : World) (hT : TzW w) : Calls Tryd.prog 165 #[.int .u64 8] w fun e w' => e = .returned (.int .i64 3) ∧ w = w' := by
  have HT := Lib.hid hT
  clear hT
  go_enter Tryd.func165, Tryd.ntmps165
  go_wp2_with (go_at_call 169; refine (tz8in _ HT.out).mono ?_; rintro e w' ⟨rfl, rfl⟩)
  go_ret
  exact ⟨rfl, rfl⟩
set_option maxHeartbeats 1000000 in
set_option maxRecDepth 100000 in
theorem pow2_calls (w : World) : Calls Tryd.prog 164 #[.int .i64 8] w fun e w' => e = .returned (.bool true) ∧ w = w' := by
  go_enter Tryd.func164, Tryd.ntmps164
  have key : bits BinOp.and IntKind.i64 8 7 = 0 := by decide +kernel
  go_wp2_with (simp only [key])
  go_ret
  exact ⟨rfl, rfl⟩
abbrev digS : ByteArray := ⟨#[48, 49, 50, 51, 52, 53, 54, 55, 56, 57, 97, 98, 99, 100, 101, 102, 103, 104, 105, 106, 107, 108, 109, 110, 111, 112, 113, 114, 115, 116, 117, 118, 119, 120, 121, 122]⟩
theorem dig_get : ∀ d : Nat, d < 8 → digS.data.toList[d]? = some (dg d) := by decide +kernel
theorem dig_eq (d : Nat) (hd : d < 8) (h : d < digS.size) : digS[d] = dg d := by
  have h2 := dig_get d hd
  rw [List.getElem?_eq_getElem (by rw [Array.length_toList]; exact h)] at h2
  exact Option.some.inj h2
theorem dg_mod (n : Nat) : dg n = dg (n % 8) := by unfold dg; rw [Nat.mod_mod]
theorem and7 (n : Nat) (h : n < 18446744073709551616) : bits .and .u64 (n : Int) 7 = ((n % 8 : Nat) : Int) := by
  have := bits_and_u64_nat n 7 h (by decide)
  rw [show ((7 : Nat) : Int) = 7 from rfl] at this
  rw [this, show (7 : Nat) = 2 ^ 3 - 1 from rfl, Nat.and_two_pow_sub_one_eq_mod]
/-- The buffer of 65 bytes: its end told. -/
def BufAt (W : World) (B i : Nat) (L : List UInt8) : Prop := ∃ cur, W.heap[B]? = some (.cells cur 212 (0, 0)) ∧ cur.size = 65 ∧ i + L.length = 65 ∧ cur.toList.drop i = L.map fun c => Value.int .u8 (c.toNat : Int)
theorem BufAt.cell {W : World} {B i : Nat} {L : List UInt8} (h : BufAt W B i L) (j : Nat) (hj : j < 65) : (∃ v, W.cell? ⟨B, j, none⟩ = some v) ∧ W.frozen? ⟨B, j, none⟩ = false := by
  obtain ⟨cur, h1, h2, _, _⟩ := h
  refine ⟨⟨cur[j], ?_⟩, Lib.frozen_of_heap h1 j⟩
  rw [Lib.cell_of_heap h1, Array.getElem?_eq_getElem (by omega)]
theorem BufAt.put {W : World} {B i : Nat} {L : List UInt8} (h : BufAt W B (i + 1) L) (c : UInt8) : BufAt (W.setCell ⟨B, i, none⟩ (.int .u8 (c.toNat : Int))) B i (c :: L) := by
  obtain ⟨cur, h1, h2, h3, h4⟩ := h
  refine ⟨_, heap_setCell_same _ _ _ _ _ _ h1, by simpa using h2, by simp; omega, ?_⟩
  have hi : i < cur.size := by omega
  rw [Array.toList_setIfInBounds, List.drop_set, if_neg (by omega), Nat.sub_self, List.drop_eq_getElem_cons (by simpa using hi), List.set_cons_zero, h4]
  rfl
theorem BufAt.tell {W : World} {B i : Nat} {L : List UInt8} (h : BufAt W B i L) (j : Nat) (hj : j < L.length) : W.cell? ⟨B, i + j, none⟩ = some (.int .u8 (L[j].toNat : Int)) := by
  obtain ⟨cur, h1, h2, h3, h4⟩ := h
  rw [Lib.cell_of_heap h1]
  have e : (cur.toList.drop i)[j]? = cur[i + j]? := by rw [List.getElem?_drop, Array.getElem?_toList]
  rw [← e, h4]
  simp [hj]
theorem addr_at2 (g i j : Nat) : Addr.add ⟨g, i, none⟩ j = ⟨g, i + j, none⟩ := by
  unfold Addr.add
  split
  · rename_i h; subst h; rfl
  · simp
theorem slice65 (B j : Nat) (hj : j ≤ 64) (W : World) : (Instr.sliceAt 212 (.pointer (some ⟨B, 0, none⟩)) (some (.int .i64 (j : Int))) none none).run Tryd.prog W = .ok (.slice (some ⟨B, j, none⟩) (65 - j) (65 - j)) W := by
  have e1 : Tryd.prog.arrayLen 212 = 65 := by kernel_rfl
  have e2 : Tryd.prog.elem 212 = 5 := by kernel_rfl
  have hs : (sizeOf 5).run Tryd.prog W = .ok 1 W := by kernel_rfl
  rw [run_sliceAt_array_l (P := Tryd.prog) W 212 ⟨B, 0, none⟩ (by rw [e1, e2]; exact Tryd.underlying212) .i64 (j : Int) (by omega) (by rw [e1]; omega), e1, e2, hs]
  simp only [Result.andThen, slicedAt, Int.toNat_natCast, Nat.mul_one]
  rw [if_neg (by omega), addr_at2, Nat.zero_add]
set_option maxHeartbeats 2000000 in
set_option maxRecDepth 100000 in
theorem formatBits_calls (n : Nat) (hn : n < 8 ^ 14) (w : World) (hT : TzW w) :
    Calls Tryd.prog 151 #[.slice none 0 0, .int .u64 (n : Int), .int .i64 8, .bool false, .bool false] w fun e w' => e = .returned (.tuple #[.slice none 0 0, .string ⟨(oct n).toArray⟩]) ∧ Below w.heap.size w w' := by
  have hn0 : n < 4398046511104 := by simpa using hn
  obtain ⟨W0, hW0⟩ : ∃ W0, w.alloc (.cells Tryd.zeroCells212 212) = W0 := ⟨_, rfl⟩
  have b0 : Below w.heap.size w W0 := by rw [← hW0]; exact bal (Below.refl _ _) _
  have z0 : BufAt W0 w.heap.size 65 [] := by
    rw [← hW0]
    refine ⟨_, heap_alloc_new _ _, by kernel_rfl, rfl, ?_⟩
    exact List.drop_eq_nil_of_le (by rw [Array.length_toList]; exact Nat.le_of_eq (by kernel_rfl))
  have hT0 : TzW W0 := (b0.cell (block_lt_of_cell hT)).trans hT
  have HW := Lib.hid hW0
  have B0 := Lib.hid (And.intro b0 z0)
  have HT := Lib.hid hT0
  clear hW0 b0 z0 hT hT0 hn
  go_enter Tryd.func151, Tryd.ntmps151
  go_upto_region 7 with (fail)
  rw [HW.out]
  go_wp2_with (first | (go_at_call 164; refine (pow2_calls _).mono ?_; rintro e w' ⟨rfl, rfl⟩) | (go_at_call 165; refine (tz8_calls _ HT.out).mono ?_; rintro e w' ⟨rfl, rfl⟩))
  go_loopw [1, 13] (fun u i wr => ∃ (m k : Nat) (L : List UInt8), u = .int .u64 (m : Int) ∧ i = .int .i64 (k : Int) ∧ m ≤ n ∧ k ≤ 65 ∧ 51 + (oct m).length ≤ k ∧ Hid (Below w.heap.size w wr ∧ BufAt wr w.heap.size k L ∧ oct n = oct m ++ L)) (fun u _ _ => (intOf u).toNat)
  case atStart => exact ⟨n, 65, [], rfl, rfl, Nat.le_refl _, Nat.le_refl _, by have := oct_len 14 n (by omega) (by decide); omega, Lib.hid ⟨B0.out.1, B0.out.2, by simp⟩⟩
  case round =>
    obtain ⟨m, k, L, rfl, rfl, hmn, hk, hlen, hst⟩ := hrel
    have hd := dig_get (m % 8) (by omega)
    rw [← dg_mod] at hd
    have ha := and7 m (by omega)
    by_cases h8 : 8 ≤ m
    · have ho := oct_big m h8
      have hpos := oct_len_pos (m / 8)
      rw [ho, List.length_append, List.length_singleton] at hlen
      obtain ⟨j, rfl⟩ : ∃ j, k = j + 1 := ⟨k - 1, by omega⟩
      obtain ⟨⟨v0, hc0⟩, hf0⟩ := hst.out.2.1.cell j (by omega)
      have hj0 : (((j + 1 : Nat) : Int)) - 1 = (j : Int) := by omega
      have HO := Lib.hid ho
      have HL := Lib.hid hlen
      clear ho hlen hpos
      go_wp2
      go_roundw
      case rel =>
        refine ⟨m / 8, j, dg m :: L, by go_num, rfl, by omega, by omega, by have := HL.out; omega, ?_⟩
        have hq : digS[m % 8]'(by show m % 8 < 36; omega) = dg m := (dig_eq (m % 8) (by omega) _).trans (dg_mod m).symm
        refine Lib.hid ⟨hst.out.1.setCell (p := ⟨w.heap.size, j, none⟩) (Nat.le_refl _) _, ?_, by rw [hst.out.2.2, HO.out]; simp⟩
        have hp := hst.out.2.1.put (digS[m % 8]'(by show m % 8 < 36; omega))
        rw [hq] at hp
        have e : (digS[m % 8]'(by show m % 8 < 36; omega) :: L) = dg m :: L := by rw [hq]
        have hp2 := hst.out.2.1.put (dg m)
        have e3 : (Value.int .u8 ((dg m).toNat : Int)) = Value.int .u8 ((digS[m % 8]'(by show m % 8 < 36; omega)).toNat : Int) := by rw [hq]
        rw [e3] at hp2
        exact hp2
      case measure => simp [intOf]; omega
    · have ho := oct_small m (by omega)
      rw [ho, List.length_singleton] at hlen
      obtain ⟨j, rfl⟩ : ∃ j, k = j + 1 := ⟨k - 1, by omega⟩
      obtain ⟨⟨v0, hc0⟩, hf0⟩ := hst.out.2.1.cell j (by omega)
      have hj0 : (((j + 1 : Nat) : Int)) - 1 = (j : Int) := by omega
      have hq : digS[m]'(by show m < 36; omega) = dg m := dig_eq m (by omega) _
      have hp := hst.out.2.1.put (dg m)
      rw [← hq] at hp
      have hN : 65 - j = (digS[m]'(by show m < 36; omega) :: L).length := by obtain ⟨cur, _, _, h3, _⟩ := hp; omega
      have hcv := run_convert_bytes_back (P := Tryd.prog) _ 53 9 5 ⟨w.heap.size, j, none⟩ (65 - j) _ Tryd.underlying53 Tryd.underlying5 Tryd.underlying9 (fun i hi => by rw [addr_at2]; exact hp.tell i hi)
      rw [← hN] at hcv
      have HCV := Lib.hid (And.intro hcv (show oct n = dg m :: L by rw [hst.out.2.2, ho]; rfl))
      have HQ := Lib.hid hq
      have hsl := slice65 w.heap.size j (by omega)
      clear ho hp hN hq hcv
      go_wp2_with (first | rw [hsl] | rw [HCV.out.1])
      go_ret2
      refine ⟨?_, hst.out.1.setCell (p := ⟨w.heap.size, j, none⟩) (Nat.le_refl _) _⟩
      rw [HCV.out.2, ← HQ.out]
      rfl
set_option maxHeartbeats 1000000 in
set_option maxRecDepth 100000 in
theorem fmt8_in (n : Nat) (hn : n < 8 ^ 14) (w : World) (hT : TzW w) :
    Calls Tryd.prog 139 #[.int .i64 (n : Int), .int .i64 8] w fun e w' => e = .returned (.string ⟨(oct n).toArray⟩) ∧ Below w.heap.size w w' := by
  have HF := Lib.hid (fun W => formatBits_calls n hn W)
  have HT := Lib.hid hT
  have hn0 : (n : Int) < 4398046511104 := by have : n < 4398046511104 := by simpa using hn
                                             omega
  have hn1 : decide ((n : Int) < 0) = false := by simp
  clear hn hT
  go_enter Tryd.func139, Tryd.ntmps139
  go_wp2_with (go_at_call 151; refine (HF.out _ HT.out).mono ?_; rintro e w' ⟨rfl, hb⟩)
  go_ret
  exact ⟨rfl, hb⟩
set_option maxHeartbeats 1000000 in
set_option maxRecDepth 100000 in
theorem fmt8_calls (n : Nat) (hn : n < 8 ^ 14) (w : World) (hT : TzW w) :
    Calls Tryd.prog 123 #[.int .i64 (n : Int), .int .i64 8] w fun e w' => e = .returned (.string ⟨(oct n).toArray⟩) ∧ Below w.heap.size w w' := by
  have HF := Lib.hid (fun W => fmt8_in n hn W)
  have HT := Lib.hid hT
  clear hn hT
  go_enter Tryd.func123, Tryd.ntmps123
  go_wp2_with (go_at_call 139; refine (HF.out _ HT.out).mono ?_; rintro e w' ⟨rfl, hb⟩)
  go_ret
  exact ⟨rfl, hb⟩
theorem rep_list0 : ∀ c, Lib.repeatL [(48 : UInt8)] c = List.replicate c 48
  | 0 => rfl
  | c + 1 => by
    show [(48 : UInt8)] ++ Lib.repeatL [48] c = _
    rw [rep_list0 c]; rfl
theorem rep0_calls (x : Int) (c : Nat) (hx : x = (c : Int)) (w : World) (hc : c ≤ 1000000) : Calls Tryd.prog 124 #[.string ⟨#[48]⟩, .int .i64 x] w fun e w' => e = .returned (.string ⟨(List.replicate c (48 : UInt8)).toArray⟩) ∧ Below w.heap.size w w' := by
  subst hx
  refine (Tryd.strings_Repeat ⟨#[48]⟩ c w (by omega) (by show 1 * c ≤ _; omega)).mono ?_
  rintro e w' ⟨rfl, hb⟩
  refine ⟨?_, hb⟩
  show Ending.returned (Value.string ⟨(Lib.repeatL [48] c).toArray⟩) = _
  rw [rep_list0]
/-- A text of a list of bytes. -/
def bt (l : List UInt8) : ByteArray := ⟨l.toArray⟩
theorem bt_size (a : List UInt8) : (⟨a.toArray⟩ : ByteArray).size = a.length := by rw [Lib.size_eq]
theorem bt_app (a b : List UInt8) : (⟨a.toArray⟩ : ByteArray) ++ (⟨b.toArray⟩ : ByteArray) = ⟨(a ++ b).toArray⟩ := by
  apply ByteArray.ext
  rw [ByteArray.data_append]
  simp
theorem bt_add (a b : List UInt8) (t : TypeId) (h : a.length + b.length ≤ 9223372036854775807) : binOp .add t (.string ⟨a.toArray⟩) (.string ⟨b.toArray⟩) = pure (.string ⟨(a ++ b).toArray⟩) := by
  have h1 : ¬ (9223372036854775807 : Int) < ((⟨a.toArray⟩ : ByteArray).size : Int) + ((⟨b.toArray⟩ : ByteArray).size : Int) := by rw [bt_size, bt_size]; omega
  rw [← bt_app]
  simp [binOp, Op.stringOp, h1]
set_option maxHeartbeats 1000000 in
set_option maxRecDepth 100000 in
theorem octal_calls (n wide : Nat) (hn : n < 8 ^ 14) (hw : wide ≤ 1000) (w : World) (hT : TzW w) :
    Calls Tryd.prog 79 #[.int .i64 (n : Int), .int .i64 (wide : Int)] w fun e w' => e = .returned (.string ⟨(octP n wide).toArray⟩) ∧ Below w.heap.size w w' := by
  have hsz : (⟨(oct n).toArray⟩ : ByteArray).size = (oct n).length := by rw [Lib.size_eq]
  have hl := oct_len 14 n hn (by decide)
  have hadd := fun t => bt_add (List.replicate (wide - (oct n).length) 48) (oct n) t (by rw [List.length_replicate]; omega)
  have HF := Lib.hid (fun W => fmt8_calls n hn W)
  have HT := Lib.hid hT
  have HP := Lib.hid (show octP n wide = List.replicate (wide - (oct n).length) 48 ++ oct n from rfl)
  rw [HP.out]
  clear hT
  go_enter Tryd.func79, Tryd.ntmps79
  go_wp2_with (go_at_call 123; refine (HF.out _ HT.out).mono ?_; rintro e w1 ⟨rfl, hb1⟩)
  have hmx : max 0 ((wide : Int) - ((oct n).length : Int)) = ((wide - (oct n).length : Nat) : Int) := by omega
  have HM := Lib.hid hmx
  clear hmx
  have B1 := Lib.hid hb1
  clear hb1
  refine (rep0_calls _ _ HM.out _ (by omega)).mono ?_
  rintro e w2 ⟨rfl, hb2⟩
  have B2 := Lib.hid (bth B1.out hb2)
  clear hb2
  go_wp2
  go_ret
  exact ⟨rfl, B2.out⟩
end Go.Proofs.YthkaekeelokajaaDoor.C

/- strings.LastIndexAny at " \t" and any text: behind the last blank. -/
import Derived.Test.YtkedjlekeohpaaaGreatDoorRune
import Derived.Test.YtkedjlekeohpaaaGreatDoorEnvW
import Derived.Lib.SpaceU
set_option linter.unusedVariables false
set_option linter.unusedSimpArgs false
namespace Go.Proofs.YtkedjlekeohpaaaGreatDoor.K
open Go.RowKit Go.Proofs Go.Proofs.YtkedjlekeohpaaaGreatDoor.H

def blankC (c : UInt8) : Bool := [(32 : UInt8), 9].contains c
/-- Behind the last blank of the first k bytes; 0: none. -/
def behTo (l : List UInt8) : Nat → Nat
  | 0 => 0
  | k + 1 => if blankC (l.getD k 0) then k + 1 else behTo l k
def behL (l : List UInt8) : Nat := behTo l l.length
theorem beh_le (l : List UInt8) : ∀ k, behTo l k ≤ k
  | 0 => Nat.le_refl _
  | k + 1 => by
    unfold behTo
    split
    · exact Nat.le_refl _
    · have := beh_le l k; omega
theorem beh_succ (l : List UInt8) (k : Nat) : behTo l (k + 1) = if blankC (l.getD k 0) then k + 1 else behTo l k := rfl
theorem beh_skip (l : List UInt8) (k : Nat) : ∀ d, (∀ j, k ≤ j → j < k + d → blankC (l.getD j 0) = false) → behTo l (k + d) = behTo l k
  | 0, _ => rfl
  | d + 1, h => by
    rw [show k + (d + 1) = (k + d) + 1 by omega]
    rw [beh_succ, if_neg (by rw [h (k + d) (by omega) (by omega)]; decide)]
    exact beh_skip l k d (fun j h1 h2 => h j h1 (by omega))
theorem blank_high (c : UInt8) (h : 128 ≤ c.toNat) : blankC c = false := by
  cases hb : blankC c with
  | false => rfl
  | true =>
    unfold blankC at hb
    simp at hb
    rcases hb with rfl | rfl <;> simp at h
theorem blank_index (c : UInt8) : decide ((0 : Int) ≤ Lib.indexByte [32, 9] c) = blankC c := (Lib.contains_iff_indexByte [32, 9] c).symm
/-- The last rune of what is not empty, and not ended by an ASCII byte. -/
theorem last_high (l : List UInt8) (i : Nat) (hi : 0 < i) (hil : i ≤ l.length) (ha : 128 ≤ (l.getD (i - 1) 0).toNat) :
    128 ≤ (Lib.decodeLastL (l.take i)).1 ∧ (Lib.decodeLastL (l.take i)).1 ≤ 2147483647 ∧ 1 ≤ (Lib.decodeLastL (l.take i)).2 ∧ (Lib.decodeLastL (l.take i)).2 ≤ i ∧ ∀ j, i - (Lib.decodeLastL (l.take i)).2 ≤ j → j < i → 128 ≤ (l.getD j 0).toNat := by
  rcases Lib.last_cases l i hi hil with ⟨h, _⟩ | ⟨_, hd⟩ | ⟨_, st, hst, hd, hsum⟩
  · omega
  · rw [hd]
    refine ⟨by decide, by decide, Nat.le_refl _, hi, fun j h1 h2 => ?_⟩
    obtain rfl : j = i - 1 := by show j = i - 1; have h1' : i - 1 ≤ j := h1; omega
    exact ha
  · obtain ⟨x, hx⟩ : ∃ x, (l.take i).drop st = x := ⟨_, rfl⟩
    have hxl : x.length = i - st := by rw [← hx, List.length_drop, List.length_take]; omega
    have hxg : ∀ k, k < i - st → x.getD k 0 = l.getD (st + k) 0 := fun k hk => by
      rw [← hx]
      simp only [List.getD_eq_getElem?_getD, List.getElem?_drop, List.getElem?_take]
      rw [if_pos (by omega)]
    rw [hx] at hd hsum
    rw [hd]
    have hsz : (⟨x.toArray⟩ : ByteArray).size = i - st := by show x.toArray.size = _; simp [hxl]
    have h0 : 0 < (⟨x.toArray⟩ : ByteArray).size := by omega
    have hg : ∀ k (h : k < (⟨x.toArray⟩ : ByteArray).size), ((⟨x.toArray⟩ : ByteArray)[k]'h) = x.getD k 0 := fun k h => by
      show x.toArray[k] = _
      rw [List.getElem_toArray, List.getD_eq_getElem?_getD, List.getElem?_eq_getElem (by omega)]
      rfl
    have hw1 : 1 ≤ (Lib.decodeL x).2 := Lib.decodeL_width x
    by_cases hf : (x.getD 0 0).toNat < 128
    · have hasc : Lib.decodeL x = ((x.getD 0 0).toNat, 1) := by
        show Utf8.decode ⟨x.toArray⟩ 0 = _
        have e := hg 0 h0
        simp only [Utf8.decode, get_at _ 0 h0, e, hf, if_true]
      rw [hasc] at hsum
      have : i - 1 = st + 0 := by have : st + 1 = i := hsum; omega
      rw [this, ← hxg 0 (by omega)] at ha
      omega
    · have hh : 128 ≤ ((⟨x.toArray⟩ : ByteArray)[0]'h0).toNat := by rw [hg 0 h0]; omega
      obtain ⟨d1, d2⟩ := decode_high ⟨x.toArray⟩ 0 h0 hh
      have d3 := decode_le ⟨x.toArray⟩ 0
      have d4 := (decode_bytes ⟨x.toArray⟩ 0 h0 hh).2
      refine ⟨d1, d3, hw1, by show (Lib.decodeL x).2 ≤ i; omega, fun j h1 h2 => ?_⟩
      have hdx : (Lib.decodeL x).2 = (Utf8.decode ⟨x.toArray⟩ 0).2 := rfl
      have h1' : i - (Lib.decodeL x).2 ≤ j := h1
      have hk : j - st < (⟨x.toArray⟩ : ByteArray).size := by omega
      have := d4 (j - st) (Nat.zero_le _) (by omega)
      rw [get_pos _ _ hk, hg _ hk, hxg _ (by omega)] at this
      rw [show st + (j - st) = j by omega] at this
      exact this
theorem getD_byte (s : ByteArray) (k : Nat) (h : k < s.size) : s.data.toList.getD k 0 = s[k] := by
  rw [List.getD_eq_getElem?_getD, List.getElem?_eq_getElem (by rw [Array.length_toList]; exact h)]; rfl
theorem zeroSetL : (Tryz.prog.info? 159).map (fun i => (i.zero, i.size)) = some (some (.agg (Array.replicate 256 (.bool false))), 256) := by kernel_rfl
set_option maxHeartbeats 2000000 in
set_option maxRecDepth 100000 in
theorem lastAny_one (s : ByteArray) (w : World) (h1 : s.size = 1) :
    Calls Tryz.prog 90 #[.string s, .string ⟨#[32, 9]⟩] w fun e w' => e = .returned (.int .i64 ((behL s.data.toList : Int) - 1)) ∧ Below w.heap.size w w' := by
  have hsz : s.data.toList.length = 1 := by rw [← Lib.size_eq]; exact h1
  have h0 : 0 < s.size := by omega
  have hb : behL s.data.toList = if blankC s[0] then 1 else 0 := by
    unfold behL
    rw [hsz]
    unfold behTo
    rw [getD_byte s 0 h0]
    rfl
  have hn1 : ((s.size : Int) == 1) = true := by rw [h1]; rfl
  have hix : (0 : Int) < (s.size : Int) := by omega
  obtain ⟨x, hx⟩ : ∃ x : UInt8, s[0]'h0 = x := ⟨_, rfl⟩
  rw [hx] at hb
  have hbi := blank_index x
  have hback : ((x.toNat : Int)).toNat.toUInt8 = x := by simp
  rw [hb]
  clear hb hsz h1
  by_cases h128 : x.toNat < 128
  · cases hbl : blankC x with
    | true =>
      rw [hbl] at hbi
      have hge : (0 : Int) ≤ Lib.indexByte [32, 9] x := of_decide_eq_true hbi
      have HK := Lib.hid hback
      rw [show (((if (true = true) then 1 else 0 : Nat) : Int) - 1) = 0 from rfl]
      clear hbi hbl hback
      go_enter Tryz.func90, Tryz.ntmps90
      go_wp2_with fail
      refine (Tryz.strings_IndexRune_ascii _ _ _ (by omega) (by omega)).mono ?_
      rintro e w' ⟨rfl, hw⟩
      rw [hw, HK.out]
      clear hw
      go_wp2
      go_ret
      exact ⟨rfl, Below.refl _ _⟩
    | false =>
      rw [hbl] at hbi
      have hlt : ¬ ((0 : Int) ≤ Lib.indexByte [32, 9] x) := of_decide_eq_false hbi
      have HK := Lib.hid hback
      rw [show (((if (false = true) then 1 else 0 : Nat) : Int) - 1) = -1 from rfl]
      clear hbi hbl hback
      go_enter Tryz.func90, Tryz.ntmps90
      go_wp2_with fail
      refine (Tryz.strings_IndexRune_ascii _ _ _ (by omega) (by omega)).mono ?_
      rintro e w' ⟨rfl, hw⟩
      rw [hw, HK.out]
      clear hw
      go_wp2
      go_ret
      exact ⟨rfl, Below.refl _ _⟩
  · have hbl : blankC x = false := blank_high x (by omega)
    have hge : (128 : Int) ≤ (x.toNat : Int) := by omega
    have hx8 : (x.toNat : Int) < 256 := by have := x.toNat_lt; omega
    rw [hbl, show (((if (false = true) then 1 else 0 : Nat) : Int) - 1) = -1 from rfl]
    clear hbi hbl hback h128
    go_enter Tryz.func90, Tryz.ntmps90
    go_wp2_with fail
    refine (indexRune_err _).mono ?_
    rintro e w' ⟨rfl, hb2⟩
    go_wp2
    go_ret
    exact ⟨rfl, hb2⟩
set_option maxHeartbeats 4000000 in
set_option maxRecDepth 100000 in
theorem lastAny_long (s : ByteArray) (w : World) (h8 : 8 < s.size) (hs : s.size ≤ 100000000) :
    Calls Tryz.prog 90 #[.string s, .string ⟨#[32, 9]⟩] w fun e w' => e = .returned (.int .i64 ((behL s.data.toList : Int) - 1)) ∧ Below w.heap.size w w' := by
  have hM := Tryz.strings_makeASCIISet (zero_of_info zeroSetL).1 ⟨#[32, 9]⟩ w (by decide) (fun j b h => by
    have hm := List.mem_of_getElem? h
    simp at hm
    rcases hm with rfl | rfl <;> decide)
  have hsz : s.data.toList.length = s.size := (Lib.size_eq s).symm
  have hn1 : ((s.size : Int) == 1) = false := beq_eq_false_iff_ne.2 (by omega)
  have h8z : decide ((8 : Int) < (s.size : Int)) = true := decide_eq_true (by omega)
  obtain ⟨C, hC⟩ : ∃ C, Lib.setCells [32, 9] = C := ⟨_, rfl⟩
  have hC' : Lib.setCells (⟨#[32, 9]⟩ : ByteArray).data.toList = C := hC
  rw [hC'] at hM
  have hCs : C.size = 256 := by rw [← hC]; exact Lib.setCells_size _
  have hC1 : C.all (·.oneCell') = true := by rw [← hC]; exact Lib.setCells_one _
  have hsc : (storeCells ⟨w.heap.size + 1, 0, none⟩ C.toList 0).run Tryz.prog ((w.alloc (.cells C 159)).alloc (.cells Tryz.zeroCells159 159)) = .ok () ((w.alloc (.cells C 159)).alloc (.cells C 159)) := by
    have := run_storeCells_new (P := Tryz.prog) (w.alloc (.cells C 159)) 159 Tryz.zeroCells159 C (by rw [hCs]; exact (zero_of_info zeroSetL).2) (by rw [hCs]; kernel_rfl) hC1
    simpa using this
  have hcellAt : ∀ x : UInt8, ((w.alloc (.cells C 159)).alloc (.cells C 159)).cell? ⟨w.heap.size + 1, x.toNat, none⟩ = some (.bool (blankC x)) := fun x => by
    rw [World.cell?_alloc_at _ _ _ _ (by simp), ← hC]
    exact Lib.setCells_at [32, 9] x
  have HC := Lib.hid hcellAt
  have HM := Lib.hid hM
  have HZ := Lib.hid hsz
  clear hcellAt hM hsz hC' hC hC1
  go_enter Tryz.func90, Tryz.ntmps90
  go_wp2_with (first
    | (go_at_call 100; refine (Tryz.strings_shouldUseASCIISet _ _).mono ?_; rintro e w' ⟨rfl, hw⟩; rw [hw, h8z]; clear hw)
    | (go_at_call 101; refine HM.out.mono ?_; rintro e w' ⟨rfl, hw⟩; rw [hw]; clear hw))
  try simp only [Result.andThen, ↓reduceIte, hsc]
  try rw [Oper.upon_skip]
  go_wp2
  clear hsc HM
  obtain ⟨W2, hW2⟩ : ∃ W2, ((w.alloc (.cells C 159)).alloc (.cells C 159)) = W2 := ⟨_, rfl⟩
  have HB2 := Lib.hid (show Below w.heap.size w W2 by rw [← hW2]; exact bal (bal (Below.refl _ _) _) _)
  rw [hW2] at HC ⊢
  clear hW2
  go_loopg [8] (s.size + 1) (fun g s8 wx => g ≤ s.size + 1 ∧ wx = W2 ∧ ∃ k : Nat, k + 1 = g ∧ s8 = .int .i64 ((k : Int) - 1) ∧ Hid (behL s.data.toList = behTo s.data.toList k))
  case atStart => exact ⟨Nat.le_refl _, rfl, s.size, rfl, rfl, Lib.hid (by unfold behL; rw [HZ.out])⟩
  case round =>
    obtain ⟨hg1, rfl, k, hkg, rfl, hbk⟩ := hrel
    cases k with
    | zero =>
      rw [show (((0 : Nat) : Int) - 1) = -1 from rfl]
      go_wp2
      go_ret
      exact ⟨by rw [hbk.out]; rfl, HB2.out⟩
    | succ k =>
      rw [show (((k + 1 : Nat) : Int) - 1) = (k : Int) by omega]
      have hi : k < s.size := by omega
      have hiz : (k : Int) < (s.size : Int) := by omega
      have hk0 : (0 : Int) ≤ (k : Int) := by omega
      obtain ⟨x, hx⟩ : ∃ x : UInt8, s[k]'hi = x := ⟨_, rfl⟩
      have hst : behTo s.data.toList (k + 1) = if blankC x then k + 1 else behTo s.data.toList k := by rw [beh_succ, getD_byte s k hi, hx]
      have hcx := HC.out x
      cases hbl : blankC x with
      | true =>
        rw [hbl] at hst hcx
        have HST := Lib.hid (hbk.out.trans (hst.trans (if_pos rfl)))
        clear hst hbl
        go_wp2_with (go_at_call 102; refine (Tryz.asciiSet_contains _ x _ _ hcx).mono ?_; rintro e w' ⟨rfl, hw⟩; rw [hw]; clear hw)
        go_ret
        exact ⟨by rw [HST.out, show (((k + 1 : Nat) : Int) - 1) = (k : Int) by omega]; rfl, HB2.out⟩
      | false =>
        rw [hbl] at hst hcx
        have HST := Lib.hid (hbk.out.trans (hst.trans (if_neg (by decide))))
        clear hst hbl
        go_wp2_with (go_at_call 102; refine (Tryz.asciiSet_contains _ x _ _ hcx).mono ?_; rintro e w' ⟨rfl, hw⟩; rw [hw]; clear hw)
        go_roundg (k + 1)
        case measure => omega
        case rel => exact ⟨by omega, rfl, k, rfl, by first | rfl | simp, HST⟩
theorem take_bytes (s : ByteArray) (k : Nat) : (s.extract 0 k).data.toList = s.data.toList.take k := by
  rw [Lib.extract_data]; simp
set_option maxHeartbeats 4000000 in
set_option maxRecDepth 100000 in
theorem lastAny_short (s : ByteArray) (w : World) (h8 : s.size ≤ 8) (h1 : s.size ≠ 1) (hT : Lib.Utf8Tabs 2 3 w) :
    Calls Tryz.prog 90 #[.string s, .string ⟨#[32, 9]⟩] w fun e w' => e = .returned (.int .i64 ((behL s.data.toList : Int) - 1)) ∧ Below w.heap.size w w' := by
  have hsz : s.data.toList.length = s.size := (Lib.size_eq s).symm
  have hn1 : ((s.size : Int) == 1) = false := beq_eq_false_iff_ne.2 (by omega)
  have h8z : decide ((8 : Int) < (s.size : Int)) = false := decide_eq_false (by omega)
  have H8 := Lib.hid h8z
  have HZ := Lib.hid hsz
  have HT := Lib.hid hT
  clear h8z hsz hT h1
  go_enter Tryz.func90, Tryz.ntmps90
  go_wp2_with (go_at_call 100; refine (Tryz.strings_shouldUseASCIISet _ _).mono ?_; rintro e w' ⟨rfl, hw⟩; rw [hw, H8.out]; clear hw)
  go_loopg [13] (s.size + 1) (fun g sl wx => g ≤ s.size + 1 ∧ Hid (Below w.heap.size w wx) ∧ ∃ k : Nat, k + 1 = g ∧ sl = .int .i64 (k : Int) ∧ Hid (behL s.data.toList = behTo s.data.toList k))
  case atStart => exact ⟨Nat.le_refl _, Lib.hid (Below.refl _ _), s.size, rfl, rfl, Lib.hid (by unfold behL; rw [HZ.out])⟩
  case round =>
    obtain ⟨hg1, hb, k, hkg, rfl, hbk⟩ := hrel
    cases k with
    | zero =>
      go_wp2
      go_ret
      exact ⟨by rw [hbk.out]; rfl, hb.out⟩
    | succ k =>
      have hi : k < s.size := by omega
      have hik : (k : Int) + 1 ≤ (s.size : Int) := by omega
      obtain ⟨x, hx⟩ : ∃ x : UInt8, s.data.toList.getD k 0 = x := ⟨_, rfl⟩
      have hT1 := Lib.hid (Utf8Tabs_below HT.out hb.out)
      have hdec := fun (W : World) h => Tryz.utf8_DecodeLastRuneInString (s.extract 0 (k + 1)) W (by rw [Lib.size_eq, take_bytes, List.length_take]; omega) h
      rw [take_bytes] at hdec
      by_cases h128 : x.toNat < 128
      · have hd : Lib.decodeLastL (s.data.toList.take (k + 1)) = (x.toNat, 1) := by
          rcases Lib.last_cases s.data.toList (k + 1) (by omega) (by rw [HZ.out]; omega) with ⟨_, hd⟩ | ⟨ha, _⟩ | ⟨ha, _⟩
          · rw [hd, Nat.add_sub_cancel, hx]
          · rw [Nat.add_sub_cancel, hx] at ha; omega
          · rw [Nat.add_sub_cancel, hx] at ha; omega
        have hst : behTo s.data.toList (k + 1) = if blankC x then k + 1 else behTo s.data.toList k := by rw [beh_succ, hx]
        have hbi := blank_index x
        have HK := Lib.hid (show ((x.toNat : Int)).toNat.toUInt8 = x by simp)
        have hdec2 : ∀ (W : World), Lib.Utf8Tabs 2 3 W → Calls Tryz.prog 103 #[.string (s.extract 0 (k + 1))] W fun e w' => e = .returned (.tuple #[.int .i32 (x.toNat : Int), .int .i64 1]) ∧ Below W.heap.size W w' := fun W h => by
          have := hdec W h
          rw [hd] at this
          exact this
        have HDEC := Lib.hid hdec2
        clear hd hx hdec hdec2
        cases hbl : blankC x with
        | true =>
          rw [hbl] at hst hbi
          have hge : (0 : Int) ≤ Lib.indexByte [32, 9] x := of_decide_eq_true hbi
          have HST := Lib.hid (hbk.out.trans (hst.trans (if_pos rfl)))
          clear hst hbl hbi
          go_wp2_with fail
          refine (HDEC.out _ hT1.out).mono ?_
          rintro e w2 ⟨rfl, hb2⟩
          have HB2 := Lib.hid (bth hb.out hb2)
          clear hb2
          go_wp2_with (go_at_call 99; refine (Tryz.strings_IndexRune_ascii _ _ _ (by omega) (by omega)).mono ?_; rintro e w' ⟨rfl, hw⟩; rw [hw, HK.out]; clear hw)
          go_ret
          exact ⟨by rw [HST.out, show (((k + 1 : Nat) : Int) - 1) = (k : Int) by omega]; rfl, HB2.out⟩
        | false =>
          rw [hbl] at hst hbi
          have hlt : ¬ ((0 : Int) ≤ Lib.indexByte [32, 9] x) := of_decide_eq_false hbi
          have HST := Lib.hid (hbk.out.trans (hst.trans (if_neg (by decide))))
          clear hst hbl hbi
          go_wp2_with fail
          refine (HDEC.out _ hT1.out).mono ?_
          rintro e w2 ⟨rfl, hb2⟩
          have HB2 := Lib.hid (bth hb.out hb2)
          clear hb2
          go_wp2_with (go_at_call 99; refine (Tryz.strings_IndexRune_ascii _ _ _ (by omega) (by omega)).mono ?_; rintro e w' ⟨rfl, hw⟩; rw [hw, HK.out]; clear hw)
          go_roundg (k + 1)
          case measure => omega
          case rel => exact ⟨by omega, HB2, k, rfl, by go_num, HST⟩
      · obtain ⟨c1, c2, c3, c4, c5⟩ := last_high s.data.toList (k + 1) (by omega) (by rw [HZ.out]; omega) (by rw [Nat.add_sub_cancel, hx]; omega)
        obtain ⟨dd, hdd⟩ : ∃ dd, Lib.decodeLastL (s.data.toList.take (k + 1)) = dd := ⟨_, rfl⟩
        rw [hdd] at c1 c2 c3 c4 c5
        obtain ⟨rr, sz⟩ := dd
        simp only at c1 c2 c3 c4 c5
        have hdec2 : ∀ (W : World), Lib.Utf8Tabs 2 3 W → Calls Tryz.prog 103 #[.string (s.extract 0 (k + 1))] W fun e w' => e = .returned (.tuple #[.int .i32 (rr : Int), .int .i64 (sz : Int)]) ∧ Below W.heap.size W w' := fun W h => by
          have := hdec W h
          rw [hdd] at this
          exact this
        have HST := Lib.hid (show behL s.data.toList = behTo s.data.toList (k + 1 - sz) by
          have := beh_skip s.data.toList (k + 1 - sz) sz (fun j h1 h2 => blank_high _ (c5 j h1 (by omega)))
          rw [show k + 1 - sz + sz = k + 1 by omega] at this
          exact hbk.out.trans this)
        have HDEC := Lib.hid hdec2
        clear hdd hx hdec hdec2 c5
        go_wp2_with fail
        refine (HDEC.out _ hT1.out).mono ?_
        rintro e w2 ⟨rfl, hb2⟩
        have HB2 := Lib.hid (bth hb.out hb2)
        clear hb2
        go_wp2_with fail
        refine (indexRune_high _ _ (by omega) (by omega)).mono ?_
        rintro e w3 ⟨rfl, hb3⟩
        have HB3 := Lib.hid (bth HB2.out hb3)
        clear hb3
        go_wp2
        go_roundg (k + 2 - sz)
        case measure => omega
        case rel => exact ⟨by omega, HB3, k + 1 - sz, by omega, by congr 1; omega, HST⟩
theorem lastAny_calls (s : ByteArray) (w : World) (hs : s.size ≤ 100000000) (hT : Lib.Utf8Tabs 2 3 w) :
    Calls Tryz.prog 90 #[.string s, .string ⟨#[32, 9]⟩] w fun e w' => e = .returned (.int .i64 ((behL s.data.toList : Int) - 1)) ∧ Below w.heap.size w w' := by
  by_cases h1 : s.size = 1
  · exact lastAny_one s w h1
  · by_cases h8 : s.size ≤ 8
    · exact lastAny_short s w h8 h1 hT
    · exact lastAny_long s w (by omega) hs
end Go.Proofs.YtkedjlekeohpaaaGreatDoor.K

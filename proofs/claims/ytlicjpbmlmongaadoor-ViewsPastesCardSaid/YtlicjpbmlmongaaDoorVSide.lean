/- views.side: texts side by side. -/
import Derived.Test.YtlicjpbmlmongaaDoorBuilder
import Derived.Test.YtlicjpbmlmongaaDoorHelp
import Derived.Test.YtlicjpbmlmongaaDoorVFmt0
import Derived.Lib.Strings
import Derived.Outline
set_option linter.unusedVariables false
set_option linter.unusedSimpArgs false
namespace Go.Proofs.YtlicjpbmlmongaaDoor.C
open Go.RowKit Go.Proofs Go.Proofs.YtlicjpbmlmongaaDoor.H Go.Proofs.YtlicjpbmlmongaaDoor.B Go.Proofs.YtlicjpbmlmongaaDoor.Oct Go.Proofs.YtlicjpbmlmongaaDoorW.PrintWords

/-- The byte ahead of the i-th text. -/
def sepB (seps : List UInt8) (i : Nat) : List UInt8 := if 0 < i ∧ seps ≠ [] then [seps.getD ((i - 1) % seps.length) 0] else []
def sideF (seps : List UInt8) : Nat → List ByteArray → List UInt8
  | _, [] => []
  | i, x :: l => sepB seps i ++ x.data.toList ++ sideF seps (i + 1) l
def sideL (seps : List UInt8) (l : List ByteArray) : List UInt8 := sideF seps 0 l
theorem side_step (seps : List UInt8) (l : List ByteArray) (k : Nat) (h : k < l.length) : sideF seps k (l.drop k) = sepB seps k ++ l[k].data.toList ++ sideF seps (k + 1) (l.drop (k + 1)) := by
  rw [List.drop_eq_getElem_cons h]; rfl
theorem strCells_bytes (x : ByteArray) : Lib.strCells x = Lib.byteCells x.data.toList := rfl
theorem byte_app' (a b : List UInt8) : Lib.byteCells (a ++ b) = Lib.byteCells a ++ Lib.byteCells b := by simp [Lib.byteCells]
set_option maxHeartbeats 2000000 in
set_option maxRecDepth 100000 in
theorem side_calls (seps : ByteArray) (hsp : seps.size ≤ 140737488351232) (A : Option Addr) (c : Nat) (l : List ByteArray) (w : World) (hr : Kd.C Kd.string w A l.length l) (hc : l.length ≤ c) (hl : l.length ≤ 4000000) (htot : (sideL seps.data.toList l).length ≤ 140737488355328) :
    Calls Tryd.prog 15 #[.string seps, .slice A l.length c] w fun e w' => e = .returned (.string ⟨(sideL seps.data.toList l).toArray⟩) ∧ Below w.heap.size w w' := by
  have HR := Lib.hid hr
  have HTOT := Lib.hid htot
  have hss : seps.data.toList.length = seps.size := (Lib.size_eq seps).symm
  have HSS := Lib.hid hss
  clear hr htot hss
  go_enter Tryd.func15, Tryd.ntmps15
  go_wp2
  obtain ⟨W0, hW0⟩ : ∃ W0, w.alloc (.cells #[.pointer none, .slice none 0 0] 54) = W0 := ⟨_, rfl⟩
  have b0 : Below w.heap.size w W0 := by rw [← hW0]; exact bal (Below.refl _ _) _
  have i0 : Lib.IsBuilder 54 5 w.heap.size w.heap.size (Lib.byteCells []) W0 := by
    rw [← hW0]
    exact .inl ⟨Nat.le_refl _, _, heap_alloc_new w _, World.ownsRow_nil _ _ _ _, by simp [Value.ownBlock]⟩
  have HW := Lib.hid hW0
  have HI := Lib.hid (And.intro b0 i0)
  clear hW0 b0 i0
  try rw [HW.out]
  go_loopw [10] (fun i wr => ∃ (k : Nat) (O : List UInt8), k ≤ l.length ∧ i = .int .i64 (k : Int) ∧ Hid (Below w.heap.size w wr ∧ Lib.IsBuilder 54 5 w.heap.size w.heap.size (Lib.byteCells O) wr ∧ O ++ sideF seps.data.toList k (l.drop k) = sideL seps.data.toList l)) (fun i _ => l.length - (intOf i).toNat)
  case atStart => exact ⟨0, [], Nat.zero_le _, rfl, Lib.hid ⟨HI.out.1, HI.out.2, rfl⟩⟩
  case round =>
    obtain ⟨k, O, hk, rfl, hst⟩ := hrel
    by_cases hlt : k < l.length
    · obtain ⟨ad, rfl, hx⟩ := C_at HR.out hst.out.1 k hlt
      obtain ⟨x, hxe⟩ : ∃ x, l[k] = x := ⟨_, rfl⟩
      rw [hxe] at hx
      have heq := hst.out.2.2
      rw [side_step _ l k hlt, hxe] at heq
      have hlen := congrArg List.length heq
      simp only [List.length_append] at hlen
      have htt := HTOT.out
      have HEQ := Lib.hid heq
      have HLEN := Lib.hid (show O.length + (sepB seps.data.toList k).length + x.data.toList.length ≤ 140737488355328 by omega)
      have hbz := hst.out.1.size
      clear heq hlen htt hxe
      by_cases hk0 : 0 < k
      · have hk0b : decide (0 < k) = true := by simpa using hk0
        by_cases hse : seps.size = 0
        · have hem : seps.toList.isEmpty = true := by
            rw [List.isEmpty_iff]
            apply List.eq_nil_of_length_eq_zero
            rw [Lib.toList_data, HSS.out]; exact hse
          have hem2 : (!seps.toList.isEmpty) = false := by rw [hem]; rfl
          have hem3 : seps.toList = [] := List.isEmpty_iff.1 hem
          have HOL := Lib.hid (show O.length ≤ O.length + (sepB seps.data.toList k).length ∧ O ++ sepB seps.data.toList k = O by
            have : seps.data.toList = [] := List.eq_nil_of_length_eq_zero (by rw [HSS.out]; exact hse)
            unfold sepB
            rw [if_neg (by simp [this])]
            simp)
          clear hse hk0
          go_wp2_with fail
          refine (writeString w.heap.size w.heap.size (Lib.byteCells O) x _ hst.out.2.1 (by rw [Lib.byteCells_length, Lib.size_eq]; have := HLEN.out; have := HOL.out.1; omega) hbz).mono ?_
          rintro e w3 ⟨rfl, hi3, hb3⟩
          have hi4 : Lib.IsBuilder 54 5 w.heap.size w.heap.size (Lib.byteCells (O ++ x.data.toList)) w3 := by
            rw [byte_app', ← strCells_bytes]
            exact .inr hi3
          have D3 := Lib.hid (And.intro (hst.out.1.trans hb3) (And.intro hi4 (show O ++ x.data.toList ++ sideF seps.data.toList (k + 1) (l.drop (k + 1)) = sideL seps.data.toList l from (congrArg (fun z => z ++ x.data.toList ++ sideF seps.data.toList (k + 1) (l.drop (k + 1))) HOL.out.2).symm.trans (by rw [← HEQ.out]; simp only [List.append_assoc]))))
          clear hi3 hb3 hi4
          go_wp2
          go_roundw
          case rel => exact ⟨k + 1, O ++ x.data.toList, by omega, by go_num, D3⟩
          case measure => simp [intOf]; omega
        · have hne : seps.toList ≠ [] := by
            intro e
            have := congrArg List.length e
            rw [Lib.toList_data, HSS.out] at this
            exact hse this
          have hem : seps.toList.isEmpty = false := by rw [← Bool.not_eq_true, List.isEmpty_iff]; exact hne
          have hem2 : (!seps.toList.isEmpty) = true := by rw [hem]; rfl
          obtain ⟨r, hr⟩ : ∃ r, (k - 1) % seps.size = r := ⟨_, rfl⟩
          have hrl : r < seps.size := by rw [← hr]; exact Nat.mod_lt _ (by omega)
          have hrl' : r < seps.data.toList.length := by rw [HSS.out]; exact hrl
          have hk1 : 1 ≤ (k : Int) := by omega
          have hmod : ((k : Int) - 1) % (seps.size : Int) = (r : Int) := by rw [← hr, show (k : Int) - 1 = ((k - 1 : Nat) : Int) by omega]; rfl
          have hmod2 : ((k : Int) - 1).tmod (seps.size : Int) = (r : Int) := by rw [Int.tmod_eq_emod_of_nonneg (by omega)]; exact hmod
          obtain ⟨ch, hch⟩ : ∃ ch, seps[r] = ch := ⟨_, rfl⟩
          have hch2 : seps.data.toList[r] = ch := hch
          have hsep : sepB seps.data.toList k = [ch] := by
            unfold sepB
            rw [if_pos ⟨hk0, by intro e; exact hne (by rw [Lib.toList_data]; exact e)⟩, HSS.out, hr, List.getD_eq_getElem?_getD, List.getElem?_eq_getElem hrl', hch2]; rfl
          have hse0 : ¬ (seps.size : Int) = 0 := by omega
          have hseb : ((seps.size : Int) == 0) = false := by rw [beq_eq_false_iff_ne]; exact hse0
          have HOL := Lib.hid (show (O ++ [ch]).length ≤ O.length + (sepB seps.data.toList k).length ∧ O ++ sepB seps.data.toList k = O ++ [ch] by rw [hsep]; simp)
          have HCH := Lib.hid hch
          have HX := Lib.hid hx
          clear hse hr hch hch2 hsep hk0 hne
          go_wp2_with fail
          rw [HCH.out]
          refine (writeByte w.heap.size w.heap.size (Lib.byteCells O) (ch.toNat : Int) _ hst.out.2.1 (by rw [Lib.byteCells_length]; have := HLEN.out; have := HOL.out.1; rw [List.length_append, List.length_singleton] at this; omega) hbz).mono ?_
          rintro e w2 ⟨rfl, hi2, hb2⟩
          have hi2' : Lib.IsBuilder 54 5 w.heap.size w.heap.size (Lib.byteCells (O ++ [ch])) w2 := by
            rw [byte_app']
            exact .inr hi2
          have D2 := Lib.hid (And.intro (hst.out.1.trans hb2) hi2')
          have hbz2 := D2.out.1.size
          clear hi2 hi2' hb2 hbz hx
          go_wp2_with fail
          refine (writeString w.heap.size w.heap.size (Lib.byteCells (O ++ [ch])) x _ D2.out.2 (by rw [Lib.byteCells_length, Lib.size_eq]; have := HLEN.out; have := HOL.out.1; omega) hbz2).mono ?_
          rintro e w3 ⟨rfl, hi3, hb3⟩
          have hi4 : Lib.IsBuilder 54 5 w.heap.size w.heap.size (Lib.byteCells (O ++ [ch] ++ x.data.toList)) w3 := by
            rw [byte_app', ← strCells_bytes]
            exact .inr hi3
          have D3 := Lib.hid (And.intro (D2.out.1.trans hb3) (And.intro hi4 (show O ++ [ch] ++ x.data.toList ++ sideF seps.data.toList (k + 1) (l.drop (k + 1)) = sideL seps.data.toList l from (congrArg (fun z => z ++ x.data.toList ++ sideF seps.data.toList (k + 1) (l.drop (k + 1))) HOL.out.2).symm.trans (by rw [← HEQ.out]; simp only [List.append_assoc]))))
          clear hi3 hb3 hi4
          go_wp2
          go_roundw
          case rel => exact ⟨k + 1, O ++ [ch] ++ x.data.toList, by omega, by go_num, D3⟩
          case measure => simp [intOf]; omega
      · have hk0b : decide (0 < k) = false := by simpa using hk0
        have HOL := Lib.hid (show O.length ≤ O.length + (sepB seps.data.toList k).length ∧ O ++ sepB seps.data.toList k = O by
            unfold sepB
            rw [if_neg (by omega)]
            simp)
        clear hk0
        go_wp2_with fail
        refine (writeString w.heap.size w.heap.size (Lib.byteCells O) x _ hst.out.2.1 (by rw [Lib.byteCells_length, Lib.size_eq]; have := HLEN.out; have := HOL.out.1; omega) hbz).mono ?_
        rintro e w3 ⟨rfl, hi3, hb3⟩
        have hi4 : Lib.IsBuilder 54 5 w.heap.size w.heap.size (Lib.byteCells (O ++ x.data.toList)) w3 := by
          rw [byte_app', ← strCells_bytes]
          exact .inr hi3
        have D3 := Lib.hid (And.intro (hst.out.1.trans hb3) (And.intro hi4 (show O ++ x.data.toList ++ sideF seps.data.toList (k + 1) (l.drop (k + 1)) = sideL seps.data.toList l from (congrArg (fun z => z ++ x.data.toList ++ sideF seps.data.toList (k + 1) (l.drop (k + 1))) HOL.out.2).symm.trans (by rw [← HEQ.out]; simp only [List.append_assoc]))))
        clear hi3 hb3 hi4
        go_wp2
        go_roundw
        case rel => exact ⟨k + 1, O ++ x.data.toList, by omega, by go_num, D3⟩
        case measure => simp [intOf]; omega
    · obtain rfl : k = l.length := by omega
      have hfin : O = sideL seps.data.toList l := by
        have h := hst.out.2.2
        rw [List.drop_eq_nil_of_le (Nat.le_refl _)] at h
        rw [← h]
        simp [sideF]
      rw [hfin] at hst
      have HZ := Lib.hid hst.out.1.size
      go_wp2_with (go_at_call 57; refine (Tryd.Builder_String_any w.heap.size w.heap.size _ _ hst.out.2.1 HZ.out).mono ?_; rintro e w1 ⟨rfl, hb1⟩)
      go_ret
      exact ⟨rfl, hst.out.1.trans hb1⟩
end Go.Proofs.YtlicjpbmlmongaaDoor.C

/- views.Paste: lines side by side. -/
import Derived.Test.YtlicjpbmlmongaaDoorVSide
import Derived.Test.YtlicjpbmlmongaaDoorVTxt
import Derived.RegionTactic
set_option linter.unusedVariables false
set_option linter.unusedSimpArgs false
namespace Go.Proofs.YtlicjpbmlmongaaDoor.C
open Go.RowKit Go.Proofs Go.Proofs.YtlicjpbmlmongaaDoor.H Go.Proofs.YtlicjpbmlmongaaDoor.B Go.Proofs.YtlicjpbmlmongaaDoor.Oct Go.Proofs.YtlicjpbmlmongaaDoorW.PrintWords

/-- How many lines the longest list has. -/
def mostL (L : List (List ByteArray)) : Nat := (L.map List.length).foldl max 0
def colL (L : List (List ByteArray)) (n : Nat) : List ByteArray := L.map fun x => x.getD n ⟨#[]⟩
def pasteB (seps : List UInt8) (L : List (List ByteArray)) (n : Nat) : ByteArray := ⟨(sideL seps (colL L n)).toArray⟩
def pasteL (seps : List UInt8) (L : List (List ByteArray)) : List ByteArray := (List.range (mostL L)).map (pasteB seps L)
theorem most_le (L : List (List ByteArray)) (k : Nat) : mostL L ≤ k ↔ ∀ x ∈ L, x.length ≤ k := by
  unfold mostL
  have h : ∀ (l : List Nat) (m : Nat), l.foldl max m ≤ k ↔ m ≤ k ∧ ∀ x ∈ l, x ≤ k := by
    intro l
    induction l with
    | nil => intro m; simp
    | cons y l ih =>
      intro m
      rw [List.foldl_cons, ih, Nat.max_le, and_assoc]
      simp only [List.mem_cons, forall_eq_or_imp]
  rw [h]
  simp
def anyB (n : Nat) (L : List (List ByteArray)) : Bool := L.any fun x => decide (n < x.length)
theorem any_most (n : Nat) (L : List (List ByteArray)) : anyB n L = decide (n < mostL L) := by
  rw [Bool.eq_iff_iff, decide_eq_true_iff]
  unfold anyB
  rw [List.any_eq_true]
  constructor
  · rintro ⟨x, hx, h⟩
    have := (most_le L (mostL L)).1 (Nat.le_refl _) x hx
    simp at h
    omega
  · intro h
    by_cases hc : ∃ x ∈ L, decide (n < x.length) = true
    · exact hc
    · exfalso
      have : mostL L ≤ n := (most_le L n).2 (fun x hx => by
        rcases Nat.lt_or_ge n x.length with h1 | h1
        · exact (hc ⟨x, hx, by simpa using h1⟩).elim
        · exact h1)
      omega
/-- The texts so far, and empty ones. -/
def partL (L : List (List ByteArray)) (n i : Nat) : List ByteArray := (colL L n).take i ++ List.replicate (L.length - i) ⟨#[]⟩
theorem part_len (L : List (List ByteArray)) (n i : Nat) (h : i ≤ L.length) : (partL L n i).length = L.length := by
  unfold partL colL
  rw [List.length_append, List.length_take, List.length_map, List.length_replicate]; omega
theorem part_zero (L : List (List ByteArray)) (n : Nat) : partL L n 0 = List.replicate L.length ⟨#[]⟩ := by simp [partL]
theorem part_all (L : List (List ByteArray)) (n : Nat) : partL L n L.length = colL L n := by
  unfold partL
  rw [Nat.sub_self, List.replicate_zero, List.append_nil, List.take_of_length_le (by simp [colL])]
theorem part_step (L : List (List ByteArray)) (n i : Nat) (h : i < L.length) : partL L n (i + 1) = (partL L n i).set i (L[i].getD n ⟨#[]⟩) := by
  apply List.ext_getElem?
  intro j
  have hc : (colL L n).length = L.length := by simp [colL]
  unfold partL
  rw [List.getElem?_set]
  by_cases h1 : i = j
  · subst h1
    rw [if_pos rfl, if_pos (by rw [List.length_append, List.length_take, List.length_replicate]; omega), List.getElem?_append_left (by rw [List.length_take]; omega), List.getElem?_take, if_pos (by omega)]
    simp [colL, h]
  · rw [if_neg h1]
    by_cases h2 : j < i
    · rw [List.getElem?_append_left (by rw [List.length_take]; omega), List.getElem?_append_left (by rw [List.length_take]; omega), List.getElem?_take, List.getElem?_take, if_pos (by omega), if_pos h2]
    · rw [List.getElem?_append_right (by rw [List.length_take]; omega), List.getElem?_append_right (by rw [List.length_take]; omega), List.length_take, List.length_take, List.getElem?_replicate, List.getElem?_replicate]
      by_cases h3 : j < L.length
      · rw [if_pos (by omega), if_pos (by omega)]
      · rw [if_neg (by omega), if_neg (by omega)]
theorem part_same (L : List (List ByteArray)) (n i : Nat) (h : i < L.length) (hn : ¬ n < L[i].length) : partL L n (i + 1) = partL L n i := by
  rw [part_step L n i h]
  apply List.ext_getElem?
  intro j
  rw [List.getElem?_set]
  by_cases h1 : i = j
  · subst h1
    have hc : (colL L n).length = L.length := by simp [colL]
    rw [if_pos rfl, if_pos (by rw [part_len L n i (by omega)]; exact h)]
    unfold partL
    rw [List.getElem?_append_right (by rw [List.length_take]; omega), List.length_take, List.getElem?_replicate, if_pos (by omega)]
    rw [List.getD_eq_getElem?_getD, List.getElem?_eq_none (by omega)]; rfl
  · rw [if_neg h1]
theorem any_take (n : Nat) (L : List (List ByteArray)) (i : Nat) (h : i < L.length) : anyB n (L.take (i + 1)) = (anyB n (L.take i) || decide (n < L[i].length)) := by
  unfold anyB
  rw [List.take_succ_eq_append_getElem h, List.any_append]
  simp
set_option maxHeartbeats 4000000 in
set_option maxRecDepth 100000 in
theorem paste_calls (A : Option Addr) (c : Nat) (L : List (List ByteArray)) (seps : ByteArray) (w : World) (hr : RowsAt w A L) (hc : L.length ≤ c) (hl : L.length ≤ 1000000) (hm : mostL L ≤ 4000000) (hsp : seps.size ≤ 140737488351232) (htot : ∀ n, (sideL seps.data.toList (colL L n)).length ≤ 140737488355328) :
    Calls Tryd.prog 6 #[.slice A L.length c, .string seps] w fun e w' => ∃ v, e = .returned v ∧ TS w v (pasteL seps.data.toList L) w' := by
  obtain ⟨i0, hi, hz0, hz1, hz2⟩ := info_parts infoS
  have HR := Lib.hid hr
  have HTOT := Lib.hid htot
  have HM := Lib.hid hm
  clear hr htot hm
  go_enter Tryd.func6, Tryd.ntmps6
  go_wp2
  go_loopw [4, 5] (fun v i wr => ∃ n : Nat, n ≤ mostL L ∧ i = .int .i64 (n : Int) ∧ Hid (TS w v ((List.range n).map (pasteB seps.data.toList L)) wr)) (fun _ i _ => mostL L + 1 - (intOf i).toNat)
  case atStart => exact ⟨0, Nat.zero_le _, rfl, Lib.hid ⟨Txs.nil _ _, Below.refl _ _⟩⟩
  case round =>
    obtain ⟨n, hn, rfl, hst⟩ := hrel
    obtain ⟨wo, rfl⟩ : ∃ wo : World, wo = wr := ⟨wr, rfl⟩
    have hn4 : n ≤ 4000000 := Nat.le_trans hn HM.out
    have hmk : ∀ V : World, (Instr.makeSlice 25 (.int .i64 (L.length : Int)) (.int .i64 (L.length : Int))).run Tryd.prog V = .ok (.slice (some ⟨V.heap.size, 0, none⟩) L.length L.length) (V.alloc (.cells (mkS L.length) 9)) := fun V => by
      have := run_make (P := Tryd.prog) V 25 9 i0 (.string ⟨#[]⟩) Tryd.underlying25 hi hz0 .i64 .i64 (L.length : Int) (L.length : Int) (by omega) (Int.le_refl _) (by rw [hz2]; omega) (by omega)
      rw [hz1, Int.toNat_natCast] at this
      exact this
    have HMK := Lib.hid hmk
    clear hmk
    obtain ⟨W0, hW0⟩ : ∃ W0, wo.alloc (.cells (mkS L.length) 9) = W0 := ⟨_, rfl⟩
    have b0 : Below wo.heap.size wo W0 := by rw [← hW0]; exact bal (Below.refl _ _) _
    have f0 : FillAt W0 wo.heap.size (partL L n 0) := by rw [← hW0, part_zero]; exact fill_new wo L.length
    have HW := Lib.hid hW0
    have H0 := Lib.hid (And.intro b0 f0)
    clear hW0 b0 f0
    go_wp2_with (rw [HMK.out])
    rw [HW.out]
    go_loopw [6, 17] (fun b i wi => ∃ j : Nat, j ≤ L.length ∧ i = .int .i64 (j : Int) ∧ b = .bool (anyB n (L.take j)) ∧ Hid (Below wo.heap.size wo wi ∧ FillAt wi wo.heap.size (partL L n j))) (fun _ i _ => L.length - (intOf i).toNat)
    case atStart => exact ⟨0, Nat.zero_le _, rfl, rfl, H0⟩
    case round =>
      obtain ⟨j, hj, rfl, rfl, hin⟩ := hrel
      by_cases hlt : j < L.length
      · obtain ⟨ad, Aj, cj, rfl, hcell, hcj, hCj⟩ := HR.out j hlt
        have hbw := bth hst.out.low hin.out.1
        have hcell2 := pw_cell_below hbw hcell
        have hCj2 := Lib.hid (Kd.C_below hCj hbw)
        have hlj : L[j].length ≤ 4000000 := Nat.le_trans ((most_le L (mostL L)).1 (Nat.le_refl _) _ (List.getElem_mem hlt)) HM.out
        have hany := any_take n L j hlt
        clear hcell hCj hbw
        by_cases hx : n < L[j].length
        · rw [decide_eq_true hx, Bool.or_true] at hany
          have hput := part_step L n j hlt
          have hge : L[j].getD n ⟨#[]⟩ = L[j][n] := by rw [List.getD_eq_getElem?_getD, List.getElem?_eq_getElem hx]; rfl
          rw [hge] at hput
          obtain ⟨ad2, rfl, hc2⟩ := C_at hCj2.out (Below.refl _ _) n hx
          obtain ⟨x, hxe⟩ : ∃ x, L[j][n] = x := ⟨_, rfl⟩
          rw [hxe] at hc2 hput
          obtain ⟨hg1, hg2⟩ := hin.out.2.cell j (by rw [part_len L n j hj]; exact hlt)
          have HX := Lib.hid (And.intro hany hput)
          clear hany hput hge hxe
          go_wp2
          go_region
          all_goals go_wp2
          go_roundw
          case rel => exact ⟨j + 1, by omega, by go_num, by rw [HX.out.1], Lib.hid ⟨bdr (hin.out.1.setCell (p := ⟨wo.heap.size, j, none⟩) (Nat.le_refl _) _), by rw [HX.out.2]; exact hin.out.2.put j x⟩⟩
          case measure => simp [intOf]; omega
        · rw [decide_eq_false hx, Bool.or_false] at hany
          have HX := Lib.hid (And.intro hany (part_same L n j hlt hx))
          clear hany
          go_wp2
          go_roundw
          case rel => exact ⟨j + 1, by omega, by go_num, by rw [HX.out.1], Lib.hid ⟨hin.out.1, by rw [HX.out.2]; exact hin.out.2⟩⟩
          case measure => simp [intOf]; omega
      · obtain rfl : j = L.length := by omega
        rw [List.take_length, any_most]
        have hcl : (colL L n).length = L.length := by simp [colL]
        have hcr := hin.out.2
        rw [part_all] at hcr
        have hrd := hcr.reads (by rw [hcl]; omega)
        have hsc := side_calls seps hsp (some ⟨wo.heap.size, 0, none⟩) L.length (colL L n) wr hrd (by rw [hcl]; exact Nat.le_refl _) (by rw [hcl]; omega) (HTOT.out n)
        rw [hcl] at hsc
        have HSC := Lib.hid hsc
        have T1 := Lib.hid (hst.out.below hin.out.1)
        clear hcl hcr hrd hsc
        by_cases hnm : n < mostL L
        · rw [decide_eq_true hnm]
          have hsn : (List.range n).map (pasteB seps.data.toList L) ++ [pasteB seps.data.toList L n] = (List.range (n + 1)).map (pasteB seps.data.toList L) := by rw [List.range_succ, List.map_append]; rfl
          obtain ⟨L2, hL2⟩ : ∃ L2, (List.range (n + 1)).map (pasteB seps.data.toList L) = L2 := ⟨_, rfl⟩
          rw [hL2] at hsn
          have HSN := Lib.hid hsn
          have HL2 := Lib.hid hL2
          clear hsn hL2
          go_wp2_with fail
          refine HSC.out.mono ?_
          rintro e w3 ⟨rfl, hb3⟩
          have T3 := Lib.hid (T1.out.below hb3)
          clear hb3
          go_wp2_with (at_builtin; go_loud (refine app_txt w3 w.heap.size rfl (.tmp 37) (.tmp 41) rfl u4 _ L2 ⟨(sideL seps.data.toList (colL L n)).toArray⟩ HSN.out rfl rfl T3.out.txs T3.out.low.size (by rw [List.length_map, List.length_range]; omega) ?_))
          intro v1 w1 hb1 hg1
          have T4 := Lib.hid (T3.out.app hb1 hg1)
          clear hb1 hg1
          go_wp2
          go_roundw
          case rel => exact ⟨n + 1, hnm, by go_num, Lib.hid (by rw [HL2.out]; exact T4.out)⟩
          case measure => simp [intOf]; omega
        · rw [decide_eq_false hnm]
          have hnn : n = mostL L := by omega
          have HN := Lib.hid hnn
          clear hnn
          go_wp2
          go_ret
          refine ⟨_, rfl, ?_⟩
          unfold pasteL
          rw [← HN.out]
          exact T1.out
end Go.Proofs.YtlicjpbmlmongaaDoor.C

/- ViewsSumOne: two texts of which one byte is not the same have unlike sums: the walk of the law. -/
import Derived.Test.YthkaekeelokajaaDoorVAlive
import Derived.Test.YthkaekeelokajaaDoorConv
import Derived.Laws.BitsAllLaws
import Derived.Laws.IdiomStrings
set_option linter.unusedVariables false
set_option linter.unusedSimpArgs false
namespace Go.Proofs.YthkaekeelokajaaDoor.P
open Go.RowKit Go.Proofs Go.Proofs.YthkaekeelokajaaDoor.Q Go.Proofs.YthkaekeelokajaaDoor.H Go.Proofs.YthkaekeelokajaaDoor.C Go.Proofs.YthkaekeelokajaaDoor.Crc Go.Proofs.YthkaekeelokajaaDoor.S Go.Proofs.YthkaekeelokajaaDoorW.PrintWords Go.Proofs.YthkaekeelokajaaDoorW.PrintLast

/-- A row of bytes that may be written. -/
def RowB (W : World) (g : Nat) (l : List UInt8) : Prop := ∀ j (hj : j < l.length), W.cell? ⟨g, j, none⟩ = some (.int .u8 (l[j].toNat : Int)) ∧ W.frozen? ⟨g, j, none⟩ = false
theorem RowB.set {W : World} {g : Nat} {l : List UInt8} (h : RowB W g l) (k : Nat) (hk : k < l.length) (c : UInt8) : RowB (W.setCell ⟨g, k, none⟩ (.int .u8 (c.toNat : Int))) g (l.set k c) := by
  intro j hj
  rw [List.length_set] at hj
  refine ⟨?_, by rw [World.frozen?_setCell]; exact (h j hj).2⟩
  rw [List.getElem_set]
  by_cases e : k = j
  · subst e
    rw [if_pos rfl]
    exact World.cell?_setCell_same' _ _ _ (by rw [(h k hj).1]; rfl)
  · rw [if_neg e]
    rw [World.cell?_setCell_other (h := fun e' => e (by injection e'))]
    exact (h j hj).1
theorem rowB_bytes (W : World) (e : TypeId) (s : ByteArray) : RowB (Lib.bytesWorld W e s) W.heap.size s.data.toList := by
  intro j hj
  have hjs : j < s.size := by rw [Array.length_toList] at hj; exact hj
  refine ⟨?_, ?_⟩
  · rw [Lib.bytesWorld_cell W e s j hjs]
    congr 3
    rw [List.getD_eq_getElem?_getD, List.getElem?_eq_getElem hj]; rfl
  · have h1 := Lib.bytesWorld_at_new W e s
    have h2 : s.size ≤ (Lib.bytesCells W e s).size := by unfold Lib.bytesCells; rw [Array.size_append, Array.size_map]; exact Nat.le_add_right _ _
    unfold World.frozen?
    rw [h1]
    simp
    omega
theorem byteO_of (x : Int) (h : (Lit.int .u8 x).wf = true) : ∃ c : UInt8, x = (c.toNat : Int) := by
  have h' : 0 ≤ x ∧ x ≤ 255 := by simpa [Lit.wf, IntKind.min, IntKind.max, IntKind.signed, IntKind.bits] using h
  exact ⟨UInt8.ofNat x.toNat, by simp [UInt8.toNat_ofNat']; omega⟩
theorem sums_apart (l : List UInt8) (k : Nat) (hk : k < l.length) (t : UInt8) (ht : ¬ t = 0) : ¬ sumL (l.set k (l[k] ^^^ t)) = sumL l := by
  intro h
  have e1 : l = l.take k ++ l[k] :: l.drop (k + 1) := by rw [← List.drop_eq_getElem_cons hk, List.take_append_drop]
  have e2 : l.set k (l[k] ^^^ t) = l.take k ++ (l[k] ^^^ t) :: l.drop (k + 1) := by rw [List.set_eq_take_append_cons_drop, if_pos hk]
  rw [e2] at h
  have h2 : sumL (l.take k ++ (l[k] ^^^ t) :: l.drop (k + 1)) = sumL (l.take k ++ l[k] :: l.drop (k + 1)) := by rw [h, ← e1]
  have h3 := sum_one _ _ _ _ h2
  apply ht
  have h4 : l[k] ^^^ (l[k] ^^^ t) = l[k] ^^^ l[k] := by rw [h3]
  rw [← UInt8.xor_assoc, UInt8.xor_self, UInt8.zero_xor] at h4
  exact h4
set_option maxHeartbeats 4000000 in
set_option maxRecDepth 100000 in
theorem ViewsSumOne_walk (a0 : ByteArray) (a1 : Int) (a2 : Int) (W : World) (hT : TzW W) (ok0 : a0.size ≤ 140737488351232) (ok1 : (Lit.int .u32 a1).wf = true) (ok2 : (Lit.int .u8 a2).wf = true) :
    Calls Tryd.prog 9 #[.string a0, .int .u32 a1, .int .u8 a2] W fun e W' => e = .returned (.bool true) ∧ Below W.heap.size W W' := by
  obtain ⟨t, rfl⟩ := byteO_of a2 ok2
  have h1' : 0 ≤ a1 ∧ a1 ≤ 4294967295 := by simpa [Lit.wf, IntKind.min, IntKind.max, IntKind.signed, IntKind.bits] using ok1
  obtain ⟨m, rfl⟩ := Int.eq_ofNat_of_zero_le h1'.1
  have hm : m ≤ 4294967295 := by omega
  obtain ⟨kb, hkb⟩ := (beyond_one a0.size (by omega)).at_
  have KB := Lib.hid hkb
  have HT := Lib.hid hT
  clear hkb hT ok1 ok2 h1'
  have HAL := Lib.hid (fun w h => alive_calls w h)
  by_cases hbig : a0.size > 1048576
  · rw [decide_eq_true hbig] at KB
    clear hbig
    go_enter Tryd.func9, Tryd.ntmps9
    go_wp2_with fail
    refine (HAL.out _ HT.out).mono ?_
    rintro e w1 ⟨rfl, hb1⟩
    have B1 := Lib.hid hb1
    clear hb1
    go_wp2_with fail
    refine (toolchestlaw01_Beyond.calls kb (some ⟨w1.heap.size, 0, none⟩) 1 [(a0.size : Int)] true _ (C_ints w1 .i64 3 [(a0.size : Int)] (by simp)) (Nat.le_refl _) KB.out).mono ?_
    first | (rintro e w2 rfl hb2) | (rintro e w2 ⟨rfl, hb2⟩)
    have B2 := Lib.hid (bth B1.out (bth (bal (Below.refl _ _) _) hb2.below))
    clear hb2
    go_wp2_with fail
    refine (HAL.out _ (HT.out.below B2.out)).mono ?_
    rintro e w3 ⟨rfl, hb3⟩
    go_wp2
    go_ret
    exact ⟨rfl, bth B2.out hb3⟩
  · rw [decide_eq_false hbig] at KB
    have hs0 : a0.size ≤ 100000000 := by omega
    by_cases hz : a0.size = 0
    · have d1 : ((a0.size : Int) == 0) = true := by simp [hz]
      have D1 := Lib.hid d1
      clear hz d1 hbig
      go_enter Tryd.func9, Tryd.ntmps9
      go_wp2_with fail
      refine (HAL.out _ HT.out).mono ?_
      rintro e w1 ⟨rfl, hb1⟩
      have B1 := Lib.hid hb1
      clear hb1
      go_wp2_with fail
      refine (toolchestlaw01_Beyond.calls kb (some ⟨w1.heap.size, 0, none⟩) 1 [(a0.size : Int)] false _ (C_ints w1 .i64 3 [(a0.size : Int)] (by simp)) (Nat.le_refl _) KB.out).mono ?_
      first | (rintro e w2 rfl hb2) | (rintro e w2 ⟨rfl, hb2⟩)
      have B2 := Lib.hid (bth B1.out (bth (bal (Below.refl _ _) _) hb2.below))
      clear hb2
      have d1 := D1.out
      go_wp2_with fail
      refine (HAL.out _ (HT.out.below B2.out)).mono ?_
      rintro e w3 ⟨rfl, hb3⟩
      go_wp2
      go_ret
      exact ⟨rfl, bth B2.out hb3⟩
    · have d1 : ((a0.size : Int) == 0) = false := beq_eq_false_iff_ne.2 (by omega)
      have D1 := Lib.hid d1
      clear d1
      by_cases ht : t = 0
      · have d2 : ((t.toNat : Int) == 0) = true := by rw [ht]; rfl
        have D2 := Lib.hid d2
        clear hz ht d2 hbig
        go_enter Tryd.func9, Tryd.ntmps9
        go_wp2_with fail
        refine (HAL.out _ HT.out).mono ?_
        rintro e w1 ⟨rfl, hb1⟩
        have B1 := Lib.hid hb1
        clear hb1
        go_wp2_with fail
        refine (toolchestlaw01_Beyond.calls kb (some ⟨w1.heap.size, 0, none⟩) 1 [(a0.size : Int)] false _ (C_ints w1 .i64 3 [(a0.size : Int)] (by simp)) (Nat.le_refl _) KB.out).mono ?_
        first | (rintro e w2 rfl hb2) | (rintro e w2 ⟨rfl, hb2⟩)
        have B2 := Lib.hid (bth B1.out (bth (bal (Below.refl _ _) _) hb2.below))
        clear hb2
        have d1 := D1.out
        have d2 := D2.out
        go_wp2_with fail
        refine (HAL.out _ (HT.out.below B2.out)).mono ?_
        rintro e w3 ⟨rfl, hb3⟩
        go_wp2
        go_ret
        exact ⟨rfl, bth B2.out hb3⟩
      · have d2 : ((t.toNat : Int) == 0) = false := by
          have : ¬ t.toNat = 0 := fun h => ht (UInt8.toNat_inj.1 h)
          exact beq_eq_false_iff_ne.2 (by omega)
        have D2 := Lib.hid d2
        obtain ⟨k, hk⟩ : ∃ k, m % a0.size = k := ⟨_, rfl⟩
        have hks : k < a0.size := by rw [← hk]; exact Nat.mod_lt _ (by omega)
        have hkl : k < a0.data.toList.length := by rw [← Lib.size_eq]; exact hks
        obtain ⟨c, hc⟩ : ∃ c, a0.data.toList[k]'hkl = c := ⟨_, rfl⟩
        have hap := sums_apart a0.data.toList k hkl t ht
        rw [hc] at hap
        have e1 : (m : Int).tmod (a0.size : Int) = (k : Int) := by rw [Int.tmod_eq_emod_of_nonneg (Int.natCast_nonneg _), ← hk]; rfl
        have e2 : IntKind.i64.wrap (m : Int) = (m : Int) := IntWalk.i64_in _ (by omega)
        have e3 : IntKind.i64.wrap (k : Int) = (k : Int) := IntWalk.i64_in _ (by omega)
        have hx := u8_xor_nat c.toNat t.toNat c.toNat_lt t.toNat_lt
        have hx2 : ((c.toNat ^^^ t.toNat : Nat) : Int) = (((c ^^^ t).toNat : Nat) : Int) := by rw [UInt8.toNat_xor]
        rw [hx2] at hx
        obtain ⟨L, hL⟩ : ∃ L, a0.data.toList.set k (c ^^^ t) = L := ⟨_, rfl⟩
        rw [hL] at hap
        have hLl : L.length = a0.size := by rw [← hL, List.length_set, ← Lib.size_eq]
        have HS1 := Lib.hid (fun w => sum_calls ⟨L.toArray⟩ (by show L.toArray.size ≤ _; rw [List.size_toArray, hLl]; exact hs0) w)
        have HS2 := Lib.hid (fun w => sum_calls a0 hs0 w)
        have hne : ((((sumL (⟨L.toArray⟩ : ByteArray).data.toList).toNat : Nat) : Int) == ((sumL a0.data.toList).toNat : Int)) = false := beq_eq_false_iff_ne.2 (fun e => hap (BitVec.eq_of_toNat_eq (Int.ofNat.inj e)))
        obtain ⟨X, hX⟩ : ∃ X : Int, (((sumL (⟨L.toArray⟩ : ByteArray).data.toList).toNat : Nat) : Int) = X := ⟨_, rfl⟩
        obtain ⟨Y, hY⟩ : ∃ Y : Int, ((sumL a0.data.toList).toNat : Int) = Y := ⟨_, rfl⟩
        rw [hX] at HS1 hne
        rw [hY] at HS2 hne
        have HNE := Lib.hid hne
        have HLL := Lib.hid (And.intro hL hLl)
        clear hX hY hne hL hLl
        have HK := Lib.hid (And.intro hkl (And.intro hc hs0))
        have hsl : a0.data.toList.length = a0.size := (Lib.size_eq a0).symm
        have HSL := Lib.hid hsl
        clear ht d2 hbig hk hap hx2 hsl
        go_enter Tryd.func9, Tryd.ntmps9
        go_wp2_with fail
        refine (HAL.out _ HT.out).mono ?_
        rintro e w1 ⟨rfl, hb1⟩
        have B1 := Lib.hid hb1
        clear hb1
        go_wp2_with fail
        refine (toolchestlaw01_Beyond.calls kb (some ⟨w1.heap.size, 0, none⟩) 1 [(a0.size : Int)] false _ (C_ints w1 .i64 3 [(a0.size : Int)] (by simp)) (Nat.le_refl _) KB.out).mono ?_
        first | (rintro e w2 rfl hb2) | (rintro e w2 ⟨rfl, hb2⟩)
        have B2 := Lib.hid (bth B1.out (bth (bal (Below.refl _ _) _) hb2.below))
        clear hb2
        have d1 := D1.out
        have d2 := D2.out
        have hrow := rowB_bytes w2 5 a0
        have hck := (hrow k HK.out.1).1
        have hfk := (hrow k HK.out.1).2
        rw [HK.out.2.1] at hck
        have hr2 := hrow.set k HK.out.1 (c ^^^ t)
        rw [HLL.out.1, UInt8.toNat_xor] at hr2
        have hcv := run_convert_bytes_back (P := Tryd.prog) _ 53 9 5 ⟨w2.heap.size, 0, none⟩ (grownCap w2 a0.size 0 5) L Tryd.underlying53 Tryd.underlying5 Tryd.underlying9 (fun j hj => by
          have := (hr2 j hj).1
          rw [add_plain]; simpa using this)
        rw [HLL.out.2] at hcv
        have b3 : Below w2.heap.size w2 (Lib.bytesWorld w2 5 a0) := bby (Below.refl _ _) _ _
        have B3 := Lib.hid (bth B2.out (b3.setCell (p := ⟨w2.heap.size, k, none⟩) (Nat.le_refl _) (.int .u8 ((c.toNat ^^^ t.toNat : Nat) : Int))))
        clear hrow b3 hr2
        have hne : (X != Y) = true := by unfold bne; rw [HNE.out]; rfl
        go_wp2_with fail
        refine (HS1.out _).mono ?_
        rintro e w3 ⟨rfl, hb3⟩
        have B4 := Lib.hid (bth B3.out hb3)
        clear hb3
        go_wp2_with fail
        refine (HS2.out _).mono ?_
        rintro e w4 ⟨rfl, hb4⟩
        have B5 := Lib.hid (bth B4.out hb4)
        clear hb4
        go_wp2
        go_ret
        exact ⟨rfl, B5.out⟩
end Go.Proofs.YthkaekeelokajaaDoor.P

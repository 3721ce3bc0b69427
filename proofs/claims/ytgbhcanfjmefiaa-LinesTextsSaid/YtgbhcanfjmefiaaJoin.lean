/- lines.Join and the reference's Join: what both compute: each text, an end behind it. -/
import Derived.Test.YtgbhcanfjmefiaaHelp
import Derived.Test.YtgbhcanfjmefiaaBuilder
set_option linter.unusedVariables false
set_option linter.unusedSimpArgs false
namespace Go.Proofs.Ytgbhcanfjmefiaa.Q
open Go.RowKit Go.Proofs.YtgbhcanfjmefiaaW.PrintWords Go.Proofs.Ytgbhcanfjmefiaa.H Go.Proofs.Ytgbhcanfjmefiaa.B

/-- Each text, an end behind it. -/
def joinL (l : List ByteArray) : List UInt8 := l.flatMap fun s => s.data.toList ++ [10]
theorem joinL_take {l : List ByteArray} (k : Nat) (h : k < l.length) : joinL (l.take (k + 1)) = joinL (l.take k) ++ (l[k].data.toList ++ [10]) := by
  rw [List.take_succ_eq_append_getElem h]
  unfold joinL
  rw [List.flatMap_append]
  simp only [List.flatMap_cons, List.flatMap_nil, List.append_nil]
theorem joinL_le {l : List ByteArray} (k : Nat) : (joinL (l.take k)).length ≤ (joinL l).length := by
  have : joinL l = joinL (l.take k) ++ joinL (l.drop k) := by
    unfold joinL; rw [← List.flatMap_append, List.take_append_drop]
  rw [this, List.length_append]; omega
theorem joinL_room {l : List ByteArray} (k : Nat) (h : k < l.length) : (joinL (l.take k)).length + (l[k].size + 1) ≤ (joinL l).length := by
  have h1 := joinL_le (l := l) (k + 1)
  rw [joinL_take k h, List.length_append, List.length_append] at h1
  have h2 : l[k].data.toList.length = l[k].size := Array.length_toList
  simp only [List.length_cons, List.length_nil] at h1
  omega
theorem joinL_len {l : List ByteArray} : l.length ≤ (joinL l).length := by
  induction l with
  | nil => simp
  | cons a l ih => simp only [joinL, List.flatMap_cons, List.length_append, List.length_cons, List.length_nil] at ih ⊢; omega
theorem cells_join (a : List UInt8) (s : ByteArray) : Lib.byteCells a ++ Lib.strCells s ++ [.int .u8 10] = Lib.byteCells (a ++ (s.data.toList ++ [10])) := by
  simp [Lib.byteCells, Lib.strCells]

set_option maxHeartbeats 1000000 in
set_option maxRecDepth 100000 in
theorem lines_Join_walk (A : Option Addr) (c : Nat) (l : List ByteArray) (w : World) (hr : Kd.C Kd.string w A l.length l) (hc : l.length ≤ c) (hl : (joinL l).length ≤ 140737488355328) :
    Calls Try.prog 15 #[.slice A l.length c] w fun e w' => e = .returned (.string ⟨(joinL l).toArray⟩) ∧ Below w.heap.size w w' := by
  have hr' := Lib.hid hr
  have hll := joinL_len (l := l)
  have hl63 : l.length ≤ 9223372036854775807 := by omega
  clear hr hll
  go_enter Try.func15, Try.ntmps15
  go_wp2
  go_loopw [8] (fun i wr => ∃ k : Nat, k ≤ l.length ∧ i = .int .i64 k ∧ Hid (Lib.IsBuilder 44 5 w.heap.size w.heap.size (Lib.byteCells (joinL (l.take k))) wr) ∧ Hid (Below w.heap.size w wr)) (fun i _ => l.length - (intOf i).toNat)
  case atStart =>
    refine ⟨0, Nat.zero_le _, rfl, Lib.hid ?_, Lib.hid (bal (Below.refl _ _) _)⟩
    exact Lib.fresh_isBuilder _ _ _
  case round =>
    obtain ⟨k, hk, rfl, hB, hb⟩ := hrel
    by_cases hlt : k < l.length
    · obtain ⟨ad, hA, hcell⟩ := C_at hr'.out hb.out k hlt
      subst hA
      have hs := Lib.hid (joinL_take k hlt)
      have hn := joinL_room k hlt
      have hz := bsize hb.out
      go_wp2_with (go_at_call 32; refine (writeString w.heap.size w.heap.size _ _ _ hB.out ?h1 ?h2).mono ?_)
      case h1 => rw [Lib.byteCells_length]; omega
      case h2 => exact hz
      rintro e w1 ⟨rfl, hB1, hb1⟩
      have HB1 := Lib.hid hB1
      have Hb1 := Lib.hid (hb.out.trans hb1)
      have hz1 := bsize Hb1.out
      clear hB1 hb1 hB hb
      go_wp2_with (go_at_call 33; refine (writeByte w.heap.size w.heap.size _ _ _ (.inr HB1.out) ?h1 ?h2).mono ?_)
      case h1 => rw [List.length_append, Lib.byteCells_length, Lib.strCells_length]; omega
      case h2 => exact hz1
      rintro e w2 ⟨rfl, hB2, hb2⟩
      have HB2 := Lib.hid hB2
      have Hb2 := Lib.hid (Hb1.out.trans hb2)
      clear hB2 hb2 HB1 Hb1 hn
      go_wp2
      go_roundw
      case rel => exact ⟨k + 1, by omega, by go_num, Lib.hid (.inr (by rw [hs.out, ← cells_join]; exact HB2.out)), Hb2⟩
      case measure => simp [intOf]; omega
    · obtain rfl : k = l.length := by omega
      have hz := bsize hb.out
      go_wp2_with (go_at_call 34; refine (Try.Builder_String_any w.heap.size w.heap.size _ _ hB.out hz).mono ?_)
      rintro e w1 ⟨rfl, hb1⟩
      go_wp2
      go_ret
      exact ⟨rfl, hb.out.trans hb1⟩

theorem news_bytes (W : World) (e : TypeId) (s : ByteArray) (j : Nat) (u : Value) (h : (Lib.strCells s)[j]? = some u) : (Lib.bytesWorld W e s).cell? ((⟨W.heap.size, 0, none⟩ : Addr).add j) = some u := by
  obtain ⟨hlt, hu⟩ := List.getElem?_eq_some_iff.1 h
  rw [Lib.strCells_length] at hlt
  rw [add_plain, Lib.bytesWorld_cell W e s j hlt, ← hu]
  have : s.data.toList.getD j 0 = s.data.toList[j]'(by rw [Array.length_toList]; exact hlt) := by
    rw [List.getD_eq_getElem?_getD, List.getElem?_eq_getElem (by rw [Array.length_toList]; exact hlt)]; rfl
  rw [this]
  simp [Lib.strCells]
theorem own_bytes {W : World} {base e e' n : Nat} {v : Value} {xs : List Value} (h : W.ownsRow base e 1 v n xs) (s : ByteArray) : (Lib.bytesWorld W e' s).ownsRow base e 1 v n xs :=
  own_move h (fun k hk => Lib.bytesWorld_at_old W e' s k (own_lt h k hk))

set_option maxHeartbeats 1000000 in
set_option maxRecDepth 100000 in
theorem ref_Join_walk (A : Option Addr) (c : Nat) (l : List ByteArray) (w : World) (hr : Kd.C Kd.string w A l.length l) (hc : l.length ≤ c) (hl : (joinL l).length ≤ 140737488355328) :
    Calls Try.prog 16 #[.slice A l.length c] w fun e w' => e = .returned (.string ⟨(joinL l).toArray⟩) ∧ Below w.heap.size w w' := by
  obtain ⟨i0, hi, hz0, hz1, hz2⟩ := info_parts infoByte
  have hr' := Lib.hid hr
  have hll := joinL_len (l := l)
  have hl63 : l.length ≤ 9223372036854775807 := by omega
  clear hr hll
  have hcv := fun (W : World) (s : ByteArray) => Lib.run_convert_string_bytes (P := Try.prog) W 9 36 5 s Try.underlying9 Try.underlying36 Try.underlying5
  go_enter Try.func16, Try.ntmps16
  go_wp2
  go_loopw [3, 4] (fun v i wr => ∃ k : Nat, k ≤ l.length ∧ i = .int .i64 k ∧ Hid (wr.ownsRow w.heap.size 5 1 v (joinL (l.take k)).length (Lib.byteCells (joinL (l.take k)))) ∧ Hid (Below w.heap.size w wr)) (fun _ i _ => l.length - (intOf i).toNat)
  case atStart => exact ⟨0, Nat.zero_le _, rfl, Lib.hid (own_nil _ _ _ _), Lib.hid (Below.refl _ _)⟩
  case round =>
    obtain ⟨k, hk, rfl, hB, hb⟩ := hrel
    by_cases hlt : k < l.length
    · obtain ⟨ad, hA, hcell⟩ := C_at hr'.out hb.out k hlt
      subst hA
      have hs := Lib.hid (joinL_take k hlt)
      have hn := joinL_room k hlt
      have hz := bsize hb.out
      obtain ⟨A3, c3, rfl⟩ := own_slice hB.out
      go_wp2_with (at_builtin; refine wpList_append_own _ rfl _ _ 36 rfl w.heap.size 5 i0 (.int .u8 0) 1 1 Try.underlying36 hi hz0 hz1 hz2 rfl (by decide) _ _ _ rfl (own_bytes hB.out l[k]) ⟨wr.heap.size, 0, none⟩ l[k].size _ (Lib.strCells l[k]) rfl ?c0 ?c1 ?c2 ?c3 ?c4 ?c5 ?_)
      case c0 => rw [Lib.strCells_length]; omega
      case c1 => exact news_bytes wr 5 l[k]
      case c2 => intro u hu; simp only [Lib.strCells, List.mem_map] at hu; obtain ⟨x, _, rfl⟩ := hu; rfl
      case c3 => unfold maxLen; omega
      case c4 => omega
      case c5 => rw [Lib.bytesWorld_size]; omega
      intro v1 w1 hown1 hg1 _
      have HO1 := Lib.hid hown1
      have HB1 := Lib.hid (b_own (bby hb.out 5 l[k]) (own_bytes hB.out l[k]) hg1)
      have hzz := bsize HB1.out
      clear hown1 hg1 hB hb
      obtain ⟨A4, c4, rfl⟩ := own_slice HO1.out
      go_wp2_with (at_builtin; refine wpList_append_own _ rfl _ _ 36 rfl w.heap.size 5 i0 (.int .u8 0) 1 1 Try.underlying36 hi hz0 hz1 hz2 rfl (by decide) _ _ _ rfl (HO1.out.alloc _) ⟨w1.heap.size, 0, none⟩ 1 1 [.int .u8 10] rfl rfl ?c1 ?c2 ?c3 ?c4 ?c5 ?_)
      case c1 => exact cell_one_new _ _ _
      case c2 => intro u hu; simp at hu; subst hu; rfl
      case c3 => unfold maxLen; omega
      case c4 => omega
      case c5 => simp; omega
      intro v2 w2 hown2 hg2 _
      have HO2 := Lib.hid hown2
      have HB2 := Lib.hid (b_own (bal HB1.out _) (HO1.out.alloc _) hg2)
      clear hown2 hg2 HO1 HB1
      obtain ⟨A5, c5, rfl⟩ := own_slice HO2.out
      go_wp2
      go_roundw
      case rel =>
        refine ⟨k + 1, by omega, by go_num, Lib.hid ?_, HB2⟩
        have h2 := HO2.out
        rw [← List.append_assoc, cells_join] at h2
        rw [hs.out]
        have h3 : l[k].data.toList.length = l[k].size := Array.length_toList
        have e3 : (joinL (l.take k) ++ (l[k].data.toList ++ [(10 : UInt8)])).length = (joinL (l.take k)).length + l[k].size + 1 := by
          rw [List.length_append, List.length_append, h3]; simp; omega
        rw [e3]
        exact h2
      case measure => simp [intOf]; omega
    · obtain rfl : k = l.length := by omega
      have hB' := hB.out
      rw [List.take_length] at hB'
      have hcb := own_string (P := Try.prog) (src := 36) (dst := 9) (e := 5) (xs := (joinL l).map fun b => (b.toNat : Int)) Try.underlying36 Try.underlying5 Try.underlying9 (by simpa [nums, Lib.byteCells, Function.comp_def] using hB')
      clear hB' hB
      go_wp2
      go_ret
      exact ⟨by simp [strOfNums, Function.comp_def], hb.out⟩

def lines_Join.f (l0 : List ByteArray) : Option (ByteArray) := if (joinL l0).length ≤ 140737488355328 then some ⟨(joinL l0).toArray⟩ else none
theorem lines_Join.calls (A0 : Option Addr) (c0 : Nat) (l0 : List ByteArray) (r : ByteArray) (w : World) (hr0 : Kd.C Kd.string w A0 l0.length l0) (hc0 : l0.length ≤ c0) (h : lines_Join.f l0 = some r) :
    Calls Try.prog 15 #[.slice A0 l0.length c0] w fun e w' => e = .returned (.string r) ∧ Below w.heap.size w w' := by
  unfold lines_Join.f at h
  split at h
  · rename_i hl
    obtain rfl := Option.some.inj h
    exact fun _ => lines_Join_walk A0 c0 l0 w hr0 hc0 hl _
  · cases h
def toolchestref02_Join.f (l0 : List ByteArray) : Option (ByteArray) := if (joinL l0).length ≤ 140737488355328 then some ⟨(joinL l0).toArray⟩ else none
theorem toolchestref02_Join.calls (A0 : Option Addr) (c0 : Nat) (l0 : List ByteArray) (r : ByteArray) (w : World) (hr0 : Kd.C Kd.string w A0 l0.length l0) (hc0 : l0.length ≤ c0) (h : toolchestref02_Join.f l0 = some r) :
    Calls Try.prog 16 #[.slice A0 l0.length c0] w fun e w' => e = .returned (.string r) ∧ Below w.heap.size w w' := by
  unfold toolchestref02_Join.f at h
  split at h
  · rename_i hl
    obtain rfl := Option.some.inj h
    exact fun _ => ref_Join_walk A0 c0 l0 w hr0 hc0 hl _
  · cases h
end Go.Proofs.Ytgbhcanfjmefiaa.Q

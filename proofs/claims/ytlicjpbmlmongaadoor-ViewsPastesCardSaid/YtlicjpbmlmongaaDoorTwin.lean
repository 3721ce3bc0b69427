/- TwinTexts makes a copy of its own with a mark behind it; LeftTexts says of such a copy that it is still what it was made of. -/
import Derived.Test.YtlicjpbmlmongaaDoorHelp
set_option linter.unusedVariables false
set_option linter.unusedSimpArgs false
namespace Go.Proofs.YtlicjpbmlmongaaDoor.H
open Go.RowKit Go.Proofs.YtlicjpbmlmongaaDoorW.PrintWords

/-- The mark behind a copy. -/
abbrev spareText : ByteArray := ⟨#[115, 112, 97, 114, 101]⟩
set_option maxHeartbeats 1000000 in
set_option maxRecDepth 100000 in
theorem twinTexts (A : Option Addr) (c : Nat) (l : List ByteArray) (w : World) (hr : Kd.C Kd.string w A l.length l) (hc : l.length ≤ c) (hl : (l.length + 1) * 16 ≤ 140737488355328) :
    Calls Tryd.prog 14 #[.slice A l.length c] w fun e w' => ∃ g cap, e = .returned (.slice (some ⟨g, 0, none⟩) l.length cap) ∧
      w'.ownsRow w.heap.size 9 1 (.slice (some ⟨g, 0, none⟩) (l.length + 1) cap) (l.length + 1) (strs (l ++ [⟨#[115, 112, 97, 114, 101]⟩])) ∧ Below w.heap.size w w' := by
  obtain ⟨i0, hi, hz0, hz1, hz2⟩ := info_parts infoS
  have hr' := Lib.hid hr
  clear hr
  have hl63 : l.length ≤ 9223372036854775807 := by omega
  go_enter Tryd.func14, Tryd.ntmps14
  go_wp2_with (first | (at_make; refine wpList_make_own _ rfl _ _ 25 rfl w.heap.size 9 i0 _ 1 Tryd.underlying25 hi hz0 hz1 .i64 .i64 _ (l.length + 1) rfl rfl ?h1 ?h2 ?h3 ?h4 ?_))
  case h1 => simp
  case h2 => rw [hz2]; omega
  case h3 => unfold maxLen; omega
  case h4 => exact Nat.le_refl _
  intro w1 hown1 hg1
  have hB1 := Lib.hid ((Below.refl w.heap.size w).grown hg1 (Nat.le_refl _) (fun k hk => by cases hk))
  have hown1' := Lib.hid hown1
  clear hown1 hg1
  go_wp2
  go_loopw [3, 4] (fun v i wr => ∃ k : Nat, k ≤ l.length ∧ i = .int .i64 k ∧ v = .slice (some ⟨w.heap.size, 0, none⟩) k (l.length + 1) ∧ Hid (wr.ownsRow w.heap.size 9 1 (.slice (some ⟨w.heap.size, 0, none⟩) k (l.length + 1)) k (strs (l.take k))) ∧ Hid (Below w.heap.size w wr)) (fun _ i _ => l.length - (intOf i).toNat)
  case atStart => exact ⟨0, Nat.zero_le _, rfl, rfl, by simpa [strs] using hown1', hB1⟩
  case round =>
    obtain ⟨k, hk, rfl, rfl, ho, hb⟩ := hrel
    by_cases hlt : k < l.length
    · obtain ⟨ad, hA, hcell⟩ := C_at hr'.out hb.out k hlt
      subst hA
      go_wp2_with (at_builtin; refine wpList_append_fits _ rfl _ _ 25 rfl w.heap.size 9 i0 1 Tryd.underlying25 hi hz1 w.heap.size k (l.length + 1) _ rfl (ho.out.alloc _) ⟨wr.heap.size, 0, none⟩ 1 1 [.string l[k]] rfl rfl (cell_one_new _ _ _) ?c2 ?c3 ?_)
      case c2 => simp [Value.oneCell']
      case c3 => omega
      intro w2 ho2 hg2
      have ho2' := Lib.hid ho2
      have hb2 := Lib.hid (((bal hb.out (.cells #[.string l[k]] 9)).grown hg2 (by simp; have := hb.out.size; omega) (fun j hj => by cases hj; exact Nat.le_refl _)))
      clear ho2 hg2 ho hb
      go_wp2
      go_roundw
      case rel => exact ⟨k + 1, by omega, by go_num, rfl, Lib.hid (by rw [strs_take k hlt]; exact ho2'.out), hb2⟩
      case measure => simp [intOf]; omega
    · obtain rfl : k = l.length := by omega
      go_wp2_with (at_builtin; refine wpList_append_fits _ rfl _ _ 25 rfl w.heap.size 9 i0 1 Tryd.underlying25 hi hz1 w.heap.size l.length (l.length + 1) _ rfl (ho.out.alloc _) ⟨wr.heap.size, 0, none⟩ 1 1 [.string ⟨#[115, 112, 97, 114, 101]⟩] rfl rfl (cell_one_new _ _ _) ?c2 ?c3 ?_)
      case c2 => simp [Value.oneCell']
      case c3 => omega
      intro w2 ho2 hg2
      have ho2' := Lib.hid ho2
      have hb2 := Lib.hid (((bal hb.out (.cells #[.string ⟨#[115, 112, 97, 114, 101]⟩] 9)).grown hg2 (by simp; have := hb.out.size; omega) (fun j hj => by cases hj; exact Nat.le_refl _)))
      clear ho2 hg2 ho hb
      go_wp2
      go_ret
      exact ⟨_, _, rfl, by simpa [strs] using ho2'.out, hb2.out⟩

set_option maxHeartbeats 1000000 in
set_option maxRecDepth 100000 in
theorem leftTexts (g cap base : Nat) (A : Option Addr) (c : Nat) (l : List ByteArray) (w : World) (hr : Kd.C Kd.string w A l.length l) (hc : l.length ≤ c)
    (ho : w.ownsRow base 9 1 (.slice (some ⟨g, 0, none⟩) (l.length + 1) cap) (l.length + 1) (strs (l ++ [⟨#[115, 112, 97, 114, 101]⟩]))) :
    Calls Tryd.prog 16 #[.slice (some ⟨g, 0, none⟩) l.length cap, .slice A l.length c] w fun e w' => e = .returned (.bool true) ∧ Below w.heap.size w w' := by
  have hr' := Lib.hid hr
  have ho' := Lib.hid ho
  have hcap : l.length < cap := by have := (twin_cap ho).1; omega
  have hmx : cap ≤ 9223372036854775807 := by have := (twin_cap ho).2; unfold maxLen at this; omega
  have hl63 : l.length ≤ 9223372036854775807 := by omega
  have b1 : (l.length != l.length) = false := by simp
  have b2 : decide (cap ≤ l.length) = false := by simp; omega
  clear hr ho
  go_enter Tryd.func16, Tryd.ntmps16
  go_wp2
  go_loopw [5] (fun i wr => ∃ k : Nat, k ≤ l.length ∧ i = .int .i64 k ∧ Hid (Below w.heap.size w wr)) (fun i _ => l.length - (intOf i).toNat)
  case atStart => exact ⟨0, Nat.zero_le _, rfl, Lib.hid (Below.refl _ _)⟩
  case round =>
    obtain ⟨k, hk, rfl, hb⟩ := hrel
    by_cases hlt : k < l.length
    · obtain ⟨ad, hA, hcell⟩ := C_at hr'.out hb.out k hlt
      subst hA
      have hcell2 : wr.cell? ⟨g, k, none⟩ = some (.string l[k]) := pw_cell_below hb.out (by have := own_at ho'.out k (by simp; omega); simpa [List.getElem_append_left hlt] using this)
      have h5 : k < cap := by omega
      go_wp2
      go_quiet (fail)
      go_wp2
      go_roundw
      case rel => exact ⟨k + 1, by omega, by go_num, Lib.hid (bdn hb.out _)⟩
      case measure => simp [intOf]; omega
    · obtain rfl : k = l.length := by omega
      have hcell2 : wr.cell? ⟨g, l.length, none⟩ = some (.string ⟨#[115, 112, 97, 114, 101]⟩) := pw_cell_below hb.out (by have := own_at ho'.out l.length (by simp); simpa using this)
      go_wp2
      go_ret
      exact ⟨rfl, hb.out⟩
end Go.Proofs.YtlicjpbmlmongaaDoor.H

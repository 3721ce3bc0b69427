/- The book of lists: all marks stand where they were written. -/
import Derived.Test.YtiibaggpaabfcaaDoorBook4
import Derived.Deep.QuietTactic
import Derived.BigQuiet
set_option linter.unusedVariables false
set_option linter.unusedSimpArgs false
namespace Go.Proofs.YtiibaggpaabfcaaDoor.H
open Go.RowKit Go.Proofs.YtiibaggpaabfcaaDoorW.PrintWords Go.Proofs

theorem isText_same (n : Nat) (h : n < 100) (w : World) : Calls Tryd.prog 77 #[.string (markS n), .int .i64 n] w fun e w' => e = .returned (.bool true) ∧ w' = w := (isText_calls n h w).mono fun e w' ⟨a, b⟩ => ⟨a, b.symm⟩
def LookOK (B0 : Nat) (h : Held) (w : World) : Prop := ∃ n : Nat, n ≤ 8796093022000 ∧ h.n < 100 ∧ w.ownsRow B0 9 1 h.v n (strs (List.replicate n (markS h.n))) ∧ w.ownsRow B0 9 1 h.long (n + 40) (strs (List.replicate (n + 40) (markS h.n)))
theorem rep_at (n k : Nat) (m : ByteArray) (h : k < n) : (strs (List.replicate n m))[k]? = some (.string m) := by simp [strs, h]
theorem book_below {Bk m : Nat} {T : Value} {L : List Held} {W W1 : World} (h : Book Bk T m L W) (hb : Below W.heap.size W W1) : Book Bk T m L W1 := ⟨(hb.block _ (blk_lt h.at_)).trans h.at_, pw_own_below h.own hb⟩

set_option maxHeartbeats 4000000 in
set_option maxRecDepth 100000 in
theorem lookText_calls (B0 Bk : Nat) (T : Value) (m : Nat) (L : List Held) (w : World) (hB : Book Bk T m L w) (hL : L.length ≤ 1000) (hK : ∀ i, i < L.length → LookOK B0 (L.getD i zH) w) :
    Calls Tryd.prog 48 #[.pointer (some ⟨Bk, 0, none⟩)] w fun e w' => e = .returned (.bool true) ∧ Below w.heap.size w w' := by
  have HB := Lib.hid hB
  have HK := Lib.hid hK
  clear hB hK
  go_enter Tryd.func48, Tryd.ntmps48
  go_wp2
  go_loopw [3] (fun i wr => ∃ k : Nat, k ≤ L.length ∧ i = .int .i64 k ∧ Hid (Below w.heap.size w wr)) (fun i _ => L.length - (intOf i).toNat)
  case atStart => exact ⟨0, Nat.zero_le _, rfl, Lib.hid (Below.refl _ _)⟩
  case round =>
    obtain ⟨i, hi, rfl, hr⟩ := hrel
    have hbk := Lib.hid (book_below HB.out hr.out)
    have c3 : wr.cell? ⟨Bk, 3, none⟩ = some T := blk_cell' hbk.out.at_ 3
    by_cases hlt : i < L.length
    · obtain ⟨g, cap, rfl, hgb, hgl⟩ := HB.out.own.form (by omega)
      obtain ⟨e0, e1, e2⟩ := book_entry hbk.out i hlt
      obtain ⟨n, hn, hN, ho1, ho2⟩ := HK.out i hlt
      obtain ⟨a1, c1, h1⟩ := own_slice ho1
      obtain ⟨a2, c2, h2⟩ := own_slice ho2
      obtain ⟨V, hV⟩ : ∃ V, L.getD i zH = V := ⟨_, rfl⟩
      rw [hV] at e0 e1 e2 ho1 ho2 h1 h2 hN
      obtain ⟨v, lg, N⟩ := V
      simp only at e0 e1 e2 ho1 ho2 h1 h2 hN
      subst h1 h2
      have HO1 := Lib.hid (pw_own_below ho1 hr.out)
      have HO2 := Lib.hid (pw_own_below ho2 hr.out)
      clear hV ho1 ho2
      go_wp2
      obtain ⟨W0, hW0⟩ : ∃ W0, wr.alloc (Obj.cells #[Value.slice a1 n c1, Value.slice a2 (n + 40) c2, Value.int IntKind.i64 (N : Int)] 65) = W0 := ⟨_, rfl⟩
      have HBLK : Hid (W0.heap[wr.heap.size]? = some (.cells #[Value.slice a1 n c1, Value.slice a2 (n + 40) c2, Value.int IntKind.i64 (N : Int)] 65 (0, 0))) := Lib.hid (by rw [← hW0]; exact World.alloc_heap_new wr _)
      have hb0 : Hid (Below wr.heap.size wr W0) := Lib.hid (by rw [← hW0]; exact bal (Below.refl _ _) _)
      rw [hW0]
      clear hW0 c3 e0 e1 e2
      obtain ⟨wo, rfl⟩ : ∃ wo : World, wo = wr := ⟨_, rfl⟩
      go_loopw [5] (fun kv wi => ∃ k : Nat, k ≤ n + 40 ∧ kv = .int .i64 k ∧ Hid (Below W0.heap.size W0 wi)) (fun kv _ => n + 40 - (intOf kv).toNat)
      case atStart => exact ⟨0, Nat.zero_le _, rfl, Lib.hid (Below.refl _ _)⟩
      case round =>
        obtain ⟨k, hk, rfl, hi3⟩ := hrel
        have hb1 := (hi3.out.block _ (blk_lt HBLK.out)).trans HBLK.out
        have q0 := blk_cell' hb1 0
        have q1 := blk_cell' hb1 1
        have q2 := blk_cell' hb1 2
        simp only [List.getElem?_toArray, List.getElem?_cons_zero, List.getElem?_cons_succ] at q0 q1 q2
        have hbw := bth hb0.out hi3.out
        by_cases hkl : k < n + 40
        · obtain ⟨g2, cap2, hv2, _, _⟩ := HO2.out.form (by omega)
          injection hv2 with hv2 _ hv3
          subst hv2 hv3
          have y2 : wr.cell? ⟨g2, k, none⟩ = some (.string (markS N)) := pw_cell_below hbw ((HO2.out.cellAt k (by omega)).trans (rep_at _ _ _ hkl))
          by_cases hkn : k < n
          · obtain ⟨g1, cap1, hv1, _, _⟩ := HO1.out.form (by omega)
            injection hv1 with hv1 _ hv3
            subst hv1 hv3
            have y1 : wr.cell? ⟨g1, k, none⟩ = some (.string (markS N)) := pw_cell_below hbw ((HO1.out.cellAt k (by omega)).trans (rep_at _ _ _ hkn))
            go_wp2
            go_quiet ((go_at_call 77; exact Calls.quiet_of_same (isText_same N hN _)))
            go_wp2
            go_roundw
            case rel => exact ⟨k + 1, by omega, by go_num, Lib.hid (bdn hi3.out _)⟩
            case measure => simp [intOf]; omega
          · have hd1 : decide (k < n) = false := by simpa using hkn
            have hd2 : decide ((k : Int) < (n : Int)) = false := by simpa using hkn
            go_wp2
            go_quiet ((go_at_call 77; exact Calls.quiet_of_same (isText_same N hN _)))
            go_wp2
            go_roundw
            case rel => exact ⟨k + 1, by omega, by go_num, Lib.hid (bdn hi3.out _)⟩
            case measure => simp [intOf]; omega
        · obtain rfl : k = n + 40 := by omega
          go_wp2
          go_roundw
          case rel => exact ⟨i + 1, by omega, by go_num, Lib.hid (bth (bth hr.out hb0.out) hi3.out)⟩
          case measure => simp [intOf]; omega
    · obtain rfl : i = L.length := by omega
      obtain ⟨aT, cT, hT⟩ := own_slice HB.out.own
      subst hT
      go_wp2
      go_ret
      exact ⟨rfl, hr.out⟩
end Go.Proofs.YtiibaggpaabfcaaDoor.H

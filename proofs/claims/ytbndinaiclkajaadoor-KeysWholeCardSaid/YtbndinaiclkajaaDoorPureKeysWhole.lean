/- KeysWhole: walked by hand. (Not finished.) -/
import Derived.Test.YtbndinaiclkajaaDoorKTold
import Derived.Test.YtbndinaiclkajaaDoorKAlive
set_option linter.unusedVariables false
set_option linter.unusedSimpArgs false
namespace Go.Proofs.YtbndinaiclkajaaDoor.Pure
open Go.RowKit Go.Proofs.YtbndinaiclkajaaDoor.H Go.Proofs.YtbndinaiclkajaaDoorW.PrintWords Go.Proofs.YtbndinaiclkajaaDoor.K
structure Dr (w : World) (a b c d : Nat) (p : Bool) (a' b' c' d' : Nat) (p' : Bool) (W : World) : Prop where
  at_ : W.heap[w.heap.size]? = some (.cells #[.int .u8 a, .int .u8 b, .int .u8 c, .int .u8 d, .bool p, .int .u8 a', .int .u8 b', .int .u8 c', .int .u8 d', .bool p'] 38 (0, 0))
  low : Below w.heap.size w W
theorem Dr.cell {w W : World} {a b c d a' b' c' d' : Nat} {p p' : Bool} (h : Dr w a b c d p a' b' c' d' p' W) (i : Nat) : W.cell? ⟨w.heap.size, i, none⟩ = (#[.int .u8 a, .int .u8 b, .int .u8 c, .int .u8 d, .bool p, .int .u8 a', .int .u8 b', .int .u8 c', .int .u8 d', .bool p'] : Array Value)[i]? ∧ W.frozen? ⟨w.heap.size, i, none⟩ = false :=
  ⟨blk_cell h.at_ i, blk_frozen h.at_ i⟩
theorem Dr.set3 {w W : World} {a b c d a' b' c' d' : Nat} {p p' : Bool} (h : Dr w a b c d p a' b' c' d' p' W) : Dr w a b c 0 p a' b' c' d' p' (W.setCell ⟨w.heap.size, 3, none⟩ (.int .u8 0)) :=
  ⟨blk_put h.at_ 3 _ rfl, h.low.setCell (p := ⟨w.heap.size, 3, none⟩) (Nat.le_refl _) _⟩
theorem Dr.set8 {w W : World} {a b c d a' b' c' d' : Nat} {p p' : Bool} (h : Dr w a b c d p a' b' c' d' p' W) : Dr w a b c d p a' b' c' 0 p' (W.setCell ⟨w.heap.size, 8, none⟩ (.int .u8 0)) :=
  ⟨blk_put h.at_ 8 _ rfl, h.low.setCell (p := ⟨w.heap.size, 8, none⟩) (Nat.le_refl _) _⟩
theorem Dr.on {w W W' : World} {a b c d a' b' c' d' : Nat} {p p' : Bool} (h : Dr w a b c d p a' b' c' d' p' W) (k : Below W.heap.size W W') : Dr w a b c d p a' b' c' d' p' W' :=
  ⟨(k.block _ (blk_lt h.at_)).trans h.at_, bth h.low k⟩
theorem Dr.all {w W' : World} {a b c d a' b' c' d' : Nat} {p p' : Bool} (h : Dr w a b c d p a' b' c' d' p' W') : Dr w a b c d p a' b' c' d' p' W' ∧ W'.cell? ⟨w.heap.size, 0, none⟩ = some (.int .u8 a) ∧ W'.cell? ⟨w.heap.size, 1, none⟩ = some (.int .u8 b) ∧ W'.cell? ⟨w.heap.size, 2, none⟩ = some (.int .u8 c) ∧ W'.cell? ⟨w.heap.size, 3, none⟩ = some (.int .u8 d) ∧ W'.cell? ⟨w.heap.size, 4, none⟩ = some (.bool p) ∧ W'.cell? ⟨w.heap.size, 5, none⟩ = some (.int .u8 a') ∧ W'.cell? ⟨w.heap.size, 6, none⟩ = some (.int .u8 b') ∧ W'.cell? ⟨w.heap.size, 7, none⟩ = some (.int .u8 c') ∧ W'.cell? ⟨w.heap.size, 8, none⟩ = some (.int .u8 d') ∧ W'.cell? ⟨w.heap.size, 9, none⟩ = some (.bool p') :=
  ⟨h, (h.cell 0).1, (h.cell 1).1, (h.cell 2).1, (h.cell 3).1, (h.cell 4).1, (h.cell 5).1, (h.cell 6).1, (h.cell 7).1, (h.cell 8).1, (h.cell 9).1⟩
theorem Dr.drew {w W' : World} {a b c d a' b' c' d' : Nat} {p p' : Bool} (h : Dr w a b c d p a' b' c' d' p' W') : Dr w a b c d p a' b' c' d' p' W'.drew := ⟨h.at_, bdr h.low⟩
theorem toldL_len (n : Int) (hn : -2147483648 ≤ n ∧ n ≤ 2147483647) (a b c d : Nat) (p : Bool) : (bs (toldL n a b c d p)).size ≤ 4611686018427387 := by
  have hD : (if n = 0 then [48] else wz n.natAbs).length ≤ 10 := by
    split
    · decide
    · exact wz_short 10 _ (by omega)
  have hE := end_len (d % 6)
  have h1 : (if decide (n < 0) = true then ([45] : List UInt8) else []).length ≤ 1 := by split <;> simp
  have h2 : (if p = true then (46 : UInt8) :: List.replicate (b % 30) 48 else []).length ≤ 31 := by
    split
    · rw [List.length_cons, List.length_replicate]; omega
    · simp
  rw [bs_size]
  unfold toldL
  rw [List.length_append, List.length_append, List.length_append, List.length_append, List.length_append, List.length_replicate, List.length_replicate]
  omega
def fixE (d : Nat) : Nat := if d % 6 = 4 then 0 else d
theorem fixE_ok (d : Nat) : fixE d % 6 ≠ 4 := by unfold fixE; split <;> omega
set_option maxHeartbeats 4000000 in
set_option maxRecDepth 100000 in
theorem whole_walk (n m : Int) (a b c d a' b' c' d' : Nat) (p p' : Bool) (hn : -2147483648 ≤ n ∧ n ≤ 2147483647) (hm : -2147483648 ≤ m ∧ m ≤ 2147483647) (hd : d ≤ 255) (hd' : d' ≤ 255) (W : World) :
    Calls Tryd.prog 8 #[.int .i32 n, .int .i32 m, .agg #[.int .u8 a, .int .u8 b, .int .u8 c, .int .u8 d, .bool p, .int .u8 a', .int .u8 b', .int .u8 c', .int .u8 d', .bool p']] W fun e W' => e = .returned (.bool true) ∧ Below W.heap.size W W' := by
  go_enter Tryd.func8, Tryd.ntmps8
  go_wp2
  go_loopw [7] (fun i wr => ∃ k : Nat, k ≤ 2 ∧ i = .int .i64 k ∧ Hid (Dr W a b c (if 1 ≤ k then fixE d else d) p a' b' c' (if 2 ≤ k then fixE d' else d') p' wr)) (fun i _ => 2 - (intOf i).toNat)
  case atStart => exact ⟨0, Nat.zero_le _, rfl, Lib.hid ⟨World.alloc_heap_new W _, bal (Below.refl _ _) _⟩⟩
  case round =>
    obtain ⟨k, hk, rfl, hr⟩ := hrel
    rcases (show k = 0 ∨ k = 1 ∨ k = 2 by omega) with rfl | rfl | rfl
    · simp only [if_neg (show ¬ (1 : Nat) ≤ 0 by decide), if_neg (show ¬ (2 : Nat) ≤ 0 by decide)] at hr
      obtain ⟨q1, q2⟩ := hr.out.cell 3
      by_cases h4 : d % 6 = 4
      · have ht : (((d : Int) % 6) == 4) = true := by rw [beq_iff_eq]; omega
        have hf := Lib.hid (show fixE d = 0 by unfold fixE; rw [if_pos h4])
        have hs := Lib.hid hr.out.set3
        go_wp2
        go_roundw
        case rel => exact ⟨1, by omega, by go_num, Lib.hid (by rw [if_pos (Nat.le_refl 1), if_neg (by decide), hf.out]; exact hs.out)⟩
        case measure => simp [intOf]
      · have ht : (((d : Int) % 6) == 4) = false := by rw [beq_eq_false_iff_ne]; omega
        have hf := Lib.hid (show fixE d = d by unfold fixE; rw [if_neg h4])
        go_wp2
        go_roundw
        case rel => exact ⟨1, by omega, by go_num, Lib.hid (by rw [if_pos (Nat.le_refl 1), if_neg (by decide), hf.out]; exact hr.out)⟩
        case measure => simp [intOf]
    · simp only [if_pos (Nat.le_refl 1), if_neg (show ¬ (2 : Nat) ≤ 1 by decide)] at hr
      obtain ⟨q1, q2⟩ := hr.out.cell 8
      by_cases h4 : d' % 6 = 4
      · have ht : (((d' : Int) % 6) == 4) = true := by rw [beq_iff_eq]; omega
        have hf := Lib.hid (show fixE d' = 0 by unfold fixE; rw [if_pos h4])
        have hs := Lib.hid hr.out.set8
        go_wp2
        go_roundw
        case rel => exact ⟨2, by omega, by go_num, Lib.hid (by rw [if_pos (by decide), if_pos (by decide), hf.out]; exact hs.out)⟩
        case measure => simp [intOf]
      · have ht : (((d' : Int) % 6) == 4) = false := by rw [beq_eq_false_iff_ne]; omega
        have hf := Lib.hid (show fixE d' = d' by unfold fixE; rw [if_neg h4])
        go_wp2
        go_roundw
        case rel => exact ⟨2, by omega, by go_num, Lib.hid (by rw [if_pos (by decide), if_pos (by decide), hf.out]; exact hr.out)⟩
        case measure => simp [intOf]
    · simp only [if_pos (show (1 : Nat) ≤ 2 by decide), if_pos (Nat.le_refl 2)] at hr
      obtain ⟨ka, hka⟩ := told_f n hn a b c (fixE d) p
      obtain ⟨kb, hkb⟩ := told_f m hm a' b' c' (fixE d') p'
      have HA := Lib.hid hka
      have HB := Lib.hid hkb
      have hcmp := Lib.hid (told_cmp n m a b c (fixE d) a' b' c' (fixE d') p p' (fixE_ok d) (fixE_ok d'))
      clear hka hkb
      have hsA : Hid ((bs (toldL n a b c (fixE d) p)).size ≤ 4611686018427387) := Lib.hid (toldL_len n hn _ _ _ _ _)
      have hsB : Hid ((bs (toldL m a' b' c' (fixE d') p')).size ≤ 4611686018427387) := Lib.hid (toldL_len m hm _ _ _ _ _)
      have hall := hr.out.all
      have hW : cmpI n m = if n < m then -1 else if n > m then 1 else 0 := rfl
      by_cases h1 : n < m
      · have h2 : ¬ n > m := by omega
        go_wp2_with fail
        go_region_held3 (fun w' => Dr W a b c (fixE d) p a' b' c' (fixE d') p' w' ∧ w'.cell? ⟨W.heap.size, 0, none⟩ = some (.int .u8 a) ∧ w'.cell? ⟨W.heap.size, 1, none⟩ = some (.int .u8 b) ∧ w'.cell? ⟨W.heap.size, 2, none⟩ = some (.int .u8 c) ∧ w'.cell? ⟨W.heap.size, 3, none⟩ = some (.int .u8 (fixE d)) ∧ w'.cell? ⟨W.heap.size, 4, none⟩ = some (.bool p) ∧ w'.cell? ⟨W.heap.size, 5, none⟩ = some (.int .u8 a') ∧ w'.cell? ⟨W.heap.size, 6, none⟩ = some (.int .u8 b') ∧ w'.cell? ⟨W.heap.size, 7, none⟩ = some (.int .u8 c') ∧ w'.cell? ⟨W.heap.size, 8, none⟩ = some (.int .u8 (fixE d')) ∧ w'.cell? ⟨W.heap.size, 9, none⟩ = some (.bool p')) (first | assumption | exact Dr.all (Dr.on (And.left (by assumption)) hbq) | exact Dr.all (Dr.drew hr.out) | go_keep) ((first | (go_at_call 21; with_reducible refine (Q.toolchestlaw05_alive.calls 8 true _ alive8).mono ?_; rintro e w' ⟨rfl, hbq⟩) | (go_at_call 22; with_reducible refine (Q.toolchestlaw05_told.calls ka n _ _ _ _ p _ _ HA.out).mono ?_; rintro e w' ⟨rfl, hbq⟩) | (go_at_call 22; with_reducible refine (Q.toolchestlaw05_told.calls kb m _ _ _ _ p' _ _ HB.out).mono ?_; rintro e w' ⟨rfl, hbq⟩) | (go_at_call 15; with_reducible refine (Q.keys_Number.calls 4 _ _ _ _ (Q.number_f 0 _ _ hsA.out hsB.out)).mono ?_; rintro e w' ⟨rfl, hbq⟩)))
        obtain ⟨hF, -⟩ := (show Dr W a b c (fixE d) p a' b' c' (fixE d') p' _ ∧ _ from by assumption)
        have HF := Lib.hid hF.low
        clear hF
        rw [bs_toList, bs_toList, hcmp.out, hW, if_pos (show n < m by omega)]
        go_wp2
        go_ret
        exact ⟨rfl, HF.out⟩
      · by_cases h2 : n > m
        · have h3 := h2
          go_wp2_with fail
          go_region_held3 (fun w' => Dr W a b c (fixE d) p a' b' c' (fixE d') p' w' ∧ w'.cell? ⟨W.heap.size, 0, none⟩ = some (.int .u8 a) ∧ w'.cell? ⟨W.heap.size, 1, none⟩ = some (.int .u8 b) ∧ w'.cell? ⟨W.heap.size, 2, none⟩ = some (.int .u8 c) ∧ w'.cell? ⟨W.heap.size, 3, none⟩ = some (.int .u8 (fixE d)) ∧ w'.cell? ⟨W.heap.size, 4, none⟩ = some (.bool p) ∧ w'.cell? ⟨W.heap.size, 5, none⟩ = some (.int .u8 a') ∧ w'.cell? ⟨W.heap.size, 6, none⟩ = some (.int .u8 b') ∧ w'.cell? ⟨W.heap.size, 7, none⟩ = some (.int .u8 c') ∧ w'.cell? ⟨W.heap.size, 8, none⟩ = some (.int .u8 (fixE d')) ∧ w'.cell? ⟨W.heap.size, 9, none⟩ = some (.bool p')) (first | assumption | exact Dr.all (Dr.on (And.left (by assumption)) hbq) | exact Dr.all (Dr.drew hr.out) | go_keep) ((first | (go_at_call 21; with_reducible refine (Q.toolchestlaw05_alive.calls 8 true _ alive8).mono ?_; rintro e w' ⟨rfl, hbq⟩) | (go_at_call 22; with_reducible refine (Q.toolchestlaw05_told.calls ka n _ _ _ _ p _ _ HA.out).mono ?_; rintro e w' ⟨rfl, hbq⟩) | (go_at_call 22; with_reducible refine (Q.toolchestlaw05_told.calls kb m _ _ _ _ p' _ _ HB.out).mono ?_; rintro e w' ⟨rfl, hbq⟩) | (go_at_call 15; with_reducible refine (Q.keys_Number.calls 4 _ _ _ _ (Q.number_f 0 _ _ hsA.out hsB.out)).mono ?_; rintro e w' ⟨rfl, hbq⟩)))
          obtain ⟨hF, -⟩ := (show Dr W a b c (fixE d) p a' b' c' (fixE d') p' _ ∧ _ from by assumption)
          have HF := Lib.hid hF.low
          clear hF
          rw [bs_toList, bs_toList, hcmp.out, hW, if_neg (show ¬ n < m by omega), if_pos (show n > m by omega)]
          go_wp2
          go_ret
          exact ⟨rfl, HF.out⟩
        · have h3 := h2
          go_wp2_with fail
          go_region_held3 (fun w' => Dr W a b c (fixE d) p a' b' c' (fixE d') p' w' ∧ w'.cell? ⟨W.heap.size, 0, none⟩ = some (.int .u8 a) ∧ w'.cell? ⟨W.heap.size, 1, none⟩ = some (.int .u8 b) ∧ w'.cell? ⟨W.heap.size, 2, none⟩ = some (.int .u8 c) ∧ w'.cell? ⟨W.heap.size, 3, none⟩ = some (.int .u8 (fixE d)) ∧ w'.cell? ⟨W.heap.size, 4, none⟩ = some (.bool p) ∧ w'.cell? ⟨W.heap.size, 5, none⟩ = some (.int .u8 a') ∧ w'.cell? ⟨W.heap.size, 6, none⟩ = some (.int .u8 b') ∧ w'.cell? ⟨W.heap.size, 7, none⟩ = some (.int .u8 c') ∧ w'.cell? ⟨W.heap.size, 8, none⟩ = some (.int .u8 (fixE d')) ∧ w'.cell? ⟨W.heap.size, 9, none⟩ = some (.bool p')) (first | assumption | exact Dr.all (Dr.on (And.left (by assumption)) hbq) | exact Dr.all (Dr.drew hr.out) | go_keep) ((first | (go_at_call 21; with_reducible refine (Q.toolchestlaw05_alive.calls 8 true _ alive8).mono ?_; rintro e w' ⟨rfl, hbq⟩) | (go_at_call 22; with_reducible refine (Q.toolchestlaw05_told.calls ka n _ _ _ _ p _ _ HA.out).mono ?_; rintro e w' ⟨rfl, hbq⟩) | (go_at_call 22; with_reducible refine (Q.toolchestlaw05_told.calls kb m _ _ _ _ p' _ _ HB.out).mono ?_; rintro e w' ⟨rfl, hbq⟩) | (go_at_call 15; with_reducible refine (Q.keys_Number.calls 4 _ _ _ _ (Q.number_f 0 _ _ hsA.out hsB.out)).mono ?_; rintro e w' ⟨rfl, hbq⟩)))
          obtain ⟨hF, -⟩ := (show Dr W a b c (fixE d) p a' b' c' (fixE d') p' _ ∧ _ from by assumption)
          have HF := Lib.hid hF.low
          clear hF
          rw [bs_toList, bs_toList, hcmp.out, hW, if_neg (show ¬ n < m by omega), if_neg (show ¬ n > m by omega)]
          go_wp2
          go_ret
          exact ⟨rfl, HF.out⟩
theorem nat_of {x : Int} (h : (Lit.int .u8 x).wf = true) : ∃ k : Nat, x = (k : Int) ∧ k ≤ 255 := by
  have := byte_ok h
  exact ⟨x.toNat, by omega, by omega⟩
theorem KeysWhole_walk (a0 : Int) (a1 : Int) (a2_0_0 : Int) (a2_0_1 : Int) (a2_0_2 : Int) (a2_0_3 : Int) (a2_0_4 : Bool) (a2_1_0 : Int) (a2_1_1 : Int) (a2_1_2 : Int) (a2_1_3 : Int) (a2_1_4 : Bool) (W : World) (ok0 : (Lit.int .i32 a0).wf = true) (ok1 : (Lit.int .i32 a1).wf = true) (ok2_0_0 : (Lit.int .u8 a2_0_0).wf = true) (ok2_0_1 : (Lit.int .u8 a2_0_1).wf = true) (ok2_0_2 : (Lit.int .u8 a2_0_2).wf = true) (ok2_0_3 : (Lit.int .u8 a2_0_3).wf = true) (ok2_1_0 : (Lit.int .u8 a2_1_0).wf = true) (ok2_1_1 : (Lit.int .u8 a2_1_1).wf = true) (ok2_1_2 : (Lit.int .u8 a2_1_2).wf = true) (ok2_1_3 : (Lit.int .u8 a2_1_3).wf = true) :
    Calls Tryd.prog 8 #[.int .i32 a0, .int .i32 a1, .agg #[.int .u8 a2_0_0, .int .u8 a2_0_1, .int .u8 a2_0_2, .int .u8 a2_0_3, .bool a2_0_4, .int .u8 a2_1_0, .int .u8 a2_1_1, .int .u8 a2_1_2, .int .u8 a2_1_3, .bool a2_1_4]] W fun e W' => e = .returned (.bool true) ∧ Below W.heap.size W W' := by
  obtain ⟨b0, rfl, -⟩ := nat_of ok2_0_0
  obtain ⟨b1, rfl, -⟩ := nat_of ok2_0_1
  obtain ⟨b2, rfl, -⟩ := nat_of ok2_0_2
  obtain ⟨b3, rfl, h3⟩ := nat_of ok2_0_3
  obtain ⟨c0, rfl, -⟩ := nat_of ok2_1_0
  obtain ⟨c1, rfl, -⟩ := nat_of ok2_1_1
  obtain ⟨c2, rfl, -⟩ := nat_of ok2_1_2
  obtain ⟨c3, rfl, g3⟩ := nat_of ok2_1_3
  exact whole_walk a0 a1 b0 b1 b2 b3 c0 c1 c2 c3 a2_0_4 a2_1_4 (by simpa [Lit.wf, IntKind.min, IntKind.max, IntKind.signed, IntKind.bits] using ok0) (by simpa [Lit.wf, IntKind.min, IntKind.max, IntKind.signed, IntKind.bits] using ok1) h3 g3 W
end Go.Proofs.YtbndinaiclkajaaDoor.Pure

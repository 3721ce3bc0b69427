/- cuts.Expand: tabs as blanks. -/
import Derived.Test.YtkedjlekeohpaaaDoorBuilder
import Derived.Test.YtkedjlekeohpaaaDoorHelp
import Derived.Test.YtkedjlekeohpaaaDoorRep
import Derived.Outline
set_option linter.unusedVariables false
set_option linter.unusedSimpArgs false
namespace Go.Proofs.YtkedjlekeohpaaaDoor.C
open Go.RowKit Go.Proofs Go.Proofs.YtkedjlekeohpaaaDoor.H Go.Proofs.YtkedjlekeohpaaaDoor.B Go.Proofs.YtkedjlekeohpaaaDoorW.PrintWords

/-- A byte further: what is told, and the column. -/
def stepE (n : Nat) (out : List UInt8) (col : Nat) (c : UInt8) : List UInt8 × Nat :=
  if c = 9 then (out ++ List.replicate (n - col % n) 32, col + (n - col % n)) else if c = 10 then (out ++ [10], 0) else (out ++ [c], col + 1)
def goE (n : Nat) : List UInt8 → List UInt8 → Nat → List UInt8 × Nat
  | [], out, _ => (out, 0)
  | c :: l, out, col => if (stepE n out col c).1.length > 1048576 then ([], 3) else goE n l (stepE n out col c).1 (stepE n out col c).2
/-- What Expand tells. -/
def expE (n : Int) (s : List UInt8) : List UInt8 × Nat := if n < 1 then ([], 1) else if n > 100 then ([], 1) else goE n.toNat s [] 0
theorem cells_rep (out : List UInt8) (c : Nat) : Lib.byteCells out ++ Lib.strCells (spaces c) = Lib.byteCells (out ++ List.replicate c 32) := by simp [Lib.byteCells, Lib.strCells, spaces]
theorem cells_one (out : List UInt8) (c : UInt8) : Lib.byteCells out ++ [.int .u8 (c.toNat : Int)] = Lib.byteCells (out ++ [c]) := by simp [Lib.byteCells]

theorem news_bytesE (W : World) (e : TypeId) (s : ByteArray) (j : Nat) (h : j < s.size) : (Lib.bytesWorld W e s).cell? ⟨W.heap.size, j, none⟩ = some (.int .u8 ((s[j]'h).toNat : Int)) := by
  rw [Lib.bytesWorld_cell W e s j h]
  have : s.data.toList.getD j 0 = s[j] := by
    rw [List.getD_eq_getElem?_getD, List.getElem?_eq_getElem (by rw [Array.length_toList]; exact h)]; rfl
  rw [this]
set_option maxHeartbeats 4000000 in
set_option maxRecDepth 100000 in
theorem expand_loop (s : ByteArray) (hs : s.size ≤ 100000000) (N : Nat) (h1 : 1 ≤ N) (h100 : N ≤ 100) (w : World) :
    Calls Tryd.prog 20 #[.string s, .int .i64 N] w fun e w' => e = .returned (.tuple #[.string ⟨(goE N s.data.toList [] 0).1.toArray⟩, .int .i64 ((goE N s.data.toList [] 0).2 : Int)]) ∧ Below w.heap.size w w' := by
  obtain ⟨i0, hi, hz0, hz1, hz2⟩ := info_parts infoByte
  obtain ⟨R, hR⟩ : ∃ R, goE N s.data.toList [] 0 = R := ⟨_, rfl⟩
  rw [hR]
  have hsz : s.data.toList.length = s.size := (Lib.size_eq s).symm
  have HR0 : Hid (goE N (s.data.toList.drop 0) [] 0 = R) := Lib.hid hR
  have HSZ := Lib.hid hsz
  clear hR hsz
  have hcv := fun (W : World) (s : ByteArray) => Lib.run_convert_string_bytes (P := Tryd.prog) W 9 53 5 s Tryd.underlying9 Tryd.underlying53 Tryd.underlying5
  go_enter Tryd.func20, Tryd.ntmps20
  go_wp2
  obtain ⟨Wb, hWb⟩ : ∃ Wb, Lib.bytesWorld w 5 s = Wb := ⟨_, rfl⟩
  have hsb : Wb.heap.size = w.heap.size + 1 := by rw [← hWb]; exact Lib.bytesWorld_size _ _ _
  have hbyte : ∀ j (h : j < s.size), Wb.cell? ⟨w.heap.size, j, none⟩ = some (.int .u8 ((s[j]'h).toNat : Int)) := fun j h => by
    have := news_bytesE w 5 s j h
    rw [hWb] at this; exact this
  have hBb : Below w.heap.size w Wb := by rw [← hWb]; exact bby (Below.refl _ _) _ _
  rw [hWb]
  have HBY := Lib.hid hbyte
  have HBB := Lib.hid hBb
  have HZB := Lib.hid hsb
  clear hWb hbyte hBb hsb
  go_loopw [6, 7, 19] (fun b ln i wr => ∃ k : Nat, k ≤ s.size ∧ i = .int .i64 k ∧ ∃ (out : List UInt8) (col lnn : Nat), ln = .int .i64 lnn ∧ out.length = lnn + col ∧ out.length ≤ 1048576 ∧ Hid (goE N (s.data.toList.drop k) out col = R ∧ wr.ownsRow (w.heap.size + 1) 5 1 b out.length (Lib.byteCells out) ∧ Below (w.heap.size + 1) Wb wr)) (fun _ _ i _ => s.size - (intOf i).toNat)
  case atStart => exact ⟨0, Nat.zero_le _, rfl, [], 0, 0, rfl, rfl, by simp, Lib.hid ⟨HR0.out, World.ownsRow_nil _ _ _ _, Below.refl _ _⟩⟩
  case round =>
    obtain ⟨k, hk, rfl, out, col, ln, rfl, hol, hom, hr⟩ := hrel
    obtain ⟨ba, bc, hb⟩ := own_slice hr.out.2.1
    subst hb
    have HOL := Lib.hid hol
    have hol2 : ln ≤ out.length := by omega
    clear hol
    have hzw : w.heap.size + 1 ≤ wr.heap.size := by have := hr.out.2.2.size; have := HZB.out; omega
    by_cases hlt : k < s.size
    · have hcell : wr.cell? ⟨w.heap.size, k, none⟩ = some (.int .u8 (s[k].toNat : Int)) := (hr.out.2.2.cell (p := ⟨w.heap.size, k, none⟩) (Nat.lt_succ_self _)).trans (HBY.out k hlt)
      obtain ⟨c, hc⟩ : ∃ c, s[k] = c := ⟨_, rfl⟩
      have hdr : s.data.toList.drop k = c :: s.data.toList.drop (k + 1) := by
        rw [List.drop_eq_getElem_cons (by rw [HSZ.out]; exact hlt)]; congr 1
      have hgo : goE N (c :: s.data.toList.drop (k + 1)) out col = R := by rw [← hdr]; exact hr.out.1
      rw [hc] at hcell
      have HG := Lib.hid hgo
      have hmod : col % N < N := Nat.mod_lt _ (by omega)
      clear hc hdr hgo
      by_cases h9 : c = 9
      · subst h9
        have hst : stepE N out col 9 = (out ++ List.replicate (N - col % N) 32, col + (N - col % N)) := by unfold stepE; rw [if_pos rfl]
        have hq : wrap64 ((N : Int) - ((out.length : Int) - (ln : Int)) % (N : Int)) = ((N - col % N : Nat) : Int) := by
          have e1 : ((out.length : Int) - (ln : Int)) % (N : Int) = ((col % N : Nat) : Int) := by rw [show (out.length : Int) - (ln : Int) = (col : Int) by have := HOL.out; omega]; rfl
          rw [e1]; unfold wrap64; omega
        have HQ := Lib.hid hq
        have HST := Lib.hid hst
        have HRS := Lib.hid (spaces_size (N - col % N))
        clear hst hq
        have hle : N - col % N ≤ 100 := by omega
        go_wp2_with (first | (go_at_call 39; refine (rep_calls _ _ HQ.out _ (by omega)).mono ?_))
        rintro e w2 ⟨rfl, hb2⟩
        have HO2 := Lib.hid (pw_own_below hr.out.2.1 hb2)
        have HB2 := Lib.hid (hr.out.2.2.trans (hb2.mono hzw))
        have hsz2 := hb2.size
        clear hb2
        go_wp2_with (at_builtin; refine Lib.wpList_append_own_string _ rfl _ _ 53 9 rfl (w.heap.size + 1) 5 i0 Tryd.underlying53 Tryd.underlying9 hi hz0 hz1 hz2 _ _ _ rfl HO2.out _ rfl ?c3 ?c4 ?c5 ?_)
        case c3 => rw [HRS.out]; unfold maxLen; omega
        case c4 => rw [HRS.out]; omega
        case c5 => omega
        intro v3 w3 hown3 hg3 _
        have HN : Hid (w3.ownsRow (w.heap.size + 1) 5 1 v3 (out.length + (N - col % N)) (Lib.byteCells (out ++ List.replicate (N - col % N) 32)) ∧ Below (w.heap.size + 1) Wb w3) := Lib.hid ⟨by rw [cells_rep, HRS.out] at hown3; exact hown3, HB2.out.grown hg3 (by omega) (fun j hj => own_base HO2.out j hj)⟩
        clear hown3 hg3 HO2 HB2
        obtain ⟨va, vc, hv⟩ := own_slice HN.out.1
        subst hv
        by_cases hov : 1048576 < out.length + (N - col % N)
        · have HE : Hid (R = ([], 3)) := Lib.hid (by rw [← HG.out]; unfold goE; rw [HST.out, if_pos (by rw [List.length_append, List.length_replicate]; exact hov)])
          go_wp2
          go_ret2
          exact ⟨by rw [HE.out]; rfl, HBB.out.trans (HN.out.2.mono (by omega))⟩
        · have HE : Hid (goE N (s.data.toList.drop (k + 1)) (out ++ List.replicate (N - col % N) 32) (col + (N - col % N)) = R) := Lib.hid (by rw [← HG.out]; conv => rhs; unfold goE; rw [HST.out, if_neg (by rw [List.length_append, List.length_replicate]; exact hov)])
          go_wp2
          go_roundw
          case rel => exact ⟨k + 1, by omega, by go_num, out ++ List.replicate (N - col % N) 32, col + (N - col % N), ln, rfl, by rw [List.length_append, List.length_replicate]; have := HOL.out; omega, by rw [List.length_append, List.length_replicate]; omega, Lib.hid ⟨HE.out, by rw [List.length_append, List.length_replicate]; exact HN.out.1, HN.out.2⟩⟩
          case measure => simp [intOf]; omega
      · have hn9 : ((c.toNat : Int) == 9) = false := by rw [beq_eq_false_iff_ne]; intro e; exact h9 (by rw [← UInt8.toNat_inj]; show c.toNat = 9; omega)
        by_cases h10 : c = 10
        · subst h10
          have hst : stepE N out col 10 = (out ++ [10], 0) := by unfold stepE; rw [if_neg (by decide), if_pos rfl]
          have HST := Lib.hid hst
          clear hst h9 hn9
          go_wp2_with (at_builtin; refine wpList_append_own _ rfl _ _ 53 rfl (w.heap.size + 1) 5 i0 (.int .u8 0) 1 1 Tryd.underlying53 hi hz0 hz1 hz2 rfl (by decide) _ _ _ rfl (hr.out.2.1.alloc _) ⟨wr.heap.size, 0, none⟩ 1 1 [.int .u8 10] rfl rfl ?c1 ?c2 ?c3 ?c4 ?c5 ?_)
          case c1 => exact cell_one_new _ _ _
          case c2 => intro u hu; simp at hu; subst hu; rfl
          case c3 => unfold maxLen; omega
          case c4 => omega
          case c5 => simp; omega
          intro v3 w3 hown3 hg3 _
          have HN : Hid (w3.ownsRow (w.heap.size + 1) 5 1 v3 (out.length + 1) (Lib.byteCells (out ++ [10])) ∧ Below (w.heap.size + 1) Wb w3) := Lib.hid ⟨by rw [← cells_one]; exact hown3, ((hr.out.2.2.alloc hzw _).grown hg3 (by simp; omega) (fun j hj => own_base hr.out.2.1 j hj))⟩
          clear hown3 hg3
          obtain ⟨va, vc, hv⟩ := own_slice HN.out.1
          subst hv
          obtain ⟨m3, hm3⟩ : ∃ m3, out.length + 1 = m3 := ⟨_, rfl⟩
          have hm4 : m3 ≤ 1048577 := by omega
          rw [hm3] at HN ⊢
          have HM := Lib.hid hm3
          clear hm3
          by_cases hov : 1048576 < m3
          · have HE : Hid (R = ([], 3)) := Lib.hid (by rw [← HG.out]; unfold goE; rw [HST.out, if_pos (by rw [List.length_append]; show out.length + 1 > 1048576; rw [HM.out]; exact hov)])
            go_wp2
            go_ret2
            exact ⟨by rw [HE.out]; rfl, HBB.out.trans (HN.out.2.mono (by omega))⟩
          · have HE : Hid (goE N (s.data.toList.drop (k + 1)) (out ++ [10]) 0 = R) := Lib.hid (by rw [← HG.out]; conv => rhs; unfold goE; rw [HST.out, if_neg (by rw [List.length_append]; show ¬ out.length + 1 > 1048576; rw [HM.out]; exact hov)])
            go_wp2
            go_roundw
            case rel => exact ⟨k + 1, by omega, by go_num, out ++ [10], 0, m3, rfl, by rw [List.length_append]; exact HM.out, by rw [List.length_append]; show out.length + 1 ≤ _; rw [HM.out]; omega, Lib.hid ⟨HE.out, by rw [List.length_append]; show w3.ownsRow _ _ _ _ (out.length + 1) _; rw [HM.out]; exact HN.out.1, HN.out.2⟩⟩
            case measure => simp [intOf]; omega
        · have hn10 : ((c.toNat : Int) == 10) = false := by rw [beq_eq_false_iff_ne]; intro e; exact h10 (by rw [← UInt8.toNat_inj]; show c.toNat = 10; omega)
          have hst : stepE N out col c = (out ++ [c], col + 1) := by unfold stepE; rw [if_neg h9, if_neg h10]
          have HST := Lib.hid hst
          clear hst h9 h10
          go_wp2_with (at_builtin; refine wpList_append_own _ rfl _ _ 53 rfl (w.heap.size + 1) 5 i0 (.int .u8 0) 1 1 Tryd.underlying53 hi hz0 hz1 hz2 rfl (by decide) _ _ _ rfl (hr.out.2.1.alloc _) ⟨wr.heap.size, 0, none⟩ 1 1 [.int .u8 (c.toNat : Int)] rfl rfl ?c1 ?c2 ?c3 ?c4 ?c5 ?_)
          case c1 => exact cell_one_new _ _ _
          case c2 => intro u hu; simp at hu; subst hu; rfl
          case c3 => unfold maxLen; omega
          case c4 => omega
          case c5 => simp; omega
          intro v3 w3 hown3 hg3 _
          have HN : Hid (w3.ownsRow (w.heap.size + 1) 5 1 v3 (out.length + 1) (Lib.byteCells (out ++ [c])) ∧ Below (w.heap.size + 1) Wb w3) := Lib.hid ⟨by rw [← cells_one]; exact hown3, ((hr.out.2.2.alloc hzw _).grown hg3 (by simp; omega) (fun j hj => own_base hr.out.2.1 j hj))⟩
          clear hown3 hg3
          obtain ⟨va, vc, hv⟩ := own_slice HN.out.1
          subst hv
          obtain ⟨m3, hm3⟩ : ∃ m3, out.length + 1 = m3 := ⟨_, rfl⟩
          have hm4 : m3 ≤ 1048577 := by omega
          rw [hm3] at HN ⊢
          have HM := Lib.hid hm3
          clear hm3
          by_cases hov : 1048576 < m3
          · have HE : Hid (R = ([], 3)) := Lib.hid (by rw [← HG.out]; unfold goE; rw [HST.out, if_pos (by rw [List.length_append]; show out.length + 1 > 1048576; rw [HM.out]; exact hov)])
            go_wp2
            go_ret2
            exact ⟨by rw [HE.out]; rfl, HBB.out.trans (HN.out.2.mono (by omega))⟩
          · have HE : Hid (goE N (s.data.toList.drop (k + 1)) (out ++ [c]) (col + 1) = R) := Lib.hid (by rw [← HG.out]; conv => rhs; unfold goE; rw [HST.out, if_neg (by rw [List.length_append]; show ¬ out.length + 1 > 1048576; rw [HM.out]; exact hov)])
            go_wp2
            go_roundw
            case rel => exact ⟨k + 1, by omega, by go_num, out ++ [c], col + 1, ln, rfl, by rw [List.length_append]; have := HOL.out; show out.length + 1 = _; omega, by rw [List.length_append]; show out.length + 1 ≤ _; rw [HM.out]; omega, Lib.hid ⟨HE.out, by rw [List.length_append]; show w3.ownsRow _ _ _ _ (out.length + 1) _; rw [HM.out]; exact HN.out.1, HN.out.2⟩⟩
            case measure => simp [intOf]; omega
    · obtain rfl : k = s.size := by omega
      have HE : Hid (R = (out, 0)) := Lib.hid (by rw [← hr.out.1, List.drop_of_length_le (by rw [HSZ.out]; exact Nat.le_refl _)]; rfl)
      have hcb := own_string (P := Tryd.prog) (src := 53) (dst := 9) (e := 5) (xs := out.map fun b => (b.toNat : Int)) Tryd.underlying53 Tryd.underlying5 Tryd.underlying9 (by simpa [nums, Lib.byteCells, Function.comp_def] using hr.out.2.1)
      go_wp2
      go_ret2
      exact ⟨by rw [HE.out]; simp [strOfNums, Function.comp_def], HBB.out.trans (hr.out.2.2.mono (by omega))⟩
set_option maxHeartbeats 1000000 in
set_option maxRecDepth 100000 in
theorem expand_calls (s : ByteArray) (hs : s.size ≤ 100000000) (n : Int) (w : World) :
    Calls Tryd.prog 20 #[.string s, .int .i64 n] w fun e w' => e = .returned (.tuple #[.string ⟨(expE n s.data.toList).1.toArray⟩, .int .i64 ((expE n s.data.toList).2 : Int)]) ∧ Below w.heap.size w w' := by
  by_cases h1 : n < 1
  · have he : expE n s.data.toList = ([], 1) := by unfold expE; rw [if_pos h1]
    rw [he]
    go_enter Tryd.func20, Tryd.ntmps20
    go_wp2
    go_ret2
    exact ⟨rfl, Below.refl _ _⟩
  · by_cases h2 : n > 100
    · have he : expE n s.data.toList = ([], 1) := by unfold expE; rw [if_neg h1, if_pos h2]
      rw [he]
      have hd : decide (n < 1) = false := by simpa using h1
      go_enter Tryd.func20, Tryd.ntmps20
      go_wp2
      go_ret2
      exact ⟨rfl, Below.refl _ _⟩
    · obtain ⟨N, rfl⟩ : ∃ N : Nat, n = (N : Int) := ⟨n.toNat, by omega⟩
      have he : expE (N : Int) s.data.toList = goE N s.data.toList [] 0 := by unfold expE; rw [if_neg h1, if_neg h2]; rfl
      rw [he]
      exact expand_loop s hs N (by omega) (by omega) w
end Go.Proofs.YtkedjlekeohpaaaDoor.C

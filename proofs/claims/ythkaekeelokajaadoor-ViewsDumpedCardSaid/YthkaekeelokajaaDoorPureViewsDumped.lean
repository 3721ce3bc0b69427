/- Written by merge.py out of VDumped, PureViewsDumped. -/
import Derived.Test.YthkaekeelokajaaDoorVOct
import Derived.Test.YthkaekeelokajaaDoorPlain
import Derived.Test.YthkaekeelokajaaDoorVAlive
import Derived.Laws.IdiomStrings
import Derived.IntWalk
section
/- A text comes back from its bytes in octal: over lists of bytes alone. -/
set_option linter.unusedVariables false
set_option linter.unusedSimpArgs false
namespace Go.Proofs.YthkaekeelokajaaDoor.P
open Go.RowKit Go.Proofs Go.Proofs.YthkaekeelokajaaDoor.H Go.Proofs.YthkaekeelokajaaDoor.Oct Go.Proofs.YthkaekeelokajaaDoor.S

theorem dg_range (n : Nat) : 48 ≤ (dg n).toNat ∧ (dg n).toNat ≤ 55 := by
  unfold dg
  rw [UInt8.toNat_ofNat']
  omega
theorem dg_val (n : Nat) : (dg n).toNat = 48 + n % 8 := by
  unfold dg
  rw [UInt8.toNat_ofNat']
  omega
theorem octF_range : ∀ (f n : Nat), ∀ b ∈ octF f n, 48 ≤ b.toNat ∧ b.toNat ≤ 55
  | 0, _, b, h => by cases h
  | f + 1, n, b, h => by
    simp only [octF] at h
    split at h
    · rw [List.mem_singleton.1 h]; exact dg_range n
    · rcases List.mem_append.1 h with h | h
      · exact octF_range f (n / 8) b h
      · rw [List.mem_singleton.1 h]; exact dg_range n
theorem octP_range (n w : Nat) : ∀ b ∈ octP n w, 48 ≤ b.toNat ∧ b.toNat ≤ 55 := by
  intro b h
  unfold octP at h
  rcases List.mem_append.1 h with h | h
  · rw [(List.mem_replicate.1 h).2]; exact ⟨by decide, by decide⟩
  · exact octF_range _ _ b h
/-- What octal digits tell. -/
def valL (m : Nat) (l : List UInt8) : Nat := l.foldl (fun n b => 8 * n + (b.toNat - 48)) m
theorem valL_app (m : Nat) (a b : List UInt8) : valL m (a ++ b) = valL (valL m a) b := by unfold valL; rw [List.foldl_append]
theorem valL_zeros (k : Nat) : valL 0 (List.replicate k 48) = 0 := by
  induction k with
  | zero => rfl
  | succ k ih => rw [List.replicate_succ]; exact ih
theorem valL_oct : ∀ (f n : Nat), n < f → valL 0 (octF f n) = n
  | f + 1, n, h => by
    simp only [octF]
    split
    · show 8 * 0 + ((dg n).toNat - 48) = n
      rw [dg_val]; omega
    · rw [valL_app, valL_oct f (n / 8) (by omega)]
      show 8 * (n / 8) + ((dg n).toNat - 48) = n
      rw [dg_val]; omega
theorem valL_octP (n w : Nat) : valL 0 (octP n w) = n := by
  unfold octP oct
  rw [valL_app, valL_zeros, valL_oct _ _ (Nat.lt_succ_self n)]
theorem valL_take (l : List UInt8) (i : Nat) (h : i < l.length) : valL 0 (l.take (i + 1)) = 8 * valL 0 (l.take i) + (l[i].toNat - 48) := by
  rw [List.take_succ_eq_append_getElem h, valL_app]; rfl
theorem valL_small (l : List UInt8) (h : ∀ b ∈ l, 48 ≤ b.toNat ∧ b.toNat ≤ 55) : ∀ i, valL 0 (l.take i) < 8 ^ i
  | 0 => by simp [valL]
  | i + 1 => by
    have e : 8 ^ (i + 1) = 8 ^ i * 8 := Nat.pow_succ ..
    by_cases hi : i < l.length
    · rw [valL_take l i hi]
      have := valL_small l h i
      have := h l[i] (List.getElem_mem hi)
      omega
    · have h1 := valL_small l h i
      rw [List.take_of_length_le (by omega)] at h1 ⊢
      omega
theorem oct3 (c : UInt8) : (octP c.toNat 3).length = 3 := by
  rw [octP_len]
  have := oct_len 3 c.toNat (by have := c.toNat_lt; omega) (by decide)
  omega
theorem oct7 (n : Nat) (h : n < 2097152) : (octP n 7).length = 7 := by
  rw [octP_len]
  have := oct_len 7 n (by omega) (by decide)
  omega
/-- One line of a dump, and its fields. -/
def rowAt (l : List UInt8) (i : Nat) : List UInt8 := octP (16 * i) 7 ++ rowL ((l.drop (16 * i)).take 16)
def fieldsAt (l : List UInt8) (i : Nat) : List (List UInt8) := octP (16 * i) 7 :: ((l.drop (16 * i)).take 16).map (fun c => octP c.toNat 3)
theorem digit_not (p : UInt8 → Bool) (hp : ∀ b : UInt8, 48 ≤ b.toNat → p b = false) (n w : Nat) : ∀ b ∈ octP n w, p b = false := fun b hb => hp b (octP_range n w b hb).1
theorem split_row (p : UInt8 → Bool) (hp : ∀ b : UInt8, 48 ≤ b.toNat → p b = false) (h32 : p 32 = true) : ∀ (ch : List UInt8) (a : List UInt8), (∀ b ∈ a, p b = false) → splitL p (a ++ rowL ch) = a :: ch.map (fun c => octP c.toNat 3)
  | [], a, ha => by
    unfold rowL
    rw [List.flatMap_nil, List.append_nil]
    unfold splitL
    rw [splitL_one p a ha]; rfl
  | c :: ch, a, ha => by
    have e : a ++ rowL (c :: ch) = a ++ 32 :: (octP c.toNat 3 ++ rowL ch) := by unfold rowL; rw [List.flatMap_cons]; simp
    rw [e, splitL_app p a _ 32 h32, split_row p hp h32 ch _ (digit_not p hp _ _)]
    have e2 : splitL p a = [a] := by unfold splitL; rw [splitL_one p a ha]; rfl
    rw [e2]; rfl
theorem fields_row (l : List UInt8) (i : Nat) : splitL (· == 32) (rowAt l i) = fieldsAt l i := by
  have hp : ∀ b : UInt8, 48 ≤ b.toNat → (b == 32) = false := fun b h => by
    rw [beq_eq_false_iff_ne]; rintro rfl; exact absurd h (by decide)
  unfold rowAt fieldsAt
  exact split_row _ hp (by decide) _ _ (digit_not _ hp _ _)
theorem row_noend (l : List UInt8) (i : Nat) : ∀ b ∈ rowAt l i, isNl b = false := by
  have hp : ∀ b : UInt8, 48 ≤ b.toNat → isNl b = false := fun b h => by
    cases hb : isNl b with
    | false => rfl
    | true => rw [(isNl_iff b).1 hb] at h; exact absurd h (by decide)
  intro b hb
  unfold rowAt at hb
  rcases List.mem_append.1 hb with h | h
  · exact digit_not _ hp _ _ b h
  · unfold rowL at h
    obtain ⟨c, _, hc⟩ := List.mem_flatMap.1 h
    rcases List.mem_cons.1 hc with rfl | hc
    · rfl
    · exact digit_not _ hp _ _ b hc
theorem split_rows (l : List UInt8) (T : List UInt8) : ∀ (d i : Nat), i + d = (l.length + 15) / 16 → splitL isNl (rows (16 * i) (l.drop (16 * i)) ++ T) = ((List.range d).map (fun j => rowAt l (i + j))) ++ splitL isNl T
  | 0, i, h => by
    rw [List.drop_of_length_le (by omega), rows_nil]; rfl
  | d + 1, i, h => by
    rw [rows_cons _ _ (by rw [List.length_drop]; omega), List.drop_drop]
    have e : octP (16 * i) 7 ++ rowL ((l.drop (16 * i)).take 16) ++ [10] ++ rows (16 * i + 16) (l.drop (16 * i + 16)) ++ T = rowAt l i ++ 10 :: (rows (16 * (i + 1)) (l.drop (16 * (i + 1))) ++ T) := by
      unfold rowAt; rw [show 16 * (i + 1) = 16 * i + 16 by omega]; simp
    rw [e, splitL_app isNl _ _ 10 rfl, split_rows l T d (i + 1) (by omega)]
    have e2 : splitL isNl (rowAt l i) = [rowAt l i] := by unfold splitL; rw [splitL_one isNl _ (row_noend l i)]; rfl
    rw [e2, List.range_succ_eq_map, List.map_cons, List.map_map, List.singleton_append, List.cons_append]
    congr 2
    apply List.map_congr_left
    intro j _
    show rowAt l (i + 1 + j) = rowAt l (i + (j + 1))
    congr 1; omega
/-- The lines of a dump. -/
def dumpLines (l : List UInt8) : List (List UInt8) := (List.range ((l.length + 15) / 16)).map (rowAt l) ++ [octP l.length 7]
theorem dump_lines (l : List UInt8) : linesL (dumpL l) = dumpLines l := by
  have hp : ∀ b : UInt8, 48 ≤ b.toNat → isNl b = false := fun b h => by
    cases hb : isNl b with
    | false => rfl
    | true => rw [(isNl_iff b).1 hb] at h; exact absurd h (by decide)
  unfold linesL dumpL dumpLines
  rw [if_neg (by simp), trim_nl]
  have h := split_rows l (octP l.length 7) ((l.length + 15) / 16) 0 (by omega)
  rw [Nat.mul_zero, List.drop_zero] at h
  rw [h]
  have e2 : splitL isNl (octP l.length 7) = [octP l.length 7] := by unfold splitL; rw [splitL_one isNl _ (digit_not isNl hp _ _)]; rfl
  rw [e2]
  simp only [Nat.zero_add]
theorem dump_split (l : List UInt8) : splitOf ⟨(dumpL l).toArray⟩ = ((dumpLines l).map bs, true) := by
  have h1 := splitOf_lines ⟨(dumpL l).toArray⟩
  rw [show (⟨(dumpL l).toArray⟩ : ByteArray).data.toList = dumpL l from rfl, dump_lines] at h1
  have h2 : (splitOf ⟨(dumpL l).toArray⟩).2 = true := by
    unfold splitOf
    rw [if_neg]
    · show Lib.hasSuffix (dumpL l) [10] = true
      unfold dumpL
      exact suffix_nl _
    · show ¬ (dumpL l).length = 0
      unfold dumpL
      simp
  exact Prod.ext h1 h2
theorem fields_line (l : List UInt8) (i : Nat) : fieldsOf (bs (rowAt l i)) 32 = (fieldsAt l i).map bs := by
  unfold fieldsOf
  rw [if_neg (by decide), partsOf_spl, bs_toList]
  rw [← fields_row l i]
  congr 2
  funext b
  rw [Bool.eq_iff_iff, beq_iff_eq, beq_iff_eq, ← UInt8.toNat_inj]
  show (b.toNat : Int) = 32 ↔ b.toNat = 32
  omega
end Go.Proofs.YthkaekeelokajaaDoor.P

end
section
/- ViewsDumped: a text comes back from its bytes in octal: the walk of the law. -/
set_option linter.unusedVariables false
set_option linter.unusedSimpArgs false
namespace Go.Proofs.YthkaekeelokajaaDoor.P
open Go.RowKit Go.Proofs Go.Proofs.YthkaekeelokajaaDoor.Q Go.Proofs.YthkaekeelokajaaDoor.H Go.Proofs.YthkaekeelokajaaDoor.C Go.Proofs.YthkaekeelokajaaDoor.Oct Go.Proofs.YthkaekeelokajaaDoor.S Go.Proofs.YthkaekeelokajaaDoorW.PrintWords Go.Proofs.YthkaekeelokajaaDoorW.PrintLast

theorem read_loop (l : List UInt8) (hd : ∀ b ∈ l, 48 ≤ b.toNat ∧ b.toNat ≤ 55) (hl : l.length ≤ 15) : ∀ (d i : Nat), i + d = l.length → Ev (fun k => toolchestlaw08_read.l0 k ⟨l.toArray⟩ (valL 0 (l.take i) : Int) (i : Int)) (valL 0 l : Int)
  | 0, i, h => by
    obtain rfl : i = l.length := by omega
    refine Ev.now fun k => ?_
    rw [toolchestlaw08_read.l0, if_neg (by show ¬ ((l.length : Int) < (l.toArray.size : Int)); simp), List.take_length]
  | d + 1, i, h => by
    have hi : i < l.length := by omega
    refine (read_loop l hd hl d (i + 1) (by omega)).step fun k hk => ?_
    have hb := hd l[i] (List.getElem_mem hi)
    have hbt : bt ⟨l.toArray⟩ (i : Int) = (l[i].toNat : Int) := bt_list ⟨l.toArray⟩ i hi
    have hv := valL_small l hd i
    have hv2 : valL 0 (l.take i) < 8 ^ 15 := Nat.lt_of_lt_of_le hv (Nat.pow_le_pow_right (by decide) (by omega))
    have e8 : 8 ^ 15 = 35184372088832 := by decide
    rw [e8] at hv2
    have hw := wrap_one i (by omega)
    have hw2 : wrap64 (wrap64 (8 * (valL 0 (l.take i) : Int)) + ((l[i].toNat : Int) - 48) % 256) = (valL 0 (l.take (i + 1)) : Int) := by
      rw [valL_take l i hi]
      generalize valL 0 (l.take i) = v at hv2
      have w1 : wrap64 (8 * (v : Int)) = 8 * v := by unfold wrap64; omega
      rw [w1]
      unfold wrap64
      omega
    rw [toolchestlaw08_read.l0, if_pos (by show (i : Int) < (l.toArray.size : Int); simp; omega), if_pos (nat_nn i), hbt, if_neg (by omega), if_neg (by omega), hw, hw2]
    exact hk
theorem read_calls (n w : Nat) (hl : (octP n w).length ≤ 15) (V : World) : Calls Tryd.prog 31 #[.string (bs (octP n w))] V fun e w' => e = .returned (.int .i64 (n : Int)) ∧ Below V.heap.size V w' := by
  obtain ⟨k, hk⟩ := (read_loop (octP n w) (octP_range n w) hl (octP n w).length 0 (by omega)).at_
  rw [valL_octP] at hk
  exact (toolchestlaw08_read.calls k (bs (octP n w)) (n : Int) V hk).mono fun e w' h => ⟨h.1, h.2.below⟩
theorem dfields_calls (l : List UInt8) (k : Nat) (hs : (rowAt l k).length ≤ 8796093022000) (w : World) :
    Calls Tryd.prog 29 #[.string (bs (rowAt l k)), .int .u8 32] w fun e W' => ∃ g z, e = .returned (.slice (some ⟨g, 0, none⟩) (fieldsAt l k).length z) ∧ (fieldsAt l k).length ≤ z ∧ W'.ownsRow w.heap.size 9 1 (.slice (some ⟨g, 0, none⟩) (fieldsAt l k).length z) (fieldsAt l k).length (strs ((fieldsAt l k).map bs)) ∧ Below w.heap.size w W' :=
  (callsIn_wide.1 (fields_in Fence.wide 10 trivial trivial trivial trivial trivial trivial trivial rfl (by omega) (bs (rowAt l k)) 32 (by rw [bs_size]; exact hs) w)).mono fun e W' ⟨v, e1, ho, hb⟩ => by
    rw [fields_line, List.length_map] at ho
    rcases ho.2 with ⟨_, h0⟩ | ⟨g, cap, cur, he, h1, h2, h3, h4, h5⟩
    · exact absurd h0 (by unfold fieldsAt; simp)
    · subst he
      exact ⟨g, cap, e1, h3, ho, hb⟩
theorem dsplit_calls (s : ByteArray) (l : List ByteArray) (hl : splitOf s = (l, true)) (hs : s.size ≤ 8796093022000) (w : World) :
    Calls Tryd.prog 30 #[.string s] w fun e W' => ∃ A z, e = .returned (.tuple #[.slice A l.length z, .bool true]) ∧ l.length ≤ z ∧ Kd.C Kd.string W' A l.length l ∧ Below w.heap.size w W' :=
  (split_calls s hs w).mono fun e W' ⟨v, e1, ho, hb⟩ => by
    rw [hl] at e1 ho
    obtain ⟨A, z, rfl, hz, hC⟩ := Kd.R_reads (R_of_own ho)
    exact ⟨A, z, e1, hz, hC, hb⟩
theorem rowL_lenD (l : List UInt8) : (rowL l).length = 4 * l.length := by
  induction l with
  | nil => rfl
  | cons c l ih =>
    have e : rowL (c :: l) = (32 :: octP c.toNat 3) ++ rowL l := by unfold rowL; rw [List.flatMap_cons]
    rw [e, List.length_append, ih, List.length_cons, oct3]; simp; omega
theorem rows_lenD (l : List UInt8) : ∀ (d i : Nat), i + d = (l.length + 15) / 16 → l.length ≤ 20000 → (rows (16 * i) (l.drop (16 * i))).length ≤ 72 * d
  | 0, i, h, _ => by rw [List.drop_of_length_le (by omega), rows_nil]; simp
  | d + 1, i, h, hl => by
    rw [rows_cons _ _ (by rw [List.length_drop]; omega), List.drop_drop]
    have ih := rows_lenD l d (i + 1) (by omega) hl
    rw [show 16 * (i + 1) = 16 * i + 16 by omega] at ih
    have h7 := oct7 (16 * i) (by omega)
    simp only [List.length_append, h7, rowL_lenD, List.length_take, List.length_drop, List.length_singleton]
    omega
theorem byteA_u8 (c : UInt8) : IntKind.u8.wrap (c.toNat : Int) = (c.toNat : Int) := by
  have := c.toNat_lt
  unfold IntKind.wrap
  simp [IntKind.bits, IntKind.signed]
  try omega
set_option maxHeartbeats 4000000 in
set_option maxRecDepth 100000 in
theorem ViewsDumped_walk (a0 : ByteArray) (W : World) (hT : TzW W) (ok0 : a0.size ≤ 140737488351232) :
    Calls Tryd.prog 10 #[.string a0] W fun e W' => e = .returned (.bool true) ∧ Below W.heap.size W W' := by
  have HT := Lib.hid hT
  have HAL := Lib.hid (fun w h => alive_calls w h)
  clear hT
  by_cases hb : 20000 < a0.size
  · have d1 : decide ((20000 : Int) < (a0.size : Int)) = true := decide_eq_true (by omega)
    clear hb
    go_enter Tryd.func10, Tryd.ntmps10
    go_wp2_with fail
    with_reducible refine (HAL.out _ HT.out).mono ?_
    rintro e w1 ⟨rfl, hb1⟩
    have B1 := Lib.hid hb1
    clear hb1
    go_wp2_with fail
    with_reducible refine (HAL.out _ (HT.out.below B1.out)).mono ?_
    rintro e w9 ⟨rfl, hb9⟩
    go_wp2
    go_ret
    exact ⟨rfl, bth B1.out hb9⟩
  · have d1 : decide ((20000 : Int) < (a0.size : Int)) = false := decide_eq_false (by omega)
    have hs : a0.size ≤ 20000 := by omega
    clear hb
    have HDU := Lib.hid (fun w h => dump_calls a0 (by omega) w h)
    obtain ⟨l, hl⟩ : ∃ l, a0.data.toList = l := ⟨_, rfl⟩
    have hll : l.length = a0.size := by rw [← hl]; exact (Lib.size_eq a0).symm
    rw [hl] at HDU
    have hsp := dump_split l
    have hdl : (dumpL l).length ≤ 100000 := by
      have h1 := rows_lenD l ((l.length + 15) / 16) 0 (by omega) (by omega)
      rw [Nat.mul_zero, List.drop_zero] at h1
      have h7 := oct7 l.length (by omega)
      unfold dumpL
      rw [List.length_append, List.length_append, h7, List.length_singleton]
      omega
    obtain ⟨D, hD⟩ : ∃ D : ByteArray, (⟨(dumpL l).toArray⟩ : ByteArray) = D := ⟨_, rfl⟩
    have hDs : D.size ≤ 100000 := by rw [← hD]; show (dumpL l).toArray.size ≤ _; rw [List.size_toArray]; exact hdl
    rw [hD] at HDU hsp
    obtain ⟨m, hm⟩ : ∃ m, (l.length + 15) / 16 = m := ⟨_, rfl⟩
    have hln : (dumpLines l).length = m + 1 := by unfold dumpLines; rw [List.length_append, List.length_map, List.length_range, hm]; rfl
    have hat : ∀ k, k < m → ((dumpLines l).map bs)[k]? = some (bs (rowAt l k)) := fun k hk => by
      unfold dumpLines
      rw [List.getElem?_map, List.getElem?_append_left (by simp [hm, hk])]
      simp [hm, hk]
    have hend : ((dumpLines l).map bs)[m]? = some (bs (octP l.length 7)) := by
      unfold dumpLines
      rw [List.getElem?_map, List.getElem?_append_right (by simp [hm])]
      simp [hm]
    have hll2 : ((dumpLines l).map bs).length = m + 1 := by rw [List.length_map, hln]
    obtain ⟨LS, hLS⟩ : ∃ LS, (dumpLines l).map bs = LS := ⟨_, rfl⟩
    rw [hLS] at hsp hll2 hend
    simp only [hLS] at hat
    have HSP := Lib.hid (fun w => dsplit_calls D LS hsp (by omega) w)
    have HAT := Lib.hid (And.intro hat hend)
    have HL := Lib.hid (And.intro hl (And.intro hll (And.intro hm hll2)))
    clear hsp hdl hD hDs hln hat hend hLS
    go_enter Tryd.func10, Tryd.ntmps10
    go_wp2_with fail
    with_reducible refine (HAL.out _ HT.out).mono ?_
    rintro e w1 ⟨rfl, hb1⟩
    have B1 := Lib.hid hb1
    clear hb1
    go_wp2_with fail
    with_reducible refine (HDU.out _ (HT.out.below B1.out)).mono ?_
    rintro e w2 ⟨rfl, hb2⟩
    have B2 := Lib.hid (bth B1.out hb2)
    clear hb2
    go_wp2_with fail
    with_reducible refine (HSP.out _).mono ?_
    rintro e w3 ⟨A3, z3, rfl, hz3, hC3, hb3⟩
    have C3 := Lib.hid hC3
    rw [HL.out.2.2.2] at hz3 ⊢
    have B3 := Lib.hid (bth B2.out hb3)
    clear hb3 hC3 hl hll hm hll2
    go_wp2
    go_loopw [5, 6] (fun vb i wr => ∃ k : Nat, k ≤ m ∧ i = .int .i64 (k : Int) ∧ Hid (DS w3 vb (l.take (16 * k)) wr)) (fun _ i _ => m - (intOf i).toNat)
    case atStart => exact ⟨0, Nat.zero_le _, rfl, Lib.hid ⟨Bts.nil _ _, Below.refl _ _⟩⟩
    case round =>
      obtain ⟨k, hk, rfl, hst⟩ := hrel
      by_cases hlt : k < m
      · obtain ⟨ad, rfl, hx⟩ := C_at C3.out hst.out.low k (by rw [HL.out.2.2.2]; omega)
        have e1 := HAT.out.1 k hlt
        rw [List.getElem?_eq_getElem (by rw [HL.out.2.2.2]; omega)] at e1
        rw [Option.some.inj e1] at hx
        have hm1 := HL.out.2.2.1
        have hn1 := HL.out.2.1
        have hm2 : m ≤ 1250 := by omega
        obtain ⟨ch, hch⟩ : ∃ ch, (l.drop (16 * k)).take 16 = ch := ⟨_, rfl⟩
        obtain ⟨p, hp⟩ : ∃ p, ch.length = p := ⟨_, rfl⟩
        have hpl : p = min 16 (l.length - 16 * k) := by rw [← hp, ← hch, List.length_take, List.length_drop]
        have hp1 : 1 ≤ p := by omega
        have hp2 : p ≤ 16 := by omega
        have HFL := Lib.hid (show (fieldsAt l k).length = p + 1 ∧ (fieldsAt l k)[0]? = some (octP (16 * k) 7) ∧ ∀ q c, ch[q]? = some c → (fieldsAt l k)[q + 1]? = some (octP c.toNat 3) from ⟨by unfold fieldsAt; rw [hch, List.length_cons, List.length_map, hp], rfl, fun q c h => by unfold fieldsAt; rw [hch, List.getElem?_cons_succ, List.getElem?_map, h]; rfl⟩)
        have HCH := Lib.hid (show ch.length = p ∧ l.take (16 * k) ++ ch = l.take (16 * (k + 1)) ∧ ch.take p = ch from ⟨hp, by rw [← hch, show 16 * (k + 1) = 16 * k + 16 by omega, List.take_add], by rw [← hp, List.take_length]⟩)
        have hrl : (rowAt l k).length ≤ 8796093022000 := by
          unfold rowAt
          rw [List.length_append, rowL_lenD, hch, hp, oct7 _ (by omega)]
          omega
        have HFC := Lib.hid (fun w => dfields_calls l k hrl w)
        obtain ⟨X, hX⟩ : ∃ X, bs (rowAt l k) = X := ⟨_, rfl⟩
        rw [hX] at hx HFC
        rw [HFL.out.1] at HFC
        have HRD := Lib.hid (show ∀ V, Calls Tryd.prog 31 #[.string (bs (octP (16 * k) 7))] V fun e w' => e = .returned (.int .i64 (16 * (k : Int))) ∧ Below V.heap.size V w' from fun V => by
          have h := read_calls (16 * k) 7 (by rw [oct7 _ (by omega)]; decide) V
          rwa [show ((16 * k : Nat) : Int) = 16 * (k : Int) by omega] at h)
        clear hX hch hp hrl e1
        go_wp2_with fail
        with_reducible refine (HFC.out _).mono ?_
        rintro e w4 ⟨g4, z4, rfl, hz4, hC4, hb4⟩
        have hx0 := own_at hC4 0 (by rw [List.length_map, HFL.out.1]; omega)
        have e4 : ((fieldsAt l k).map bs)[0]? = some (bs (octP (16 * k) 7)) := by rw [List.getElem?_map, HFL.out.2.1]; rfl
        rw [List.getElem?_eq_getElem (by rw [List.length_map, HFL.out.1]; omega)] at e4
        rw [Option.some.inj e4] at hx0
        have D4 := Lib.hid (hst.out.below hb4)
        obtain ⟨w4b, hw4b⟩ : ∃ b, wr.heap.size = b := ⟨_, rfl⟩
        rw [hw4b] at hC4
        have C4 := Lib.hid hC4
        clear hb4 hC4 hst e4 hx
        by_cases hp16 : p = 16
        · have hpd : ¬ ((p : Int) + 1 < 17) := by omega
          have hpe : decide ((p : Int) + 1 < 17) = false := decide_eq_false hpd
          obtain ⟨y1, y2⟩ : p + 1 = 17 ∧ True := ⟨by omega, trivial⟩
          clear hpl hm1 hn1 y1 y2 hp16
          go_wp2_with fail
          with_reducible refine (HRD.out _).mono ?_
          rintro e w5 ⟨rfl, hb5⟩
          have D5 := Lib.hid (D4.out.below hb5)
          have C5 := Lib.hid (pw_own_below C4.out hb5)
          clear hb5 hx0
          go_wp2
          go_loopw [5, 8] (fun vb i wi => ∃ j : Nat, 1 ≤ j ∧ j ≤ p + 1 ∧ i = .int .i64 (j : Int) ∧ Hid (DS w3 vb (l.take (16 * k) ++ ch.take (j - 1)) wi ∧ wi.ownsRow w4b 9 1 (.slice (some ⟨g4, 0, none⟩) (p + 1) z4) (p + 1) (strs ((fieldsAt l k).map bs)))) (fun _ i _ => p + 1 - (intOf i).toNat)
          case atStart => exact ⟨1, Nat.le_refl _, by omega, rfl, Lib.hid ⟨by rw [Nat.sub_self, List.take_zero, List.append_nil]; exact D5.out, C5.out⟩⟩
          case round =>
            obtain ⟨j, hj1, hj, rfl, hsi⟩ := hrel
            by_cases hqp : j < p + 1
            · obtain ⟨q, hqj⟩ : ∃ q, j - 1 = q := ⟨_, rfl⟩
              have hqp' : q < p := by omega
              rw [hqj] at hsi
              obtain ⟨c, hc⟩ : ∃ c, ch[q]? = some c := ⟨ch[q]'(by rw [HCH.out.1]; exact hqp'), List.getElem?_eq_getElem _⟩
              have hxq := own_at hsi.out.2 (q + 1) (by rw [List.length_map, HFL.out.1]; omega)
              have e2 := HFL.out.2.2 q c hc
              have e3 : ((fieldsAt l k).map bs)[q + 1]? = some (bs (octP c.toNat 3)) := by rw [List.getElem?_map, e2]; rfl
              rw [List.getElem?_eq_getElem (by rw [List.length_map, HFL.out.1]; omega)] at e3
              rw [Option.some.inj e3, show q + 1 = j by omega] at hxq
              have hsz : (bs (octP c.toNat 3)).size = 3 := by rw [bs_size, oct3]
              have hrd := read_calls c.toNat 3 (by rw [oct3]; decide)
              obtain ⟨Y, hY⟩ : ∃ Y, bs (octP c.toNat 3) = Y := ⟨_, rfl⟩
              rw [hY] at hxq hsz
              simp only [hY] at hrd
              have HR2 := Lib.hid hrd
              have hu8 := byteA_u8 c
              have hsn := Lib.hid (show l.take (16 * k) ++ ch.take q ++ [c] = l.take (16 * k) ++ ch.take (q + 1) by
                rw [List.append_assoc]
                congr 1
                obtain ⟨hlq, hcq⟩ := List.getElem?_eq_some_iff.1 hc
                rw [List.take_succ_eq_append_getElem hlq, hcq])
              have hln := Lib.hid (show (l.take (16 * k) ++ ch.take q).length + 1 ≤ 140737488355328 by
                rw [List.length_append, List.length_take, List.length_take]
                have := HCH.out.1
                omega)
              have HQ := Lib.hid (show j + 1 - 1 = q + 1 by omega)
              clear hrd hY e2 e3 hc hqj
              go_wp2_with fail
              with_reducible refine (HR2.out _).mono ?_
              rintro e w6 ⟨rfl, hb6⟩
              have D6 := Lib.hid (And.intro (hsi.out.1.below hb6) (pw_own_below hsi.out.2 hb6))
              clear hb6
              go_wp2_with (at_builtin; go_loud (refine app_byte _ w3.heap.size rfl (.tmp 76) (.tmp 83) rfl u5 _ (l.take (16 * k) ++ ch.take (q + 1)) c hsn.out rfl rfl D6.out.1.bts D6.out.1.low.size hln.out ?_))
              intro v1 w7 h1 h2
              have D7 := Lib.hid (D6.out.1.app h1 h2)
              have B7 := Lib.hid (World.ownsRow.kept D6.out.2 h2 (ne_other (ne_types D6.out.1.bts D6.out.2 (by decide))))
              clear h1 h2
              go_wp2
              go_roundw
              case rel => exact ⟨j + 1, by omega, by omega, by go_num, Lib.hid ⟨by rw [HQ.out]; exact D7.out, B7.out⟩⟩
              case measure => simp [intOf]; omega
            · obtain rfl : j = p + 1 := by omega
              have hfin := Lib.hid (show DS w3 u5 (l.take (16 * (k + 1))) wr by
                have h := hsi.out.1
                rw [Nat.add_sub_cancel, HCH.out.2.2, HCH.out.2.1] at h
                exact h)
              clear hsi
              go_wp2
              go_roundw
              case rel => exact ⟨k + 1, hlt, by go_num, hfin⟩
              case measure => simp [intOf]; omega
        · have hpd : (p : Int) + 1 < 17 := by omega
          have hpe : decide ((p : Int) + 1 < 17) = true := decide_eq_true hpd
          have hkm : decide ((k : Int) + 2 < (m : Int) + 1) = false := decide_eq_false (by omega)
          have hkn : ¬ ((k : Int) + 2 < (m : Int) + 1) := by omega
          clear hpl hm1 hn1 hp16
          go_wp2_with fail
          with_reducible refine (HRD.out _).mono ?_
          rintro e w5 ⟨rfl, hb5⟩
          have D5 := Lib.hid (D4.out.below hb5)
          have C5 := Lib.hid (pw_own_below C4.out hb5)
          clear hb5 hx0
          go_wp2
          go_loopw [5, 8] (fun vb i wi => ∃ j : Nat, 1 ≤ j ∧ j ≤ p + 1 ∧ i = .int .i64 (j : Int) ∧ Hid (DS w3 vb (l.take (16 * k) ++ ch.take (j - 1)) wi ∧ wi.ownsRow w4b 9 1 (.slice (some ⟨g4, 0, none⟩) (p + 1) z4) (p + 1) (strs ((fieldsAt l k).map bs)))) (fun _ i _ => p + 1 - (intOf i).toNat)
          case atStart => exact ⟨1, Nat.le_refl _, by omega, rfl, Lib.hid ⟨by rw [Nat.sub_self, List.take_zero, List.append_nil]; exact D5.out, C5.out⟩⟩
          case round =>
            obtain ⟨j, hj1, hj, rfl, hsi⟩ := hrel
            by_cases hqp : j < p + 1
            · obtain ⟨q, hqj⟩ : ∃ q, j - 1 = q := ⟨_, rfl⟩
              have hqp' : q < p := by omega
              rw [hqj] at hsi
              obtain ⟨c, hc⟩ : ∃ c, ch[q]? = some c := ⟨ch[q]'(by rw [HCH.out.1]; exact hqp'), List.getElem?_eq_getElem _⟩
              have hxq := own_at hsi.out.2 (q + 1) (by rw [List.length_map, HFL.out.1]; omega)
              have e2 := HFL.out.2.2 q c hc
              have e3 : ((fieldsAt l k).map bs)[q + 1]? = some (bs (octP c.toNat 3)) := by rw [List.getElem?_map, e2]; rfl
              rw [List.getElem?_eq_getElem (by rw [List.length_map, HFL.out.1]; omega)] at e3
              rw [Option.some.inj e3, show q + 1 = j by omega] at hxq
              have hsz : (bs (octP c.toNat 3)).size = 3 := by rw [bs_size, oct3]
              have hrd := read_calls c.toNat 3 (by rw [oct3]; decide)
              obtain ⟨Y, hY⟩ : ∃ Y, bs (octP c.toNat 3) = Y := ⟨_, rfl⟩
              rw [hY] at hxq hsz
              simp only [hY] at hrd
              have HR2 := Lib.hid hrd
              have hu8 := byteA_u8 c
              have hsn := Lib.hid (show l.take (16 * k) ++ ch.take q ++ [c] = l.take (16 * k) ++ ch.take (q + 1) by
                rw [List.append_assoc]
                congr 1
                obtain ⟨hlq, hcq⟩ := List.getElem?_eq_some_iff.1 hc
                rw [List.take_succ_eq_append_getElem hlq, hcq])
              have hln := Lib.hid (show (l.take (16 * k) ++ ch.take q).length + 1 ≤ 140737488355328 by
                rw [List.length_append, List.length_take, List.length_take]
                have := HCH.out.1
                omega)
              have HQ := Lib.hid (show j + 1 - 1 = q + 1 by omega)
              clear hrd hY e2 e3 hc hqj
              go_wp2_with fail
              with_reducible refine (HR2.out _).mono ?_
              rintro e w6 ⟨rfl, hb6⟩
              have D6 := Lib.hid (And.intro (hsi.out.1.below hb6) (pw_own_below hsi.out.2 hb6))
              clear hb6
              go_wp2_with (at_builtin; go_loud (refine app_byte _ w3.heap.size rfl (.tmp 76) (.tmp 83) rfl u5 _ (l.take (16 * k) ++ ch.take (q + 1)) c hsn.out rfl rfl D6.out.1.bts D6.out.1.low.size hln.out ?_))
              intro v1 w7 h1 h2
              have D7 := Lib.hid (D6.out.1.app h1 h2)
              have B7 := Lib.hid (World.ownsRow.kept D6.out.2 h2 (ne_other (ne_types D6.out.1.bts D6.out.2 (by decide))))
              clear h1 h2
              go_wp2
              go_roundw
              case rel => exact ⟨j + 1, by omega, by omega, by go_num, Lib.hid ⟨by rw [HQ.out]; exact D7.out, B7.out⟩⟩
              case measure => simp [intOf]; omega
            · obtain rfl : j = p + 1 := by omega
              have hfin := Lib.hid (show DS w3 u5 (l.take (16 * (k + 1))) wr by
                have h := hsi.out.1
                rw [Nat.add_sub_cancel, HCH.out.2.2, HCH.out.2.1] at h
                exact h)
              clear hsi
              go_wp2
              go_roundw
              case rel => exact ⟨k + 1, hlt, by go_num, hfin⟩
              case measure => simp [intOf]; omega
      · obtain rfl : k = m := by omega
        obtain ⟨ad, rfl, hx⟩ := C_at C3.out hst.out.low k (by rw [HL.out.2.2.2]; omega)
        have e1 := HAT.out.2
        rw [List.getElem?_eq_getElem (by rw [HL.out.2.2.2]; omega)] at e1
        rw [Option.some.inj e1] at hx
        have hm1 := HL.out.2.2.1
        have hn1 := HL.out.2.1
        have hk2 : k ≤ 1250 := by omega
        have hsz : (bs (octP l.length 7)).size = 7 := by rw [bs_size, oct7 _ (by omega)]
        have hrd := read_calls l.length 7 (by rw [oct7 _ (by omega)]; decide)
        rw [hn1] at hrd hsz hx
        obtain ⟨Y, hY⟩ : ∃ Y, bs (octP a0.size 7) = Y := ⟨_, rfl⟩
        rw [hY] at hx hsz
        simp only [hY] at hrd
        have HRD := Lib.hid hrd
        have hea : (⟨(l.take (16 * k)).toArray⟩ : ByteArray) = a0 := by
          rw [List.take_of_length_le (by omega), ← HL.out.1]
        have HCV := Lib.hid (show ∀ V, Below wr.heap.size wr V → (convert 53 9 u5).run Tryd.prog V = .ok (.string a0) V from fun V hV => by
          have h := bts_text (hst.out.bts.below hV)
          rw [hea] at h
          exact h)
        have B4 := Lib.hid (bth B3.out hst.out.low)
        have hi1 : ((k : Int) + 1 - 1) = (k : Int) := by omega
        clear hst hY hrd e1 hm1 hn1 hea
        go_wp2_with fail
        with_reducible refine (HRD.out _).mono ?_
        rintro e w5 ⟨rfl, hb5⟩
        have hcv := HCV.out _ hb5
        have B5 := Lib.hid (bth B4.out hb5)
        clear hb5
        go_wp2
        go_ret
        exact ⟨rfl, B5.out⟩
end Go.Proofs.YthkaekeelokajaaDoor.P

end

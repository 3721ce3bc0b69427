/- Written by merge.py out of VTurns, PureViewsTurns. -/
import Derived.Test.YthkaekeelokajaaDoorVPaste
import Derived.Test.YthkaekeelokajaaDoorVAlive
import Derived.Test.YthkaekeelokajaaDoorSizes1
import Derived.Laws.IdiomStrings
import Derived.Deep.QuietTactic
import Derived.BigQuiet
import Derived.IntWalk
section
/- Lists of one line each, side by side: the plain part, and a list of lists of the call's own. -/
set_option linter.unusedVariables false
set_option linter.unusedSimpArgs false
namespace Go.Proofs.YthkaekeelokajaaDoor.P
open Go.RowKit Go.Proofs Go.Proofs.YthkaekeelokajaaDoor.H Go.Proofs.YthkaekeelokajaaDoor.C Go.Proofs.YthkaekeelokajaaDoorW.PrintWords

theorem side_snoc (seps : List UInt8) (x : ByteArray) : ∀ (l : List ByteArray) (k : Nat), sideF seps k (l ++ [x]) = sideF seps k l ++ (sepB seps (k + l.length) ++ x.data.toList)
  | [], k => by simp [sideF]
  | y :: l, k => by
    rw [List.cons_append]
    simp only [sideF]
    rw [side_snoc seps x l (k + 1), show k + 1 + l.length = k + (y :: l).length by simp; omega]
    simp
theorem side_take (seps : List UInt8) (l : List ByteArray) (i : Nat) (h : i < l.length) : sideL seps (l.take (i + 1)) = sideL seps (l.take i) ++ (sepB seps i ++ l[i].data.toList) := by
  unfold sideL
  rw [List.take_succ_eq_append_getElem h, side_snoc, List.length_take, Nat.min_eq_left (by omega), Nat.zero_add]
theorem sepB_len (seps : List UInt8) (i : Nat) : (sepB seps i).length ≤ 1 := by unfold sepB; split <;> simp
def sumS : List ByteArray → Nat
  | [] => 0
  | x :: l => x.size + 1 + sumS l
theorem sumS_take (l : List ByteArray) : ∀ i, sumS (l.take i) ≤ sumS l := by
  induction l with
  | nil => intro i; simp [sumS]
  | cons x l ih =>
    intro i
    cases i with
    | zero => simp [sumS]
    | succ i => rw [List.take_succ_cons]; simp only [sumS]; have := ih i; omega
theorem side_len (seps : List UInt8) : ∀ (l : List ByteArray) (k : Nat), (sideF seps k l).length ≤ sumS l
  | [], k => Nat.le_refl _
  | x :: l, k => by
    have h1 := side_len seps l (k + 1)
    have h2 := sepB_len seps k
    simp only [sideF, sumS, List.length_append]
    rw [← Lib.size_eq]
    omega
theorem most_ones (l : List ByteArray) : mostL (l.map fun x => [x]) ≤ 1 := (most_le _ 1).2 (fun x hx => by
  obtain ⟨y, _, rfl⟩ := List.mem_map.1 hx
  exact Nat.le_refl _)
theorem most_ones_pos (l : List ByteArray) (h : 0 < l.length) : mostL (l.map fun x => [x]) = 1 := by
  have h1 := most_ones l
  have h2 := (most_le (l.map fun x => [x]) (mostL (l.map fun x => [x]))).1 (Nat.le_refl _) [l[0]] (List.mem_map.2 ⟨l[0], List.getElem_mem h, rfl⟩)
  simp at h2
  omega
theorem col_ones (l : List ByteArray) : colL (l.map fun x => [x]) 0 = l := by
  unfold colL
  rw [List.map_map]
  conv => rhs; rw [← List.map_id l]
  rfl
theorem col_len (l : List ByteArray) (n : Nat) : sumS (colL (l.map fun x => [x]) n) ≤ sumS l := by
  induction l with
  | nil => exact Nat.le_refl _
  | cons x l ih =>
    show ([x].getD n ⟨#[]⟩).size + 1 + sumS (colL (l.map fun x => [x]) n) ≤ x.size + 1 + sumS l
    have : ([x].getD n ⟨#[]⟩).size ≤ x.size := by
      cases n with
      | zero => exact Nat.le_refl _
      | succ n => exact Nat.zero_le _
    omega
theorem paste_ones (seps : List UInt8) (l : List ByteArray) (h : 0 < l.length) : pasteL seps (l.map fun x => [x]) = [⟨(sideL seps l).toArray⟩] := by
  unfold pasteL
  rw [most_ones_pos l h]
  show [pasteB seps (l.map fun x => [x]) 0] = _
  unfold pasteB
  rw [col_ones]
theorem infoR : (Tryd.prog.info? 25).map (fun i => (i.zero, i.size, i.bytes)) = some (some (.slice none 0 0), 1, 24) := by kernel_rfl
/-- A list of lists of the call's own. -/
def Rws (base : Nat) (v : Value) (L : List Value) (W : World) : Prop := W.ownsRow base 25 1 v L.length L
theorem Rws.nil (base : Nat) (W : World) : Rws base (.slice none 0 0) [] W := World.ownsRow_nil _ _ _ _
theorem Rws.below {base : Nat} {v : Value} {L : List Value} {W W' : World} (h : Rws base v L W) (hb : Below W.heap.size W W') : Rws base v L W' := pw_own_below h hb
section
variable {ops : Array Oper} {rest : List Oper} {o : Oper} {a : Act} {Q : Exit → Act → World → Prop}
/-- append(l, x), x a list. -/
theorem app_row (w : World) (base : Nat) (hgd : o.guard = none) (s x : Operand) (ho : o.op = .call { callee := .builtin .append, args := #[s, x], argTypes := #[22, 22] })
    (v : Value) (L L2 : List Value) (A : Option Addr) (n c : Nat) (hL2 : L ++ [.slice A n c] = L2) (hs : a.eval s = v) (hx : a.eval x = .slice (some ⟨w.heap.size, 0, none⟩) 1 1) (HO : Rws base v L w) (hbase : base ≤ w.heap.size) (hl : L.length + 1 ≤ 1000000000000)
    (h : ∀ v1 w1, Rws base v1 L2 w1 → w.grownBy w1 v.ownBlock → wpList Tryd.prog ops Q rest (a.put o.dst v1) w1) :
    wpList Tryd.prog ops Q (o :: rest) a (w.alloc (.cells #[.slice A n c] 25)) := by
  subst hL2
  obtain ⟨i0, hi, hz0, hz1, hz2⟩ := info_parts infoR
  refine wpList_append_own _ hgd s x 22 ho base 25 i0 (.slice none 0 0) 1 24 Tryd.underlying22 hi hz0 hz1 hz2 rfl (by decide) v L.length L hs (World.ownsRow.alloc HO _) ⟨w.heap.size, 0, none⟩ 1 1 [.slice A n c] hx rfl ?c1 ?c2 ?c3 ?c4 ?c5 ?_
  case c1 =>
    intro j u hj
    match j, hj with
    | 0, hj => simp at hj; subst hj; simp [Addr.add]
  case c2 => intro u hu; simp at hu; subst hu; rfl
  case c3 => unfold maxLen; omega
  case c4 => omega
  case c5 => simp; omega
  intro v1 w1 hown hg _
  refine h v1 w1 ?_ ⟨hg.os, hg.tape, hg.output, by have := hg.size; simp at this; omega, fun k hk hr => (hg.block k (by simp; omega) hr).trans (Lib.alloc_old w _ k hk)⟩
  unfold Rws
  rw [List.length_append, List.length_singleton]
  exact hown
end
/-- The list so far, and all else as it was. -/
structure RSt (w : World) (v : Value) (L : List Value) (W : World) : Prop where
  rws : Rws w.heap.size v L W
  low : Below w.heap.size w W
theorem RSt.below {w : World} {v : Value} {L : List Value} {W W' : World} (h : RSt w v L W) (hb : Below W.heap.size W W') : RSt w v L W' := ⟨h.rws.below hb, bth h.low hb⟩
theorem RSt.app {w : World} {v v1 : Value} {L L1 : List Value} {W w1 : World} (h : RSt w v L W) (hb : Rws w.heap.size v1 L1 w1) (hg : W.grownBy w1 v.ownBlock) : RSt w v1 L1 w1 := ⟨hb, h.low.grown hg h.low.size (fun k hk => own_base h.rws k hk)⟩
/-- Pieces of a list, one line each. -/
def onesV (ad : Addr) (c n : Nat) : List Value := (List.range n).map fun i => .slice (some (ad.add i)) 1 (c - i)
theorem onesV_len (ad : Addr) (c n : Nat) : (onesV ad c n).length = n := by simp [onesV]
theorem onesV_succ (ad : Addr) (c n : Nat) : onesV ad c (n + 1) = onesV ad c n ++ [.slice (some (ad.add n)) 1 (c - n)] := by unfold onesV; rw [List.range_succ, List.map_append]; rfl
theorem add_zero_addr (x : Addr) : x.add 0 = x := by unfold Addr.add; rw [if_pos rfl]
theorem C_one {w W : World} {ad : Addr} {l : List ByteArray} (h : Kd.C Kd.string w (some ad) l.length l) (hb : Below w.heap.size w W) (i : Nat) (hi : i < l.length) : Kd.C Kd.string W (some (ad.add i)) 1 [l[i]] := by
  refine ⟨rfl, by decide, fun _ => ⟨_, rfl, fun j p hj => ⟨[.string p], rfl, rfl, fun t u ht => ?_⟩⟩⟩
  have hj0 : j = 0 := by
    have := (List.getElem?_eq_some_iff.1 hj).1
    simpa using this
  have ht0 : t = 0 := by
    have := (List.getElem?_eq_some_iff.1 ht).1
    simpa using this
  subst hj0 ht0
  obtain ⟨ad', e, hc⟩ := C_at h hb i hi
  obtain rfl := Option.some.inj e
  simp at hj ht
  subst hj ht
  rw [Nat.zero_mul, Nat.zero_add, add_zero_addr]
  exact hc
/-- Such a list is read as lists of one line each. -/
theorem rows_ones {w W : World} {base : Nat} {v : Value} {ad : Addr} {c : Nat} {l : List ByteArray} (h : Kd.C Kd.string w (some ad) l.length l) (hc : l.length ≤ c) (hb : Below w.heap.size w W) (ho : Rws base v (onesV ad c l.length) W) (hp : 0 < l.length) :
    ∃ A z, v = .slice A l.length z ∧ l.length ≤ z ∧ RowsAt W A (l.map fun x => [x]) := by
  rcases ho.2 with ⟨_, h0⟩ | ⟨g, cap, cur, he, h1, h2, h3, h4, h5⟩
  · rw [onesV_len] at h0; omega
  · rw [onesV_len] at he h3
    refine ⟨_, cap, he, h3, fun i hi => ?_⟩
    rw [List.length_map] at hi
    refine ⟨_, some (ad.add i), c - i, rfl, ?_, ?_, ?_⟩
    · rw [add_plain]
      have := ho.cells (g := g) (by rw [he]; rfl) i (.slice (some (ad.add i)) 1 (c - i)) (by simp [onesV, hi])
      simpa [add_plain] using this
    · simp; omega
    · simpa using C_one h hb i hi
end Go.Proofs.YthkaekeelokajaaDoor.P

end
section
/- ViewsTurns: bytes between lists are gone through in turns: the walk of the law. -/
set_option linter.unusedVariables false
set_option linter.unusedSimpArgs false
namespace Go.Proofs.YthkaekeelokajaaDoor.P
open Go.RowKit Go.Proofs Go.Proofs.YthkaekeelokajaaDoor.Q Go.Proofs.YthkaekeelokajaaDoor.H Go.Proofs.YthkaekeelokajaaDoor.C Go.Proofs.YthkaekeelokajaaDoor.S Go.Proofs.YthkaekeelokajaaDoorW.PrintWords Go.Proofs.YthkaekeelokajaaDoorW.PrintLast

theorem sumS_texts : ∀ l : List ByteArray, sumS l = textsN l
  | [] => rfl
  | x :: l => by
    have e : textsN (x :: l) = textsN l + (x.size + 1) := by simp [textsN]; omega
    rw [e, ← sumS_texts l]
    simp only [sumS]; omega
theorem sumS_mem : ∀ (l : List ByteArray) (x : ByteArray), x ∈ l → x.size ≤ sumS l
  | y :: l, x, h => by
    simp only [sumS]
    rcases List.mem_cons.1 h with rfl | h
    · omega
    · have := sumS_mem l x h; omega
theorem bs_of' (s : ByteArray) : (⟨s.data.toList.toArray⟩ : ByteArray) = s := by cases s; rfl
theorem str_addT (T : TypeId) (a b : ByteArray) (h : a.size + b.size ≤ 9223372036854775807) : binOp .add T (.string a) (.string b) = pure (.string (a ++ b)) := by
  simp only [binOp, Op.stringOp]
  rw [if_neg]
  rw [show IntKind.i64.max = 9223372036854775807 from rfl]
  omega
theorem bt_cat (a b : List UInt8) : (⟨a.toArray⟩ : ByteArray) ++ ⟨b.toArray⟩ = ⟨(a ++ b).toArray⟩ := by
  apply ByteArray.ext
  simp [ByteArray.data_append]
theorem one_byte (s : ByteArray) (r : Nat) (h : r < s.size) : s.extract r (r + 1) = ⟨#[s[r]]⟩ := by
  apply ByteArray.ext
  have h' : r < s.data.size := h
  rw [ByteArray.data_extract]
  apply Array.ext
  · simp; omega
  · intro i h1 h2
    have : i = 0 := by simp at h2; omega
    subst this
    simp
    rfl
set_option maxHeartbeats 4000000 in
set_option maxRecDepth 100000 in
theorem ViewsTurns_walk (A0 : Option Addr) (z0 : Nat) (l0 : List ByteArray) (a1 : ByteArray) (W : World) (hT : TzW W) (hr0 : Kd.C Kd.string W A0 l0.length l0) (hc0 : l0.length ≤ z0) (ok0 : (∀ a ∈ l0, a.size ≤ 140737488351232) ∧ l0.length * 16 ≤ 140737488351232) (ok1 : a1.size ≤ 140737488351232) :
    Calls Tryd.prog 6 #[.slice A0 l0.length z0, .string a1] W fun e W' => e = .returned (.bool true) ∧ Below W.heap.size W W' := by
  obtain ⟨n0, hn0, m0, x0, e0⟩ := textsSize_tells l0 ok0.1 (by omega)
  have R0 := Lib.hid hr0
  have T0 := Lib.hid hn0
  have HT := Lib.hid hT
  have HAL := Lib.hid (fun w h => alive_calls w h)
  have E0 := Lib.hid (And.intro e0 (And.intro ok0.1 ok0.2))
  clear hr0 hn0 hT e0 ok0
  by_cases hb : 300 < l0.length
  · have d1 : decide ((300 : Int) < (l0.length : Int)) = true := decide_eq_true (by omega)
    clear hb
    go_enter Tryd.func6, Tryd.ntmps6
    go_wp2_with fail
    with_reducible refine (HAL.out _ HT.out).mono ?_
    rintro e w1 ⟨rfl, hb1⟩
    have B1 := Lib.hid hb1
    clear hb1
    go_wp2_with fail
    with_reducible refine (HAL.out _ (HT.out.below B1.out)).mono ?_
    rintro e w9 ⟨rfl, hb9⟩
    go_wp2
    go_ret
    exact ⟨rfl, bth B1.out hb9⟩
  · have d1 : decide ((300 : Int) < (l0.length : Int)) = false := decide_eq_false (by omega)
    by_cases hb0 : 20000 < n0
    · have d2 : decide ((20000 : Int) < n0) = true := decide_eq_true (by omega)
      go_enter Tryd.func6, Tryd.ntmps6
      go_wp2_with fail
      with_reducible refine (HAL.out _ HT.out).mono ?_
      rintro e w1 ⟨rfl, hb1⟩
      have B1 := Lib.hid hb1
      clear hb1
      go_wp2_with fail
      with_reducible refine (toolchestlaw01_TextsSize.calls (l0.length + 1) A0 z0 l0 n0 _ (Kd.C_below R0.out B1.out) hc0 T0.out).mono ?_
      first | (rintro e w2 rfl hb2) | (rintro e w2 ⟨rfl, hb2⟩)
      have B2 := Lib.hid (bth B1.out hb2.below)
      clear hb2
      go_wp2_with fail
      with_reducible refine (HAL.out _ (HT.out.below B2.out)).mono ?_
      rintro e w9 ⟨rfl, hb9⟩
      go_wp2
      go_ret
      exact ⟨rfl, bth B2.out hb9⟩
    · have d2 : decide ((20000 : Int) < n0) = false := decide_eq_false (by omega)
      by_cases hz1 : a1.size = 0
      · have d3 : ((a1.size : Int) == 0) = true := by rw [hz1]; rfl
        have D3 := Lib.hid d3
        clear hz1 d3
        go_enter Tryd.func6, Tryd.ntmps6
        go_wp2_with fail
        with_reducible refine (HAL.out _ HT.out).mono ?_
        rintro e w1 ⟨rfl, hb1⟩
        have B1 := Lib.hid hb1
        clear hb1
        go_wp2_with fail
        with_reducible refine (toolchestlaw01_TextsSize.calls (l0.length + 1) A0 z0 l0 n0 _ (Kd.C_below R0.out B1.out) hc0 T0.out).mono ?_
        first | (rintro e w2 rfl hb2) | (rintro e w2 ⟨rfl, hb2⟩)
        have B2 := Lib.hid (bth B1.out hb2.below)
        clear hb2
        have d3 := D3.out
        go_wp2_with fail
        with_reducible refine (HAL.out _ (HT.out.below B2.out)).mono ?_
        rintro e w9 ⟨rfl, hb9⟩
        go_wp2
        go_ret
        exact ⟨rfl, bth B2.out hb9⟩
      · have d3 : ((a1.size : Int) == 0) = false := beq_eq_false_iff_ne.2 (by omega)
        have D3 := Lib.hid d3
        clear d3
        by_cases hz0 : l0.length = 0
        · have d4 : ((l0.length : Int) == 0) = true := by rw [hz0]; rfl
          have D4 := Lib.hid d4
          clear hz0 d4
          go_enter Tryd.func6, Tryd.ntmps6
          go_wp2_with fail
          with_reducible refine (HAL.out _ HT.out).mono ?_
          rintro e w1 ⟨rfl, hb1⟩
          have B1 := Lib.hid hb1
          clear hb1
          go_wp2_with fail
          with_reducible refine (toolchestlaw01_TextsSize.calls (l0.length + 1) A0 z0 l0 n0 _ (Kd.C_below R0.out B1.out) hc0 T0.out).mono ?_
          first | (rintro e w2 rfl hb2) | (rintro e w2 ⟨rfl, hb2⟩)
          have B2 := Lib.hid (bth B1.out hb2.below)
          clear hb2
          have d3 := D3.out
          have d4 := D4.out
          go_wp2_with fail
          with_reducible refine (HAL.out _ (HT.out.below B2.out)).mono ?_
          rintro e w9 ⟨rfl, hb9⟩
          go_wp2
          go_ret
          exact ⟨rfl, bth B2.out hb9⟩
        · have d4 : ((l0.length : Int) == 0) = false := beq_eq_false_iff_ne.2 (by omega)
          have D4 := Lib.hid d4
          clear d4
          have hlp : 0 < l0.length := by omega
          have hll : l0.length ≤ 300 := by omega
          have hsp : 0 < a1.size := by omega
          have hsm : sumS l0 ≤ 20000 := by rw [sumS_texts]; have := E0.out.1 (by omega); omega
          obtain ⟨ad, hA, -⟩ := R0.out.2.2 hlp
          subst hA
          have hss : a1.data.toList.length = a1.size := (Lib.size_eq a1).symm
          have HSS := Lib.hid hss
          have HSM := Lib.hid hsm
          clear hss hsm hz0 hz1 hb hb0
          go_enter Tryd.func6, Tryd.ntmps6
          go_wp2_with fail
          with_reducible refine (HAL.out _ HT.out).mono ?_
          rintro e w1 ⟨rfl, hb1⟩
          have B1 := Lib.hid hb1
          clear hb1
          go_wp2_with fail
          with_reducible refine (toolchestlaw01_TextsSize.calls (l0.length + 1) (some ad) z0 l0 n0 _ (Kd.C_below R0.out B1.out) hc0 T0.out).mono ?_
          first | (rintro e w2 rfl hb2) | (rintro e w2 ⟨rfl, hb2⟩)
          have B2 := Lib.hid (bth B1.out hb2.below)
          clear hb2
          have d3 := D3.out
          have d4 := D4.out
          go_wp2
          clear d1 d2 d3 d4
          go_loopw [5, 6, 7] (fun v s i wr => ∃ k : Nat, k ≤ l0.length ∧ i = .int .i64 (k : Int) ∧ s = .string ⟨(sideL a1.data.toList (l0.take k)).toArray⟩ ∧ Hid (RSt w2 v (onesV ad z0 k) wr)) (fun _ _ i _ => l0.length - (intOf i).toNat)
          case atStart => exact ⟨0, Nat.zero_le _, rfl, rfl, Lib.hid ⟨Rws.nil _ _, Below.refl _ _⟩⟩
          case round =>
            obtain ⟨k, hk, rfl, rfl, hst⟩ := hrel
            by_cases hlt : k < l0.length
            · have hsn : onesV ad z0 k ++ [.slice (some (ad.add k)) 1 (z0 - k)] = onesV ad z0 (k + 1) := (onesV_succ ad z0 k).symm
              have HSN := Lib.hid hsn
              clear hsn
              have hz1 : k + 1 ≤ z0 := by omega
              have hz2 : k ≤ z0 := by omega
              have hw1 : IntKind.i64.wrap ((k : Int) + 1) = (k : Int) + 1 := IntWalk.i64_in _ (by omega)
              go_wp2_with (at_builtin; go_loud (refine app_row wr w2.heap.size rfl (.tmp 38) (.tmp 44) rfl u5 _ (onesV ad z0 (k + 1)) (some (ad.add k)) 1 (z0 - k) HSN.out rfl rfl hst.out.rws hst.out.low.size (by rw [onesV_len]; omega) ?_))
              intro v1 w3 hv1 hg1
              have T1 := Lib.hid (hst.out.app hv1 hg1)
              clear hv1 hg1
              obtain ⟨ad', hae, hx⟩ := C_at R0.out (bth B2.out T1.out.low) k hlt
              obtain rfl := Option.some.inj hae
              have hxs : l0[k].size ≤ 20000 := Nat.le_trans (sumS_mem l0 l0[k] (List.getElem_mem hlt)) HSM.out
              have hst1 := side_take a1.data.toList l0 k hlt
              have hsl : (sideL a1.data.toList (l0.take k)).length ≤ 20000 := Nat.le_trans (side_len _ _ _) (Nat.le_trans (sumS_take l0 k) HSM.out)
              obtain ⟨X, hX⟩ : ∃ X, l0[k] = X := ⟨_, rfl⟩
              obtain ⟨S, hS⟩ : ∃ S, sideL a1.data.toList (l0.take k) = S := ⟨_, rfl⟩
              rw [hX] at hx hxs hst1
              rw [hS] at hst1 hsl ⊢
              obtain ⟨S0, hS0⟩ : ∃ S0 : ByteArray, (⟨S.toArray⟩ : ByteArray) = S0 := ⟨_, rfl⟩
              rw [hS0]
              have hS0s : S0.size ≤ 20000 := by rw [← hS0]; show S.toArray.size ≤ _; rw [List.size_toArray]; exact hsl
              by_cases hk0 : 0 < k
              · obtain ⟨r, hr⟩ : ∃ r, (k - 1) % a1.size = r := ⟨_, rfl⟩
                have hrl : r < a1.size := by rw [← hr]; exact Nat.mod_lt _ hsp
                have hrl' : r < a1.data.toList.length := by rw [HSS.out]; exact hrl
                have hmod2 : ((k : Int) - 1).tmod (a1.size : Int) = (r : Int) := by
                  rw [Int.tmod_eq_emod_of_nonneg (by omega), ← hr, show (k : Int) - 1 = ((k - 1 : Nat) : Int) by omega]; rfl
                obtain ⟨ch, hch⟩ : ∃ ch, a1[r] = ch := ⟨_, rfl⟩
                have hsep : sepB a1.data.toList k = [ch] := by
                  unfold sepB
                  rw [if_pos ⟨hk0, by intro e; rw [e] at hrl'; simp at hrl'⟩, HSS.out, hr, List.getD_eq_getElem?_getD, List.getElem?_eq_getElem hrl']
                  show [a1[r]] = [ch]
                  rw [hch]
                have hext := one_byte a1 r hrl
                rw [hch] at hext
                have hse0 : ¬ (a1.size : Int) = 0 := by omega
                have hseb : ((a1.size : Int) == 0) = false := by rw [beq_eq_false_iff_ne]; exact hse0
                have hwk : IntKind.i64.wrap ((k : Int) - 1) = (k : Int) - 1 := IntWalk.i64_in _ (by omega)
                have hwr : IntKind.i64.wrap (r : Int) = (r : Int) := IntWalk.i64_in _ (by omega)
                have hwr1 : IntKind.i64.wrap ((r : Int) + 1) = (r : Int) + 1 := IntWalk.i64_in _ (by omega)
                have hr1 : r + 1 ≤ a1.size := hrl
                obtain ⟨Y, hY⟩ : ∃ Y : ByteArray, S0 ++ ⟨#[ch]⟩ = Y := ⟨_, rfl⟩
                obtain ⟨Z, hZ⟩ : ∃ Z : ByteArray, Y ++ X = Z := ⟨_, rfl⟩
                have hYs : Y.size = S0.size + 1 := by rw [← hY, ByteArray.size_append]; rfl
                have t1 : ∀ T, binOp .add T (.string S0) (.string ⟨#[ch]⟩) = pure (.string Y) := fun T => by rw [str_addT T S0 ⟨#[ch]⟩ (by show S0.size + 1 ≤ _; omega), hY]
                have t2 : ∀ T, binOp .add T (.string Y) (.string X) = pure (.string Z) := fun T => by rw [str_addT T Y X (by omega), hZ]
                have HZ := Lib.hid (show Z = ⟨(sideL a1.data.toList (l0.take (k + 1))).toArray⟩ by
                  rw [hst1, hsep, ← hZ, ← hY, ← hS0, ← bs_of' X, bt_cat, bt_cat, List.append_assoc])
                clear hZ hY hS0 hst1 hsep hS hX hr hch
                go_wp2
                go_quiet (fail)
                go_wp2
                go_roundw
                case rel => exact ⟨k + 1, hlt, by go_num, by rw [HZ.out], Lib.hid (by first | exact T1.out | exact T1.out.below (bdn (Below.refl _ _) _))⟩
                case measure => simp [intOf]; omega
              · obtain rfl : k = 0 := by omega
                have hsep : sepB a1.data.toList 0 = [] := rfl
                obtain ⟨Z, hZ⟩ : ∃ Z : ByteArray, S0 ++ X = Z := ⟨_, rfl⟩
                have t2 : ∀ T, binOp .add T (.string S0) (.string X) = pure (.string Z) := fun T => by rw [str_addT T S0 X (by omega), hZ]
                have HZ := Lib.hid (show Z = ⟨(sideL a1.data.toList (l0.take (0 + 1))).toArray⟩ by
                  rw [hst1, hsep, ← hZ, ← hS0, ← bs_of' X, bt_cat, List.nil_append])
                clear hZ hS0 hst1 hsep hS hX
                have hx0 := hx
                rw [add_zero_addr] at hx0
                go_wp2
                go_roundw
                case rel => exact ⟨1, hlt, by go_num, by rw [HZ.out], T1⟩
                case measure => simp [intOf]; omega
            · obtain rfl : k = l0.length := by omega
              rw [List.take_length]
              obtain ⟨Ar, zr, rfl, hzr, hrows⟩ := rows_ones R0.out hc0 (bth B2.out hst.out.low) hst.out.rws hlp
              have hpc := paste_calls Ar zr (l0.map fun x => [x]) a1 wr hrows (by rw [List.length_map]; exact hzr) (by rw [List.length_map]; omega) (by have := most_ones l0; omega) ok1 (fun n => by
                refine Nat.le_trans (side_len _ _ _) (Nat.le_trans (col_len l0 n) ?_)
                have := HSM.out; omega)
              rw [List.length_map, paste_ones _ l0 hlp] at hpc
              obtain ⟨S0, hS0⟩ : ∃ S0 : ByteArray, (⟨(sideL a1.data.toList l0).toArray⟩ : ByteArray) = S0 := ⟨_, rfl⟩
              rw [hS0] at hpc ⊢
              have HPC := Lib.hid hpc
              have B3 := Lib.hid (bth B2.out hst.out.low)
              clear hpc hrows hst hS0
              go_wp2_with fail
              with_reducible refine HPC.out.mono ?_
              rintro e w4 ⟨v, rfl, ht⟩
              obtain ⟨A4, c4, rfl, hc4, hC4⟩ := ts_reads ht
              obtain ⟨ad4, rfl, hx4⟩ := C_at hC4 (Below.refl _ _) 0 (Nat.zero_lt_one)
              have hx4' : w4.cell? ad4 = some (.string S0) := by rw [add_zero_addr] at hx4; exact hx4
              have B4 := Lib.hid (bth B3.out ht.low)
              clear hC4 ht
              go_wp2
              go_ret
              exact ⟨rfl, B4.out⟩
end Go.Proofs.YthkaekeelokajaaDoor.P

end

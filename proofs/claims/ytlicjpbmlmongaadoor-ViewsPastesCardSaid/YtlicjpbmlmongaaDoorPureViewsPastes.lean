/- ViewsPastes: the walk of the law: for any lists of lines and any bytes between it returns true. -/
import Derived.Test.YtlicjpbmlmongaaDoorVRefPaste
import Derived.Test.YtlicjpbmlmongaaDoorSameSelf1
import Derived.Test.YtlicjpbmlmongaaDoorRw1
import Derived.Test.YtlicjpbmlmongaaDoorRk8
import Derived.Test.YtlicjpbmlmongaaDoorPowW
set_option linter.unusedVariables false
set_option linter.unusedSimpArgs false
namespace Go.Proofs.YtlicjpbmlmongaaDoor.P
open Go.RowKit Go.Proofs Go.Proofs.YtlicjpbmlmongaaDoor.Q Go.Proofs.YtlicjpbmlmongaaDoor.H Go.Proofs.YtlicjpbmlmongaaDoor.C Go.Proofs.YtlicjpbmlmongaaDoorW.PrintWords Go.Proofs.YtlicjpbmlmongaaDoorW.PrintLast

theorem own_R' {W : World} {base : Nat} {ok : Nat → Prop} {v : Value} {l : List ByteArray} (h : Kd.R Kd.string 9 W base ok v l) : ∃ A c, v = .slice A l.length c ∧ l.length ≤ c ∧ Kd.C Kd.string W A l.length l := Kd.R_reads h
theorem below_al {w w' : World} {o : Obj} (h : Below w.heap.size (w.alloc o) w') : Below w.heap.size w w' := ((Below.refl _ w).alloc (Nat.le_refl _) o).trans h
theorem own_twin {W : World} {base g cap : Nat} {l : List ByteArray} {x : ByteArray} (h : W.ownsRow base 9 1 (.slice (some ⟨g, 0, none⟩) (l.length + 1) cap) (l.length + 1) (strs (l ++ [x]))) :
    W.ownsRow base 9 1 (.slice (some ⟨g, 0, none⟩) l.length cap) l.length (strs l) := by
  have := own_take h (Nat.le_succ l.length)
  rw [Nat.mul_one] at this
  have e : (strs (l ++ [x])).take l.length = strs l := by
    unfold strs
    rw [List.map_append, List.take_left' (by simp)]
  rw [e] at this
  exact this
theorem size_in_sum (l : List ByteArray) : ∀ x ∈ l, x.size ≤ (l.map (·.size)).sum := by
  induction l with
  | nil => intro x hx; cases hx
  | cons a l ih =>
    intro x hx
    rw [List.map_cons, List.sum_cons]
    rcases List.mem_cons.1 hx with rfl | h
    · omega
    · have := ih x h; omega
theorem size_texts (l : List ByteArray) : ∀ x ∈ l, x.size ≤ textsN l := by
  intro x hx
  unfold textsN
  have : x.size ≤ (l.map (·.size)).sum := size_in_sum l x hx
  omega
theorem bookR_new (w : World) : BookR w.heap.size (.slice none 0 0) (.slice none 0 0) 0 [] [] (w.alloc (.cells #[.int .i64 0, .slice none 0 0, .slice none 0 0, .slice none 0 0, .slice none 0 0, .slice none 0 0, .slice none 0 0, .slice none 0 0, .slice none 0 0, .slice none 0 0, .slice none 0 0, .slice none 0 0, .slice none 0 0] 42)) :=
  ⟨World.alloc_heap_new w _, World.ownsRow_nil _ _ _ _, World.ownsRow_nil _ _ _ _⟩
theorem twin_weaken {base base' G n : Nat} {L : List (List ByteArray)} {vs : List (Nat × Nat)} {W : World} (h : TwinAt base G n L vs W) (hb : base' ≤ base) : TwinAt base' G n L vs W :=
  ⟨h.len, own_weaken h.row hb, fun i hi => own_weaken (h.txs i hi) hb, h.ne⟩
theorem twin_reads {base G n : Nat} {L : List (List ByteArray)} {vs : List (Nat × Nat)} {W : World} (h : TwinAt base G n L vs W) : RowsAt W (some ⟨G, 0, none⟩) L := fun i hi => by
  have ho := h.txs i hi
  have hc : Kd.C Kd.string W (some ⟨(vs.getD i (0, 0)).1, 0, none⟩) L[i].length L[i] := by have := C_of_own ho L[i].length (by simp); simpa using this
  have hcap := twin_cap ho
  exact ⟨⟨G, 0, none⟩, _, _, rfl, by rw [add_plain]; exact h.cell i hi, by omega, hc⟩
theorem twin_low {base G n : Nat} {L : List (List ByteArray)} {vs : List (Nat × Nat)} {W : World} (h : TwinAt base G n L vs W) : base ≤ G ∧ G < W.heap.size ∧ ∀ i, i < L.length → base ≤ (vs.getD i (0, 0)).1 ∧ (vs.getD i (0, 0)).1 < W.heap.size :=
  ⟨(Go.Proofs.YtlicjpbmlmongaaDoor.H.own_blk h.row).1, (Go.Proofs.YtlicjpbmlmongaaDoor.H.own_blk h.row).2, fun i hi => Go.Proofs.YtlicjpbmlmongaaDoor.H.own_blk (h.txs i hi)⟩
theorem held3 (X : List (List ByteArray)) (vs : List (Nat × Nat)) (e1 e2 : Held) (i : Nat) (h : i < (heldOf X vs X.length ++ [e1] ++ [e2]).length) :
    (∃ hlt : i < X.length, (heldOf X vs X.length ++ [e1] ++ [e2]).getD i zH = ⟨.slice (some ⟨(vs.getD i (0, 0)).1, 0, none⟩) X[i].length (vs.getD i (0, 0)).2, .slice none 0 0, i + 1⟩) ∨
    (i = X.length ∧ (heldOf X vs X.length ++ [e1] ++ [e2]).getD i zH = e1) ∨ (i = X.length + 1 ∧ (heldOf X vs X.length ++ [e1] ++ [e2]).getD i zH = e2) := by
  have hl := heldOf_len X vs X.length
  rw [List.length_append, List.length_append, List.length_singleton, List.length_singleton, hl] at h
  rcases Nat.lt_trichotomy i X.length with h1 | h1 | h1
  · refine .inl ⟨h1, ?_⟩
    rw [List.getD_eq_getElem?_getD, List.append_assoc, List.getElem?_append_left (by omega)]
    unfold heldOf
    rw [List.getElem?_map, List.getElem?_range h1]
    simp [List.getD_eq_getElem?_getD, h1]
  · refine .inr (.inl ⟨h1, ?_⟩)
    rw [List.getD_eq_getElem?_getD, List.append_assoc, List.getElem?_append_right (by omega), hl, h1, Nat.sub_self]
    rfl
  · refine .inr (.inr ⟨by omega, ?_⟩)
    rw [List.getD_eq_getElem?_getD, List.append_assoc, List.getElem?_append_right (by omega), hl, show i - X.length = 1 by omega]
    rfl
theorem held3_len (X : List (List ByteArray)) (vs : List (Nat × Nat)) (e1 e2 : Held) : (heldOf X vs X.length ++ [e1] ++ [e2]).length = X.length + 2 := by simp [heldOf_len]
/-- All that the book holds, told. -/
theorem ready_pastes {B0 Bk m s : Nat} {T TR : Value} (X : List (List ByteArray)) (vs : List (Nat × Nat)) (G N1 N2 : Nat) (R : List ByteArray) (v1 v2 : Value) (w : World)
    (hB : BookR Bk T TR m (heldOf X vs X.length ++ [⟨v1, .slice none 0 0, N1⟩] ++ [⟨v2, .slice none 0 0, N2⟩]) [⟨.slice (some ⟨G, 0, none⟩) X.length (X.length + 2), .slice none 0 0, X.length + 1⟩] w)
    (hN1 : N1 ≤ 1000000) (hN2 : N2 ≤ 1000000) (hX : X.length ≤ 300) (hs : ∀ x ∈ X, x.length ≤ 8796093022000) (hR : R.length ≤ 8796093022000)
    (ht : TwinAt B0 G (X.length + 2) X vs w) (hsB : s ≤ Bk) (hGs : G < s) (hvs : ∀ i, i < X.length → (vs.getD i (0, 0)).1 < s) (hbase : B0 ≤ Bk)
    (o1 : w.ownsRow B0 9 1 v1 R.length (strs R)) (o2 : w.ownsRow B0 9 1 v2 R.length (strs R))
    (l1 : ∀ b, v1.ownBlock = some b → s ≤ b ∧ b < Bk) (l2 : ∀ b, v2.ownBlock = some b → s ≤ b ∧ b < Bk) (l12 : ∀ b c, v1.ownBlock = some b → v2.ownBlock = some c → b ≠ c)
    (hpw : ∀ V, Below B0 w V → PW V) :
    ReadyR B0 Bk m T TR (heldOf X vs X.length ++ [⟨v1, .slice none 0 0, N1⟩] ++ [⟨v2, .slice none 0 0, N2⟩]) (fun i => if i < X.length then X.getD i [] else R) (X.length + 1) G X.length (X.length + 2) (valsOf X vs) w := by
  have hb0 : ∀ (i : Nat) (c n : Nat), (Value.slice (some ⟨(vs.getD i (0, 0)).1, 0, none⟩) c n).ownBlock = some (vs.getD i (0, 0)).1 := fun _ _ _ => rfl
  have hne : ∀ {a b : Value}, (∀ x y, a.ownBlock = some x → b.ownBlock = some y → x ≠ y) → a.ownBlock = none ∨ a.ownBlock ≠ b.ownBlock := fun {a b} h => by
    cases ha : a.ownBlock with
    | none => exact .inl rfl
    | some x => exact .inr fun e => h x x ha e.symm rfl
  refine ⟨hB, by rw [held3_len]; omega, ⟨?_, ?_, ?_, ?_⟩, ?_, hbase, ?_, ?_, by omega, by omega, by omega, hpw⟩
  · intro i hi b hb
    rcases held3 X vs _ _ i hi with ⟨hlt, e⟩ | ⟨rfl, e⟩ | ⟨rfl, e⟩
    · rw [e] at hb
      have h1 : (vs.getD i (0, 0)).1 = b := Option.some.inj hb
      have := hvs i hlt
      omega
    · rw [e] at hb; exact (l1 b hb).2
    · rw [e] at hb; exact (l2 b hb).2
  · intro i j hi hj hij
    rcases held3 X vs _ _ i hi with ⟨hlt, e⟩ | ⟨h1, e⟩ | ⟨h1, e⟩ <;> rcases held3 X vs _ _ j hj with ⟨hlt', e'⟩ | ⟨h2, e'⟩ | ⟨h2, e'⟩ <;> rw [e, e']
    · refine .inr fun h => ?_
      have h3 : (vs.getD i (0, 0)).1 = (vs.getD j (0, 0)).1 := Option.some.inj h
      rcases Nat.lt_or_ge i j with h4 | h4
      · exact ht.ne i j h4 hlt' h3
      · exact ht.ne j i (by omega) hlt h3.symm
    · refine hne fun x y hx hy => ?_
      have h3 : (vs.getD i (0, 0)).1 = x := Option.some.inj hx
      have := hvs i hlt
      have := (l1 y hy).1
      omega
    · refine hne fun x y hx hy => ?_
      have h3 : (vs.getD i (0, 0)).1 = x := Option.some.inj hx
      have := hvs i hlt
      have := (l2 y hy).1
      omega
    · refine hne fun x y hx hy => ?_
      have h3 : (vs.getD j (0, 0)).1 = y := Option.some.inj hy
      have := hvs j hlt'
      have := (l1 x hx).1
      omega
    · omega
    · exact hne fun x y hx hy => l12 x y hx hy
    · refine hne fun x y hx hy => ?_
      have h3 : (vs.getD j (0, 0)).1 = y := Option.some.inj hy
      have := hvs j hlt'
      have := (l2 x hx).1
      omega
    · exact hne fun x y hx hy => (l12 y x hy hx).symm
    · omega
  · intro i hi
    rcases held3 X vs _ _ i hi with ⟨hlt, e⟩ | ⟨h1, e⟩ | ⟨h1, e⟩ <;> rw [e]
    · show i + 1 ≤ 1000000; omega
    · exact hN1
    · exact hN2
  · intro i hi
    rcases held3 X vs _ _ i hi with ⟨hlt, e⟩ | ⟨h1, e⟩ | ⟨h1, e⟩ <;> rw [e] <;> exact ⟨_, _, _, rfl⟩
  · intro i hi
    rcases held3 X vs _ _ i hi with ⟨hlt, e⟩ | ⟨h1, e⟩ | ⟨h1, e⟩ <;> rw [e]
    · have hg : X.getD i [] = X[i] := by simp [List.getD_eq_getElem?_getD, hlt]
      simp only [if_pos hlt, hg]
      exact own_twin (ht.txs i hlt)
    · simp only [if_neg (show ¬ i < X.length by omega)]; exact o1
    · simp only [if_neg (show ¬ i < X.length by omega)]; exact o2
  · intro j hj
    by_cases h : j < X.length
    · simp only [if_pos h]
      have hg : X.getD j [] = X[j] := by simp [List.getD_eq_getElem?_getD, h]
      rw [hg]
      exact hs _ (List.getElem_mem h)
    · simp only [if_neg h]; exact hR
  · have := own_take ht.row (show X.length ≤ X.length + 2 by omega)
    rw [Nat.mul_one, List.take_left' (valsOf_len ht.len)] at this
    exact this
theorem side_len (seps : List UInt8) (B : Nat) (l : List ByteArray) (h : ∀ x ∈ l, x.size ≤ B) : ∀ i, (sideF seps i l).length ≤ l.length * (B + 1) := by
  induction l with
  | nil => intro i; simp [sideF]
  | cons x l ih =>
    intro i
    have h1 : (sepB seps i).length ≤ 1 := by unfold sepB; split <;> simp
    have h2 := h x (List.mem_cons_self ..)
    have h3 := ih (fun y hy => h y (List.mem_cons_of_mem _ hy)) (i + 1)
    rw [Lib.size_eq] at h2
    simp only [sideF, List.length_append, List.length_cons, Nat.succ_mul]
    omega
theorem line_len (seps : List UInt8) (L : List (List ByteArray)) (n : Nat) (hl : L.length ≤ 300) (h : ∀ x ∈ L, ∀ s ∈ x, s.size ≤ 50000) : (sideL seps (colL L n)).length ≤ 15000300 := by
  have h1 := side_len seps 50000 (colL L n) (by
    intro x hx
    obtain ⟨y, hy, rfl⟩ := List.mem_map.1 hx
    by_cases hn : n < y.length
    · rw [List.getD_eq_getElem?_getD, List.getElem?_eq_getElem hn]
      exact h y hy _ (List.getElem_mem hn)
    · rw [List.getD_eq_getElem?_getD, List.getElem?_eq_none (by omega)]
      exact Nat.zero_le _) 0
  have h2 : (colL L n).length = L.length := by simp [colL]
  rw [h2] at h1
  have : L.length * 50001 ≤ 300 * 50001 := Nat.mul_le_mul_right _ hl
  unfold sideL
  omega
set_option maxHeartbeats 4000000 in
set_option maxRecDepth 100000 in
theorem ViewsPastes_walk (A0 : Option Addr) (z0 : Nat) (l0 : List (List ByteArray)) (a1 : ByteArray) (W : World) (hENV : Lib.TabIs Tryd.prog W "internal/strconv.uint64pow10" .u64 Lib.pow10Tab) (hr0 : Kd.C (Kd.slice 9 Kd.string) W A0 l0.length l0) (hc0 : l0.length ≤ z0) (ok0 : (∀ a ∈ l0, (∀ b : ByteArray, b ∈ a → b.size ≤ 140737488351232) ∧ a.length * 16 ≤ 140737488351232) ∧ l0.length * 24 ≤ 140737488351232) (ok1 : a1.size ≤ 140737488351232) :
    Calls Tryd.prog 3 #[.slice A0 l0.length z0, .string a1] W fun e W' => e = .returned (.bool true) ∧ Below W.heap.size W W' := by
  have HR := Lib.hid hr0
  have HP := Lib.hid (show PW W from hENV)
  clear hENV hr0
  by_cases h1 : 300 < l0.length
  · have d1 : decide ((300 : Int) < (l0.length : Int)) = true := decide_eq_true (by omega)
    have d2 : decide (300 < l0.length) = true := decide_eq_true h1
    clear ok0
    go_enter Tryd.func3, Tryd.ntmps3
    go_wp2
    go_ret
    exact ⟨rfl, Below.refl _ _⟩
  have d1 : decide ((300 : Int) < (l0.length : Int)) = false := decide_eq_false (by omega)
  have d2 : decide (300 < l0.length) = false := decide_eq_false h1
  obtain ⟨kn, n, hn, hn2⟩ := rowsSize_tells l0 (fun x hx => ⟨by have := (ok0.1 x hx).2; omega, (ok0.1 x hx).1⟩) (by omega)
  have HN := Lib.hid hn
  clear hn ok0
  by_cases h3 : 50000 < n
  · have d5 : decide (50000 < n) = true := decide_eq_true h3
    clear hn2
    go_enter Tryd.func3, Tryd.ntmps3
    go_wp2_with fail
    with_reducible refine (toolchestlaw01_RowsSize.calls kn A0 z0 l0 n _ HR.out hc0 HN.out).mono ?_
    first | (rintro e w1 rfl hb1) | (rintro e w1 ⟨rfl, hb1⟩)
    have B1 := Lib.hid hb1.below
    clear hb1
    go_wp2
    go_ret
    exact ⟨rfl, B1.out⟩
  have d5 : decide (50000 < n) = false := decide_eq_false h3
  have hsz : ∀ x ∈ l0, textsN x ≤ 50000 := fun x hx => by have := hn2 (by omega) x hx; omega
  have hln : ∀ x ∈ l0, x.length ≤ 50000 := fun x hx => by have := hsz x hx; unfold textsN at this; omega
  have hss : ∀ x ∈ l0, ∀ s ∈ x, s.size ≤ 50000 := fun x hx s hs => Nat.le_trans (size_texts x s hs) (hsz x hx)
  have hmo : mostL l0 ≤ 50000 := (most_le l0 50000).2 hln
  have htt : ∀ k, (sideL a1.data.toList (colL l0 k)).length ≤ 15000300 := fun k => line_len _ l0 k (by omega) hss
  obtain ⟨kp, hkp⟩ := (refPaste l0 a1 (by omega) (by omega) (fun k => Nat.le_trans (htt k) (by omega)) ok1).at_
  have HJ := Lib.hid (fun A c w h hc => paste_calls A c l0 a1 w h hc (by omega) (by omega) ok1 (fun k => Nat.le_trans (htt k) (by omega)))
  have hRl0 : (pasteL a1.data.toList l0).length ≤ 50000 := by unfold pasteL; simpa using hmo
  obtain ⟨R, hRE⟩ : ∃ R, pasteL a1.data.toList l0 = R := ⟨_, rfl⟩
  rw [hRE] at hkp HJ hRl0
  obtain ⟨ks, hks⟩ := (same_self R (by omega)).at_
  have KS := Lib.hid hks
  have KP := Lib.hid hkp
  have HLN := Lib.hid hln
  clear hks hkp hRE hss hsz hmo htt hn2 hln
  go_enter Tryd.func3, Tryd.ntmps3
  go_wp2_with fail
  with_reducible refine (toolchestlaw01_RowsSize.calls kn A0 z0 l0 n _ HR.out hc0 HN.out).mono ?_
  first | (rintro e w1 rfl hb1) | (rintro e w1 ⟨rfl, hb1⟩)
  have B1 := Lib.hid hb1.below
  clear hb1
  go_wp2_with fail
  with_reducible refine (twinRows A0 z0 l0 _ (rowsR_of (Kd.C_below HR.out B1.out)) hc0 (by omega) (fun x hx => Nat.le_trans (HLN.out x hx) (by omega))).mono ?_
  rintro e w2 ⟨G, vs, rfl, ht2, hb2⟩
  have HT := Lib.hid ht2
  have B2 := Lib.hid (bth B1.out hb2)
  clear ht2 hb2
  have hcap2 : l0.length ≤ l0.length + 2 := by omega
  go_wp2_with fail
  with_reducible refine (HJ.out _ _ _ (twin_reads HT.out) hcap2).mono ?_
  rintro e w3 ⟨v3, rfl, ht3⟩
  have ho3' : w3.ownsRow w2.heap.size 9 1 v3 R.length (strs R) := ht3.txs
  obtain ⟨U3, u3, rfl, hu3, hq3⟩ := ht3.txs.reads
  have O3 := Lib.hid ho3'
  have Q3 := Lib.hid hq3
  have S3 := Lib.hid ht3.low
  have B3 := Lib.hid (bth B2.out ht3.low)
  have HT3 := Lib.hid (HT.out.below ht3.low)
  clear ht3 ho3' hq3
  go_wp2_with fail
  with_reducible refine (HJ.out _ _ _ (twin_reads HT3.out) hcap2).mono ?_
  rintro e w4 ⟨v4, rfl, ht4⟩
  have ho4' : w4.ownsRow w3.heap.size 9 1 v4 R.length (strs R) := ht4.txs
  obtain ⟨U4, u4, rfl, hu4, hq4⟩ := ht4.txs.reads
  have O4 := Lib.hid ho4'
  have S4 := Lib.hid ht4.low
  have B4 := Lib.hid (bth B3.out ht4.low)
  have HT4 := Lib.hid (HT3.out.below ht4.low)
  have Q34 := Lib.hid (Kd.C_below Q3.out ht4.low)
  clear ht4 ho4' hq4 HT3 Q3
  go_wp2_with fail
  with_reducible refine (toolchestref08_Paste.calls kp A0 z0 l0 a1 R _ (Kd.C_below HR.out B4.out) hc0 KP.out).mono ?_
  rintro e w5 ⟨v5, rfl, hr5, hb5⟩
  obtain ⟨U5, u5, rfl, hu5, hq5⟩ := own_R' hr5
  have Q5 := Lib.hid hq5
  have S5 := Lib.hid hb5
  have B5 := Lib.hid (bth B4.out hb5)
  have Q35 := Lib.hid (Kd.C_below Q34.out hb5)
  clear hr5 hq5 hb5 Q34
  go_wp2_with fail
  with_reducible refine (toolchestlaw01_SameTexts.calls ks U3 u3 R U5 u5 R true _ Q35.out hu3 Q5.out hu5 KS.out).mono ?_
  first | (rintro e w6 rfl hb6) | (rintro e w6 ⟨rfl, hb6⟩)
  have S6 := Lib.hid (bth S5.out hb6.below)
  have B6 := Lib.hid (bth B4.out S6.out)
  have HT6 := Lib.hid (HT4.out.below S6.out)
  clear hb6 Q35 Q5 HT4
  go_wp2_with fail
  with_reducible refine (leftRows w1.heap.size G vs A0 z0 l0 _ (rowsR_of (Kd.C_below HR.out B6.out)) hc0 (by omega) HT6.out).mono ?_
  first | (rintro e w7 rfl hb7) | (rintro e w7 ⟨rfl, hb7⟩)
  have S7 := Lib.hid (bth S6.out hb7)
  have B7 := Lib.hid (bth B6.out hb7)
  have HT7 := Lib.hid (HT6.out.below hb7)
  have hlow := twin_low HT.out
  have h23 := S3.out.size
  have h34 := S4.out.size
  have h47 := S7.out.size
  have hGlt : G < w7.heap.size := by omega
  clear hb7 HT6
  go_wp2_with (go_at_call 10; refine (rowsR_calls w7.heap.size w1.heap.size G (l0.length + 2) l0 vs _ _ _ (bookR_new w7) (HT7.out.below ((Below.refl _ _).alloc (Nat.le_refl _) _)) (by omega) (fun _ _ _ => trivial) hGlt hcap2).mono ?_)
  rintro e y1 ⟨rfl, ⟨t1, r1, hk1⟩, hx1⟩
  have HK1 := Lib.hid hk1
  have X1 := Lib.hid (below_al hx1)
  clear hk1 hx1
  go_wp2_with (go_at_call 11; refine (textsR_calls w7.heap.size _ _ (l0.length + 1) _ _ U3 R.length u3 _ HK1.out (by omega) (by rw [heldOf_len]; omega)).mono ?_)
  rintro e y2 ⟨rfl, ⟨t2, hk2⟩, hx2⟩
  have HK2 := Lib.hid hk2
  have X2 := Lib.hid (X1.out.trans hx2)
  clear hk2 hx2
  go_wp2_with (go_at_call 11; refine (textsR_calls w7.heap.size _ _ (l0.length + 1 + 1) _ _ U4 R.length u4 _ HK2.out (by omega) (by rw [List.length_append, heldOf_len, List.length_singleton]; omega)).mono ?_)
  rintro e y3 ⟨rfl, ⟨t3, hk3⟩, hx3⟩
  have HK3 := Lib.hid hk3
  have X3 := Lib.hid (X2.out.trans hx3)
  clear hk3 hx3
  have hL3 : Below w3.heap.size w3 y3 := bth S4.out (bth S7.out X3.out)
  have hL4 : Below w4.heap.size w4 y3 := bth S7.out X3.out
  have hWy : Below W.heap.size W y3 := bth B7.out X3.out
  have hz1 : W.heap.size ≤ w1.heap.size := B1.out.size
  have hz2 : W.heap.size ≤ w2.heap.size := B2.out.size
  have hrdy := Lib.hid (ready_pastes (B0 := W.heap.size) (s := w2.heap.size) l0 vs G _ _ R _ _ y3 HK3.out (by omega) (by omega) (by omega) (fun x hx => Nat.le_trans (HLN.out x hx) (by omega)) (by omega)
    (twin_weaken (HT7.out.below X3.out) hz1) (by omega) hlow.2.1 (fun i hi => (hlow.2.2 i hi).2) (by omega)
    (own_weaken (pw_own_below O3.out hL3) hz2) (own_weaken (pw_own_below O4.out hL4) (by omega))
    (fun b hb => by have f1 := own_base O3.out b hb; have f2 := own_lt O3.out b hb; omega)
    (fun b hb => by have f1 := own_base O4.out b hb; have f2 := own_lt O4.out b hb; omega)
    (fun b c hb hc => by have f1 := own_lt O3.out b hb; have f2 := own_base O4.out c hc; omega)
    (fun V hV => HP.out.below (hWy.trans hV)))
  go_wp2_with (go_at_call 12; refine (apartR_calls W.heap.size w7.heap.size _ _ _ _ _ _ _ _ _ _ _ hrdy.out).mono ?_)
  rintro e wz ⟨rfl, hbz⟩
  go_wp2
  go_ret
  exact ⟨rfl, hWy.trans hbz⟩
end Go.Proofs.YtlicjpbmlmongaaDoor.P

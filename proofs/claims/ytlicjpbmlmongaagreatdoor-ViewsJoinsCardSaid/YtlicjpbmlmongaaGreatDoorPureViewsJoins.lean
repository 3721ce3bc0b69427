/- ViewsJoins: the walk of the law: for any two lists of lines and any fields it returns true. -/
import Derived.Test.YtlicjpbmlmongaaGreatDoorVRefJoin
import Derived.Test.YtlicjpbmlmongaaGreatDoorSizes1
import Derived.Test.YtlicjpbmlmongaaGreatDoorSameSelf1
import Derived.Test.YtlicjpbmlmongaaGreatDoorTwin
import Derived.Test.YtlicjpbmlmongaaGreatDoorBook6
set_option linter.unusedVariables false
set_option linter.unusedSimpArgs false
namespace Go.Proofs.YtlicjpbmlmongaaGreatDoor.P
open Go.RowKit Go.Proofs Go.Proofs.YtlicjpbmlmongaaGreatDoor.Q Go.Proofs.YtlicjpbmlmongaaGreatDoor.H Go.Proofs.YtlicjpbmlmongaaGreatDoor.C Go.Proofs.YtlicjpbmlmongaaGreatDoorW.PrintWords Go.Proofs.YtlicjpbmlmongaaGreatDoorW.PrintLast

theorem own_R' {W : World} {base : Nat} {ok : Nat → Prop} {v : Value} {l : List ByteArray} (h : Kd.R Kd.string 9 W base ok v l) : ∃ A c, v = .slice A l.length c ∧ l.length ≤ c ∧ Kd.C Kd.string W A l.length l := Kd.R_reads h
theorem below_al {w w' : World} {o : Obj} (h : Below w.heap.size (w.alloc o) w') : Below w.heap.size w w' := ((Below.refl _ w).alloc (Nat.le_refl _) o).trans h
/-- A twin is a row of the call's own that holds the texts. -/
theorem own_twin {W : World} {base g cap : Nat} {l : List ByteArray} {x : ByteArray} (h : W.ownsRow base 9 1 (.slice (some ⟨g, 0, none⟩) (l.length + 1) cap) (l.length + 1) (strs (l ++ [x]))) :
    W.ownsRow base 9 1 (.slice (some ⟨g, 0, none⟩) l.length cap) l.length (strs l) := by
  have := own_take h (Nat.le_succ l.length)
  rw [Nat.mul_one] at this
  have e : (strs (l ++ [x])).take l.length = strs l := by
    unfold strs
    rw [List.map_append, List.take_left' (by simp)]
  rw [e] at this
  exact this
theorem ready_by {B0 Bk m : Nat} {T : Value} {L : List Held} {w : World} (X : Nat → List ByteArray) (hB : Book Bk T m L w) (hlen : L.length ≤ 90) (hbase : B0 ≤ Bk)
    (h : ∀ i, i < L.length → w.ownsRow B0 9 1 (L.getD i zH).v (X i).length (strs (X i)) ∧ (∀ b, (L.getD i zH).v.ownBlock = some b → b < Bk) ∧ (L.getD i zH).n < 100 ∧ (L.getD i zH).long = .slice none 0 0 ∧ (X i).length ≤ 8796093022000)
    (ho : ∀ i j, i < j → j < L.length → NeRow (L.getD i zH).v (L.getD j zH).v) : Ready B0 Bk m T L X w := by
  refine ⟨hB, by omega, ⟨fun i hi' b hb => ?_, fun i j hi' hj hne => ?_, fun i hi' => (h i hi').2.2.1, fun i hi' => ⟨_, _, _, (h i hi').2.2.2.1⟩⟩, fun i hi' => (h i hi').1, hbase, fun i hi' => (h i hi').2.2.2.2⟩
  · have := (h i hi').2.1 b hb
    omega
  · rcases Nat.lt_or_ge i j with hlt | hge
    · exact ne_other (ne_symm (ho i j hlt hj))
    · exact ne_other (ho j i (by omega) hi')
theorem size_in_sum (l : List ByteArray) : ∀ x ∈ l, x.size ≤ (l.map (·.size)).sum := by
  induction l with
  | nil => intro x hx; cases hx
  | cons a l ih =>
    intro x hx
    rw [List.map_cons, List.sum_cons]
    rcases List.mem_cons.1 hx with rfl | h
    · omega
    · have := ih x h; omega
theorem size_texts (l : List ByteArray) : ∀ x ∈ l, x.size ≤ textsN l := by
  intro x hx
  unfold textsN
  have : x.size ≤ (l.map (·.size)).sum := size_in_sum l x hx
  omega
/-- The reference's Join, at any fields. -/
theorem refJoin_calls (A1 A2 : Option Addr) (p1 p2 : Nat) (l1 l2 : List ByteArray) (f g c : Int) (hz0 : 0 ≤ c) (hz1 : c < 256) (w : World)
    (hr1 : Kd.C Kd.string w A1 l1.length l1) (hr2 : Kd.C Kd.string w A2 l2.length l2) (k1 : l1.length ≤ p1) (k2 : l2.length ≤ p2) (b1 : l1.length ≤ 300) (b2 : l2.length ≤ 300) (s1 : ∀ s ∈ l1, s.size ≤ 20000) (s2 : ∀ s ∈ l2, s.size ≤ 20000) :
    Calls Tryz.prog 22 #[.slice A1 l1.length p1, .slice A2 l2.length p2, .int .i64 f, .int .i64 g, .int .u8 c] w fun e w' => ∃ v, e = .returned (.tuple #[v, .int .i64 (joinR l1 l2 f g c).2]) ∧ TS w v (joinR l1 l2 f g c).1 w' := by
  by_cases hb : min f g < 1 ∨ 1000 < max f g ∨ c = 10
  · refine (refJoin_bad A1 A2 _ p1 _ p2 f g c hb w).mono ?_
    rintro e w' ⟨rfl, hl⟩
    unfold joinR
    rw [if_pos hb]
    exact ⟨_, rfl, World.ownsRow_nil _ _ _ _, hl⟩
  · obtain ⟨F, rfl⟩ : ∃ F : Nat, f = (F : Int) := ⟨f.toNat, by omega⟩
    obtain ⟨G, rfl⟩ : ∃ G : Nat, g = (G : Int) := ⟨g.toNat, by omega⟩
    unfold joinR
    rw [if_neg hb, Int.toNat_natCast, Int.toNat_natCast]
    exact refJoin_good A1 A2 p1 p2 l1 l2 F G c (by omega) (by omega) (by omega) (by omega) (by omega) hz0 hz1 w hr1 hr2 k1 k2 b1 b2 s1 s2
theorem joinR_len (l1 l2 : List ByteArray) (f g c : Int) : (joinR l1 l2 f g c).1.length ≤ 65536 := by
  unfold joinR ansJ
  split
  · exact Nat.zero_le _
  · split
    · exact Nat.zero_le _
    · split
      · exact Nat.zero_le _
      · rename_i h; exact Nat.le_of_not_lt h
set_option maxHeartbeats 4000000 in
set_option maxRecDepth 100000 in
theorem ViewsJoins_walk (A0 : Option Addr) (z0 : Nat) (l0 : List ByteArray) (A1 : Option Addr) (z1 : Nat) (l1 : List ByteArray) (F G c : Int) (W : World) (hr0 : Kd.C Kd.string W A0 l0.length l0) (hc0 : l0.length ≤ z0) (ok0 : (∀ a ∈ l0, a.size ≤ 140737488351232) ∧ l0.length * 16 ≤ 140737488351232) (hr1 : Kd.C Kd.string W A1 l1.length l1) (hc1 : l1.length ≤ z1) (ok1 : (∀ a ∈ l1, a.size ≤ 140737488351232) ∧ l1.length * 16 ≤ 140737488351232) (ok2_0 : (Lit.int .i64 F).wf = true) (ok2_1 : (Lit.int .i64 G).wf = true) (ok2_2 : (Lit.int .u8 c).wf = true) :
    Calls Tryz.prog 5 #[.slice A0 l0.length z0, .slice A1 l1.length z1, .agg #[.int .i64 F, .int .i64 G, .int .u8 c]] W fun e W' => e = .returned (.bool true) ∧ Below W.heap.size W W' := by
  have hcc : 0 ≤ c ∧ c ≤ 255 := by simpa [Lit.wf, IntKind.min, IntKind.max, IntKind.signed, IntKind.bits] using ok2_2
  obtain ⟨n, hn, hn0, hn1, hn2⟩ := textsSize_tells l0 ok0.1 (by omega)
  obtain ⟨m, hm, hm0, hm1, hm2⟩ := textsSize_tells l1 ok1.1 (by omega)
  obtain ⟨W0, hW0⟩ : ∃ W0, W.alloc (.cells #[.int .i64 F, .int .i64 G, .int .u8 c] 56) = W0 := ⟨_, rfl⟩
  have hbx : W0.heap[W.heap.size]? = some (.cells #[.int .i64 F, .int .i64 G, .int .u8 c] 56 (0, 0)) := by rw [← hW0]; exact World.alloc_heap_new W _
  have HOB := Lib.hid (show ∀ V, Below W0.heap.size W0 V → V.cell? ⟨W.heap.size, 0, none⟩ = some (.int .i64 F) ∧ V.cell? ⟨W.heap.size, 1, none⟩ = some (.int .i64 G) ∧ V.cell? ⟨W.heap.size, 2, none⟩ = some (.int .u8 c) from fun V h => by
    have hv := (h.block W.heap.size (by rw [← hW0]; simp)).trans hbx
    exact ⟨(blk_cell hv 0).trans rfl, (blk_cell hv 1).trans rfl, (blk_cell hv 2).trans rfl⟩)
  have HLOW := Lib.hid (show Below W.heap.size W W0 by rw [← hW0]; exact bal (Below.refl _ _) _)
  have HR := Lib.hid (And.intro (Kd.C_below hr0 HLOW.out) (Kd.C_below hr1 HLOW.out))
  have HN := Lib.hid hn
  have HM := Lib.hid hm
  have HW := Lib.hid hW0
  have hl16 := ok0.2
  have hl17 := ok1.2
  clear hr0 hr1 hW0 hbx ok0 ok1 hn hm ok2_0 ok2_1 ok2_2
  by_cases h1 : 300 < l0.length
  · have d1 : decide ((300 : Int) < (l0.length : Int)) = true := decide_eq_true (by omega)
    have d2 : decide (300 < l0.length) = true := decide_eq_true h1
    go_enter Tryz.func5, Tryz.ntmps5
    go_wp2
    rw [HW.out]
    go_ret
    exact ⟨rfl, HLOW.out⟩
  have d1 : decide ((300 : Int) < (l0.length : Int)) = false := decide_eq_false (by omega)
  have d2 : decide (300 < l0.length) = false := decide_eq_false h1
  by_cases h2 : 300 < l1.length
  · have d3 : decide ((300 : Int) < (l1.length : Int)) = true := decide_eq_true (by omega)
    have d4 : decide (300 < l1.length) = true := decide_eq_true h2
    go_enter Tryz.func5, Tryz.ntmps5
    go_wp2
    rw [HW.out]
    go_ret
    exact ⟨rfl, HLOW.out⟩
  have d3 : decide ((300 : Int) < (l1.length : Int)) = false := decide_eq_false (by omega)
  have d4 : decide (300 < l1.length) = false := decide_eq_false h2
  by_cases h3 : 10000 < n
  · have d5 : decide (10000 < n) = true := decide_eq_true h3
    clear hn2 hm2
    go_enter Tryz.func5, Tryz.ntmps5
    go_wp2_with fail
    rw [HW.out]
    with_reducible refine (toolchestlaw01_TextsSize.calls (l0.length + 1) A0 z0 l0 n _ HR.out.1 hc0 HN.out).mono ?_
    first | (rintro e w1 rfl hb1) | (rintro e w1 ⟨rfl, hb1⟩)
    have B1 := Lib.hid hb1.below
    clear hb1
    go_wp2
    go_ret
    exact ⟨rfl, bth HLOW.out B1.out⟩
  have d5 : decide (10000 < n) = false := decide_eq_false h3
  by_cases h4 : 10000 < m
  · have d6 : decide (10000 < m) = true := decide_eq_true h4
    clear hn2 hm2
    go_enter Tryz.func5, Tryz.ntmps5
    go_wp2_with fail
    rw [HW.out]
    with_reducible refine (toolchestlaw01_TextsSize.calls (l0.length + 1) A0 z0 l0 n _ HR.out.1 hc0 HN.out).mono ?_
    first | (rintro e w1 rfl hb1) | (rintro e w1 ⟨rfl, hb1⟩)
    have B1 := Lib.hid hb1.below
    clear hb1
    go_wp2_with fail
    with_reducible refine (toolchestlaw01_TextsSize.calls (l1.length + 1) A1 z1 l1 m _ (Kd.C_below HR.out.2 B1.out) hc1 HM.out).mono ?_
    first | (rintro e w2 rfl hb2) | (rintro e w2 ⟨rfl, hb2⟩)
    have B2 := Lib.hid (bth B1.out hb2.below)
    clear hb2
    go_wp2
    go_ret
    exact ⟨rfl, bth HLOW.out B2.out⟩
  have d6 : decide (10000 < m) = false := decide_eq_false h4
  have hN := hn2 (by omega)
  have hM := hm2 (by omega)
  have s0 : ∀ s ∈ l0, s.size ≤ 20000 := fun s hs => by
    have h := size_texts l0 s hs
    have hN' : n = (textsN l0 : Int) := hN
    omega
  have s1 : ∀ s ∈ l1, s.size ≤ 20000 := fun s hs => by
    have h := size_texts l1 s hs
    have hM' : m = (textsN l1 : Int) := hM
    omega
  have HJ := Lib.hid (fun B0 B1 p0 p1 w h h' k k' => join_calls B0 B1 p0 p1 l0 l1 F G c hcc.1 (by omega) w h h' k k' (by omega) (by omega) s0 s1)
  have HRJ := Lib.hid (fun w h h' => refJoin_calls A0 A1 z0 z1 l0 l1 F G c hcc.1 (by omega) w h h' hc0 hc1 (by omega) (by omega) s0 s1)
  have hrl := joinR_len l0 l1 F G c
  obtain ⟨⟨R, E⟩, hRE⟩ : ∃ R, joinR l0 l1 F G c = R := ⟨_, rfl⟩
  rw [hRE] at HJ HRJ hrl
  have hRl : R.length ≤ 65536 := hrl
  obtain ⟨ks, hks⟩ := (same_self R (by omega)).at_
  have KS := Lib.hid hks
  have hne : (E != E) = false := by simp
  clear hks hRE hrl s0 s1 hN hM hn2 hm2 hcc
  go_enter Tryz.func5, Tryz.ntmps5
  go_wp2_with fail
  rw [HW.out]
  with_reducible refine (toolchestlaw01_TextsSize.calls (l0.length + 1) A0 z0 l0 n _ HR.out.1 hc0 HN.out).mono ?_
  first | (rintro e w1 rfl hb1) | (rintro e w1 ⟨rfl, hb1⟩)
  have B1 := Lib.hid hb1.below
  clear hb1
  go_wp2_with fail
  with_reducible refine (toolchestlaw01_TextsSize.calls (l1.length + 1) A1 z1 l1 m _ (Kd.C_below HR.out.2 B1.out) hc1 HM.out).mono ?_
  first | (rintro e w2 rfl hb2) | (rintro e w2 ⟨rfl, hb2⟩)
  have B2 := Lib.hid (bth B1.out hb2.below)
  clear hb2
  go_wp2_with fail
  with_reducible refine (twinTexts A0 z0 l0 _ (Kd.C_below HR.out.1 B2.out) hc0 (by omega)).mono ?_
  rintro e w3 ⟨g, cap, rfl, ho3, hb3⟩
  have O3 := Lib.hid ho3
  have B3 := Lib.hid (bth B2.out hb3)
  have CT := Lib.hid (show Kd.C Kd.string w3 (some ⟨g, 0, none⟩) l0.length l0 by have := C_of_own ho3 l0.length (by simp); simpa using this)
  have hcap := twin_cap ho3
  have hcapA : l0.length ≤ cap := by omega
  have hcapB := hcap.2
  have Z3 := Lib.hid (show W.heap.size ≤ w2.heap.size from Nat.le_trans HLOW.out.size B2.out.size)
  clear ho3 hb3 hcap
  go_wp2_with fail
  with_reducible refine (twinTexts A1 z1 l1 _ (Kd.C_below HR.out.2 B3.out) hc1 (by omega)).mono ?_
  rintro e w4 ⟨g', cap', rfl, ho4, hb4⟩
  have O4 := Lib.hid ho4
  have S4 := Lib.hid hb4
  have B4 := Lib.hid (bth B3.out hb4)
  have CT' := Lib.hid (show Kd.C Kd.string w4 (some ⟨g', 0, none⟩) l1.length l1 by have := C_of_own ho4 l1.length (by simp); simpa using this)
  have hcap := twin_cap ho4
  have hcapA' : l1.length ≤ cap' := by omega
  have hcapB' := hcap.2
  clear ho4 hb4 hcap
  obtain ⟨e0, e1, e2⟩ := HOB.out _ B4.out
  go_wp2_with fail
  with_reducible refine (HJ.out _ _ _ _ _ (Kd.C_below CT.out S4.out) CT'.out hcapA hcapA').mono ?_
  rintro e w5 ⟨v5, rfl, ht5⟩
  have ho5' : w5.ownsRow w4.heap.size 9 1 v5 R.length (strs R) := ht5.txs
  obtain ⟨U5, u5, rfl, hu5, hq5⟩ := ht5.txs.reads
  have O5 := Lib.hid ho5'
  have Q5 := Lib.hid hq5
  have S5 := Lib.hid ht5.low
  have B5 := Lib.hid (bth B4.out ht5.low)
  clear ht5 ho5' hq5 e0 e1 e2
  obtain ⟨e0, e1, e2⟩ := HOB.out _ B5.out
  go_wp2_with fail
  with_reducible refine (HJ.out _ _ _ _ _ (Kd.C_below CT.out (bth S4.out S5.out)) (Kd.C_below CT'.out S5.out) hcapA hcapA').mono ?_
  rintro e w6 ⟨v6, rfl, ht6⟩
  have ho6' : w6.ownsRow w5.heap.size 9 1 v6 R.length (strs R) := ht6.txs
  obtain ⟨U6, u6, rfl, hu6, hq6⟩ := ht6.txs.reads
  have O6 := Lib.hid ho6'
  have Q6 := Lib.hid hq6
  have S6 := Lib.hid ht6.low
  have B6 := Lib.hid (bth B5.out ht6.low)
  clear ht6 ho6' hq6 e0 e1 e2
  obtain ⟨e0, e1, e2⟩ := HOB.out _ B6.out
  go_wp2_with fail
  with_reducible refine (HRJ.out _ (Kd.C_below HR.out.1 B6.out) (Kd.C_below HR.out.2 B6.out)).mono ?_
  rintro e w7 ⟨v7, rfl, ht7⟩
  obtain ⟨U7, u7, rfl, hu7, hq7⟩ := ht7.txs.reads
  have Q7 := Lib.hid hq7
  have S7 := Lib.hid ht7.low
  have B7 := Lib.hid (bth B6.out ht7.low)
  clear ht7 hq7 e0 e1 e2
  have c5 := Lib.hid (Kd.C_below Q5.out (bth S6.out S7.out))
  have c6 := Lib.hid (Kd.C_below Q6.out S7.out)
  go_wp2_with fail
  with_reducible refine (toolchestlaw01_SameTexts.calls ks U5 u5 R U7 u7 R true _ c5.out hu5 Q7.out hu7 KS.out).mono ?_
  first | (rintro e w8 rfl hb8) | (rintro e w8 ⟨rfl, hb8⟩)
  have S8 := Lib.hid hb8.below
  clear hb8
  go_wp2_with fail
  with_reducible refine (toolchestlaw01_SameTexts.calls ks U6 u6 R U7 u7 R true _ (Kd.C_below c6.out S8.out) hu6 (Kd.C_below Q7.out S8.out) hu7 KS.out).mono ?_
  first | (rintro e w9 rfl hb9) | (rintro e w9 ⟨rfl, hb9⟩)
  have S9 := Lib.hid (bth S8.out hb9.below)
  have B9 := Lib.hid (bth B7.out S9.out)
  have T6 := Lib.hid (bth S7.out S9.out)
  have T5 := Lib.hid (bth S6.out T6.out)
  have T4 := Lib.hid (bth S5.out T5.out)
  have T3 := Lib.hid (bth S4.out T4.out)
  clear hb9 c5 c6 Q5 Q6
  go_wp2_with fail
  with_reducible refine (leftTexts g cap _ A0 z0 l0 _ (Kd.C_below HR.out.1 B9.out) hc0 (pw_own_below O3.out T3.out)).mono ?_
  first | (rintro e wa rfl hba) | (rintro e wa ⟨rfl, hba⟩)
  have Sa := Lib.hid hba
  clear hba
  go_wp2_with fail
  with_reducible refine (leftTexts g' cap' _ A1 z1 l1 _ (Kd.C_below HR.out.2 (bth B9.out Sa.out)) hc1 (pw_own_below O4.out (bth T4.out Sa.out))).mono ?_
  first | (rintro e wb rfl hbb) | (rintro e wb ⟨rfl, hbb⟩)
  have Sb := Lib.hid (bth Sa.out hbb)
  have Bb := Lib.hid (bth HLOW.out (bth B9.out Sb.out))
  clear hbb
  go_wp2_with (go_at_call 12; refine (texts_calls wb.heap.size _ 0 _ (some ⟨g, 0, none⟩) l0.length cap _ (book_new wb) (by decide) (by simp)).mono ?_)
  rintro e y1 ⟨rfl, ⟨t1, hk1⟩, hx1⟩
  have HK1 := Lib.hid hk1
  have X1 := Lib.hid (below_al hx1)
  clear hk1 hx1
  go_wp2_with (go_at_call 12; refine (texts_calls wb.heap.size _ 1 _ (some ⟨g', 0, none⟩) l1.length cap' _ HK1.out (by decide) (by simp)).mono ?_)
  rintro e y2 ⟨rfl, ⟨t2, hk2⟩, hx2⟩
  have HK2 := Lib.hid hk2
  have X2 := Lib.hid (X1.out.trans hx2)
  clear hk2 hx2
  go_wp2_with (go_at_call 12; refine (texts_calls wb.heap.size _ 2 _ U5 R.length u5 _ HK2.out (by decide) (by simp)).mono ?_)
  rintro e y3 ⟨rfl, ⟨t3, hk3⟩, hx3⟩
  have HK3 := Lib.hid hk3
  have X3 := Lib.hid (X2.out.trans hx3)
  clear hk3 hx3
  go_wp2_with (go_at_call 12; refine (texts_calls wb.heap.size _ 3 _ U6 R.length u6 _ HK3.out (by decide) (by simp)).mono ?_)
  rintro e y4 ⟨rfl, ⟨t4, hk4⟩, hx4⟩
  have HK4 := Lib.hid hk4
  have X4 := Lib.hid (X3.out.trans hx4)
  clear hk4 hx4
  have OT := Lib.hid (own_twin O3.out)
  have OT' := Lib.hid (own_twin O4.out)
  have hrdy := Lib.hid (ready_by (B0 := W.heap.size) (w := y4) (fun i => [l0, l1, R, R].getD i []) HK4.out (by simp) (by have := Bb.out.size; omega)
    (by
      have f1 : ∀ {base n : Nat} {v : Value} {xs : List Value} {w' : World}, w'.ownsRow base 9 1 v n xs → W.heap.size ≤ base → Below w'.heap.size w' wb → y4.ownsRow W.heap.size 9 1 v n xs := fun {base n v xs w'} h hb hl => own_weaken (pw_own_below (pw_own_below h hl) X4.out) hb
      have f2 : ∀ {base n : Nat} {v : Value} {xs : List Value} {w' : World}, w'.ownsRow base 9 1 v n xs → Below w'.heap.size w' wb → ∀ b, v.ownBlock = some b → b < wb.heap.size := fun {base n v xs w'} h hl b hb => by
        have h1 := own_lt h b hb
        have h2 := hl.size
        omega
      have z3 := Z3.out
      have z4 : W.heap.size ≤ w3.heap.size := Nat.le_trans HLOW.out.size B3.out.size
      have z5 : W.heap.size ≤ w4.heap.size := Nat.le_trans HLOW.out.size B4.out.size
      have z6 : W.heap.size ≤ w5.heap.size := Nat.le_trans HLOW.out.size B5.out.size
      have L3 : Below w3.heap.size w3 wb := bth T3.out Sb.out
      have L4 : Below w4.heap.size w4 wb := bth T4.out Sb.out
      have L5 : Below w5.heap.size w5 wb := bth T5.out Sb.out
      have L6 : Below w6.heap.size w6 wb := bth T6.out Sb.out
      intro i hi
      have hi4 : i < 4 := hi
      rcases (show i = 0 ∨ i = 1 ∨ i = 2 ∨ i = 3 by omega) with rfl | rfl | rfl | rfl
      · exact ⟨f1 OT.out z3 L3, f2 OT.out L3, (by show (1 : Nat) < 100; omega), rfl, (by show l0.length ≤ _; omega)⟩
      · exact ⟨f1 OT'.out z4 L4, f2 OT'.out L4, (by show (2 : Nat) < 100; omega), rfl, (by show l1.length ≤ _; omega)⟩
      · exact ⟨f1 O5.out z5 L5, f2 O5.out L5, (by show (3 : Nat) < 100; omega), rfl, (by show R.length ≤ _; omega)⟩
      · exact ⟨f1 O6.out z6 L6, f2 O6.out L6, (by show (4 : Nat) < 100; omega), rfl, (by show R.length ≤ _; omega)⟩)
    (by
      have OT4 := pw_own_below OT.out S4.out
      have OT5 := pw_own_below OT4 S5.out
      have OU5 := pw_own_below OT'.out S5.out
      have a01 := ne_symm (ne_below OT'.out OT.out)
      have a02 := ne_symm (ne_below O5.out OT4)
      have a03 := ne_symm (ne_below O6.out OT5)
      have a12 := ne_symm (ne_below O5.out OT'.out)
      have a13 := ne_symm (ne_below O6.out OU5)
      have a23 := ne_symm (ne_below O6.out O5.out)
      intro i j hij hj
      have hj4 : j < 4 := hj
      rcases (show (i = 0 ∧ j = 1) ∨ (i = 0 ∧ j = 2) ∨ (i = 0 ∧ j = 3) ∨ (i = 1 ∧ j = 2) ∨ (i = 1 ∧ j = 3) ∨ (i = 2 ∧ j = 3) by omega) with ⟨rfl, rfl⟩ | ⟨rfl, rfl⟩ | ⟨rfl, rfl⟩ | ⟨rfl, rfl⟩ | ⟨rfl, rfl⟩ | ⟨rfl, rfl⟩
      · exact a01
      · exact a02
      · exact a03
      · exact a12
      · exact a13
      · exact a23))
  go_wp2_with (go_at_call 13; refine (apart_calls W.heap.size wb.heap.size 4 _ _ _ _ hrdy.out).mono ?_)
  rintro e wz ⟨rfl, hbz⟩
  go_wp2
  go_ret
  exact ⟨rfl, (bth Bb.out X4.out).trans hbz⟩
end Go.Proofs.YtlicjpbmlmongaaGreatDoor.P

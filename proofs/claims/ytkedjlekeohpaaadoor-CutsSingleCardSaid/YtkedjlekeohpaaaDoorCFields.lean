/- cuts.Fields: those fields of a line whose places are in a list. -/
import Derived.Test.YtkedjlekeohpaaaDoorCBytes
import Derived.Test.YtkedjlekeohpaaaDoorBoxApp
import Derived.Test.YtkedjlekeohpaaaDoorSplOne
import Derived.Laws.IdiomStrings
set_option linter.unusedVariables false
set_option linter.unusedSimpArgs false
namespace Go.Proofs.YtkedjlekeohpaaaDoor.C
open Go.RowKit Go.Proofs Go.Proofs.YtkedjlekeohpaaaDoor.H Go.Proofs.YtkedjlekeohpaaaDoor.B Go.Proofs.YtkedjlekeohpaaaDoor.S Go.Proofs.YtkedjlekeohpaaaDoor.Q Go.Proofs.YtkedjlekeohpaaaDoorW.PrintWords

def nextT (l : List RS) (k : Nat) (bs : List Value) (x : ByteArray) : List Value := bs ++ if hasN l (k + 1) = true then [.string x] else []
/-- The state of a count: the list in the box Bo, the counter at Bn; all else below N as in Wb. -/
structure CSs (W0 Wb : World) (N Bo Bn k : Nat) (bs : List Value) (w : World) : Prop where
  n : Boxed w Bn 3 (.int .i64 k)
  o : OAt N Bo bs w
  same : ∀ j, j < N → j ≠ Bo → j ≠ Bn → w.heap[j]? = Wb.heap[j]?
  size : N ≤ w.heap.size
  low : Below W0.heap.size W0 w
theorem CSs.on {W0 Wb : World} {N Bb Bn k : Nat} {bs : List Value} {w w' : World} (h : CSs W0 Wb N Bb Bn k bs w) (hb : Below w.heap.size w w') (h0 : W0.heap.size ≤ w.heap.size) : CSs W0 Wb N Bb Bn k bs w' :=
  ⟨(hb.block Bn (Boxed.lt h.n)).trans h.n, h.o.on hb, fun j hj h1 h2 => (hb.block j (by have := h.size; omega)).trans (h.same j hj h1 h2), Nat.le_trans h.size hb.size, h.low.trans (hb.mono h0)⟩

set_option maxHeartbeats 1000000 in
set_option maxRecDepth 100000 in
theorem putS_calls (N Bo : Nat) (bs : List Value) (x : ByteArray) (w : World) (h : OAt N Bo bs w) (hlen : bs.length + 1 ≤ 100000000) (hbN : Bo < N) (hNw : N ≤ w.heap.size) :
    Calls Tryd.prog 26 #[.string x, .pointer (some ⟨Bo, 0, none⟩)] w fun e w' => e = .returned (.tuple #[]) ∧ OAt N Bo (bs ++ [.string x]) w' ∧ OnlyAt N Bo w w' := by
  obtain ⟨v, hv, hrow⟩ := h
  have hc := hv.cell
  obtain ⟨i0, hi, hz0, hz1, hz2⟩ := info_parts infoS
  have HV := Lib.hid hv
  have HROW := Lib.hid hrow
  clear hv hrow
  go_enter Tryd.func26, Tryd.ntmps26
  go_wp2_with (at_builtin; refine wpList_append_own _ rfl _ _ 40 rfl N 9 i0 (.string ⟨#[]⟩) 1 16 Tryd.underlying40 hi hz0 hz1 hz2 rfl (by decide) _ _ _ rfl (HROW.out.alloc _) ⟨w.heap.size, 0, none⟩ 1 1 [.string x] rfl rfl (cell_one_new _ _ _) (by simp [Value.oneCell']) (by unfold maxLen; omega) (by omega) (by simp; omega) ?_; intro v' w1 hown' hgrow _; obtain ⟨g', cap', rfl⟩ := ownsRow_succ hown'; obtain ⟨hv1, hv2, hr2, hk2, hb2, hk3⟩ := box_app (n₀ := Bo) HV.out (by decide) HROW.out (by omega) (Nat.le_refl _) (by omega) hown' hgrow; have hc1 := hv1.cell; have hf1 := hv1.frozen; have HV2 := Lib.hid hv2; have HR2 := Lib.hid hr2; have HB2 := Lib.hid hb2; have HK3 := Lib.hid hk3; clear hv1 hv2 hr2 hk2 hb2 hk3 hown' hgrow)
  go_end0
  exact ⟨rfl, ⟨_, HV2.out, by simpa using HR2.out⟩, HB2.out.os, HB2.out.tape, HB2.out.output, HB2.out.size, fun j h1 h2 => HK3.out j h1 h2 (by omega)⟩
set_option maxHeartbeats 2000000 in
set_option maxRecDepth 100000 in
theorem countedS1 (W0 Wb : World) (N Bo Bn Bl Bd : Nat) (A : Option Addr) (c : Nat) (l : List RS) (k : Nat) (bs : List Value) (x : ByteArray) (w : World) (hr : Kd.C k34 W0 A l.length l) (hcl : l.length ≤ c)
    (hS : CSs W0 Wb N Bo Bn k bs w) (hl : Boxed Wb Bl 24 (.slice A l.length c)) (hd : Boxed Wb Bd 56 (.func (.func 26) #[] #[.pointer (some ⟨Bo, 0, none⟩)]))
    (hk : k ≤ 1000000000) (hbs : bs.length + 1 ≤ 100000000)
    (q0 : W0.heap.size ≤ Bo) (q1 : Bo < Bl) (q2 : Bl < Bd) (q3 : Bd < Bn) (q4 : Bn < N) :
    Calls Tryd.prog 46 #[.string x, .pointer (some ⟨Bn, 0, none⟩), .pointer (some ⟨Bl, 0, none⟩), .pointer (some ⟨Bd, 0, none⟩)] w fun e w' => e = .returned (.tuple #[]) ∧ CSs W0 Wb N Bo Bn (k + 1) (nextT l k bs x) w' := by
  have hlw : Boxed w Bl 24 (.slice A l.length c) := (hS.same Bl (by omega) (by omega) (by omega)).trans hl
  have hdw : Boxed w Bd 56 (.func (.func 26) #[] #[.pointer (some ⟨Bo, 0, none⟩)]) := (hS.same Bd (by omega) (by omega) (by omega)).trans hd
  have cn := hS.n.cell
  have fn := hS.n.frozen
  have hsz := hS.size
  obtain ⟨w1, e1⟩ : ∃ w1, w.setCell ⟨Bn, 0, none⟩ (.int .i64 ((k : Int) + 1)) = w1 := ⟨_, rfl⟩
  have S1 : CSs W0 Wb N Bo Bn (k + 1) bs w1 := by
    rw [← e1]
    exact ⟨hS.n.set _, hS.o.far (by omega) hS.n (by decide) _, fun j hj h1 h2 => (Below.heap_setCell _ _ _ j (by show j ≠ Bn; omega)).trans (hS.same j hj h1 h2), by simpa [World.setCell] using hS.size, hS.low.setCell (p := ⟨Bn, 0, none⟩) (by show W0.heap.size ≤ Bn; omega) _⟩
  have l1 := Boxed.kept hlw (grownBy_setCell' w Bn (.int .i64 ((k : Int) + 1))) (by intro e; injection e with e; omega)
  have d1 := Boxed.kept hdw (grownBy_setCell' w Bn (.int .i64 ((k : Int) + 1))) (by intro e; injection e with e; omega)
  rw [e1] at l1 d1
  have n1 : w1.cell? ⟨Bn, 0, none⟩ = some (.int .i64 ((k : Int) + 1)) := S1.n.cell
  have cl := l1.cell
  have HS1 := Lib.hid S1
  have HD1 := Lib.hid d1
  have HE := Lib.hid e1
  have hz1 : W0.heap.size ≤ w1.heap.size := S1.low.size
  clear S1 e1 hlw hdw hl hd hS d1 l1
  have hC1 := Lib.hid (Kd.C_below hr HS1.out.low)
  clear hr
  cases hh : hasN l (k + 1) with
  | true =>
    have hnx := Lib.hid (show nextT l k bs x = bs ++ [.string x] by unfold nextT; rw [if_pos hh])
    have hc := fun w h => has_calls A c l ((k : Int) + 1) w h hcl
    rw [show hasR l ((k : Int) + 1) = true from hh] at hc
    have HCC := Lib.hid hc
    clear hc hh
    rw [hnx.out]
    go_enter Tryd.func46, Tryd.ntmps46
    go_upto_region 1 with (fail)
    rw [HE.out]
    go_wp2_with (go_at_call 18; refine (HCC.out _ hC1.out).mono ?_)
    rintro e w2 ⟨rfl, hb2⟩
    have HS2 := Lib.hid (HS1.out.on hb2 hz1)
    have d2 : w2.cell? ⟨Bd, 0, none⟩ = some (.func (.func 26) #[] #[.pointer (some ⟨Bo, 0, none⟩)]) := Boxed.cell ((hb2.block Bd (Boxed.lt HD1.out)).trans HD1.out)
    have hN2 := HS2.out.size
    clear hb2
    go_wp2_with (go_at_call 26; refine (putS_calls N Bo bs x _ HS2.out.o hbs (by omega) hN2).mono ?_; rintro e w3 ⟨rfl, hb3, ho3⟩; have HB3 := Lib.hid hb3; have HO3 := Lib.hid ho3; clear hb3 ho3)
    go_end0
    exact ⟨rfl, (HO3.out.same Bn q4 (by omega)).trans HS2.out.n, HB3.out, fun j hj h1 h2 => (HO3.out.same j hj h1).trans (HS2.out.same j hj h1 h2), Nat.le_trans hN2 HO3.out.size, HS2.out.low.trans (HO3.out.below q0 (by omega))⟩
  | false =>
    have hnx : nextT l k bs x = bs := by unfold nextT; rw [if_neg (by rw [hh]; decide), List.append_nil]
    rw [hnx]
    have hc := fun w h => has_calls A c l ((k : Int) + 1) w h hcl
    rw [show hasR l ((k : Int) + 1) = false from hh] at hc
    have HCC := Lib.hid hc
    clear hc hh hnx
    go_enter Tryd.func46, Tryd.ntmps46
    go_upto_region 1 with (fail)
    rw [HE.out]
    go_wp2_with (go_at_call 18; refine (HCC.out _ hC1.out).mono ?_)
    rintro e w2 ⟨rfl, hb2⟩
    have HS2 := Lib.hid (HS1.out.on hb2 hz1)
    clear hb2
    go_wp2
    go_end0
    exact ⟨rfl, HS2.out⟩
set_option maxHeartbeats 2000000 in
set_option maxRecDepth 100000 in
theorem countedS_calls (l0 f0 : Value) (w : World) (h1 : l0.oneCell' = true) (h2 : f0.oneCell' = true) (a : Option Addr) (n c : Nat) (g : Nat) (p : Value) (e1 : l0 = .slice a n c) (e2 : f0 = .func (.func g) #[] #[p]) :
    Calls Tryd.prog 25 #[l0, f0] w fun e w' => e = .returned (.func (.func 46) #[] #[.pointer (some ⟨w.heap.size + 2, 0, none⟩), .pointer (some ⟨w.heap.size, 0, none⟩), .pointer (some ⟨w.heap.size + 1, 0, none⟩)]) ∧
      w' = ((w.alloc (.cells #[l0] 24)).alloc (.cells #[f0] 56)).alloc (.cells #[.int .i64 0] 3) := by
  subst e1 e2
  go_enter Tryd.func25, Tryd.ntmps25
  go_wp2
  go_ret
  exact ⟨rfl, rfl⟩
theorem conv_one (W : World) (c : UInt8) : (convert 53 9 (.slice (some ⟨W.heap.size, 0, none⟩) 1 1)).run Tryd.prog (W.alloc (.cells #[.int .u8 (c.toNat : Int)] 5)) = .ok (.string ⟨#[c]⟩) (W.alloc (.cells #[.int .u8 (c.toNat : Int)] 5)) :=
  run_convert_bytes_back (P := Tryd.prog) (W.alloc (.cells #[.int .u8 (c.toNat : Int)] 5)) 53 9 5 ⟨W.heap.size, 0, none⟩ 1 [c] Tryd.underlying53 Tryd.underlying5 Tryd.underlying9 (fun j hj => by
    have : j = 0 := by simpa using hj
    subst this
    exact cell_one_new _ _ _ 0 _ rfl)
/-- What cuts.Fields tells. -/
def fieldsE (l : List RS) (c : UInt8) (bare : Bool) (t : List UInt8) : List UInt8 × Bool :=
  if c ∈ t then (Lib.join (pickL (hasN l) 1 (splitL (· == c) t)) [c], true) else if bare then ([], false) else (t, true)
theorem pick_map {α β : Type} (f : α → β) (p : Nat → Bool) : ∀ (l : List α) (i : Nat), pickL p i (l.map f) = (pickL p i l).map f
  | [], _ => rfl
  | x :: l, i => by
    simp only [List.map_cons, pickL]
    split <;> simp [pick_map f p l (i + 1)]
theorem tail_len (sep : UInt8) (p : Nat → Bool) : ∀ (l : List (List UInt8)) (i : Nat), (Lib.joinTail [sep] (pickL p i l)).length ≤ (Lib.joinTail [sep] l).length
  | [], _ => Nat.le_refl _
  | x :: l, i => by
    have h := tail_len sep p l (i + 1)
    have e : (Lib.joinTail [sep] (x :: l)).length = 1 + x.length + (Lib.joinTail [sep] l).length := by simp [Lib.joinTail]; omega
    simp only [pickL]
    split
    · have e2 : (Lib.joinTail [sep] (x :: pickL p (i + 1) l)).length = 1 + x.length + (Lib.joinTail [sep] (pickL p (i + 1) l)).length := by simp [Lib.joinTail]; omega
      omega
    · omega
theorem join_tail_le (sep : UInt8) (l : List (List UInt8)) : (Lib.join l [sep]).length ≤ (Lib.joinTail [sep] l).length := by
  cases l with
  | nil => exact Nat.le_refl _
  | cons x l =>
    rw [Lib.join_cons]
    have e : (Lib.joinTail [sep] (x :: l)).length = 1 + x.length + (Lib.joinTail [sep] l).length := by simp [Lib.joinTail]; omega
    rw [List.length_append]; omega
theorem tail_split (c : UInt8) (t : List UInt8) : (Lib.joinTail [c] (splitL (· == c) t)).length = t.length + 1 := by
  refine parts_ind (· == c) (C := fun t => (Lib.joinTail [c] (splitL (· == c) t)).length = t.length + 1) ?_ ?_ t
  · intro l hl
    have e : splitL (· == c) l = [l] := by unfold splitL; rw [splitL_one _ l hl]; rfl
    rw [e]; simp [Lib.joinTail]; try omega
  · intro l d r hl hd ih
    have e : splitL (· == c) l = [l] := by unfold splitL; rw [splitL_one _ l hl]; rfl
    rw [splitL_app (· == c) l r d hd, e]
    have e2 : (Lib.joinTail [c] ([l] ++ splitL (· == c) r)).length = 1 + l.length + (Lib.joinTail [c] (splitL (· == c) r)).length := by simp [Lib.joinTail]; omega
    rw [e2, ih]; simp; omega
theorem join_small (l : List RS) (c : UInt8) (t : List UInt8) : (Lib.join (pickL (hasN l) 1 (splitL (· == c) t)) [c]).length ≤ t.length + 1 :=
  Nat.le_trans (join_tail_le _ _) (Nat.le_trans (tail_len _ _ _ _) (by rw [tail_split]; exact Nat.le_refl _))
set_option maxHeartbeats 2000000 in
set_option maxRecDepth 100000 in
theorem fields_calls (s : ByteArray) (hs : s.size ≤ 10000000) (A : Option Addr) (c : Nat) (l : List RS) (ch : UInt8) (bare : Bool) (w : World) (hE : w.ShapedOpen Tryd.prog) (hr : Kd.C k34 w A l.length l) (hcl : l.length ≤ c) :
    Calls Tryd.prog 12 #[.string s, .slice A l.length c, .int .u8 (ch.toNat : Int), .bool bare] w fun e w' => e = .returned (.tuple #[.string ⟨(fieldsE l ch bare s.data.toList).1.toArray⟩, .bool (fieldsE l ch bare s.data.toList).2]) ∧ Below w.heap.size w w' := by
  have HR := Lib.hid hr
  have HE := Lib.hid hE
  clear hr hE
  have hcv := fun (W : World) => conv_one W ch
  by_cases hin : ch ∈ s.data.toList
  · have hd : decide (ch ∈ s.data.toList) = true := decide_eq_true hin
    have hfe : fieldsE l ch bare s.data.toList = (Lib.join (pickL (hasN l) 1 (splitL (· == ch) s.data.toList)) [ch], true) := by unfold fieldsE; rw [if_pos hin]
    rw [hfe]
    have hct := fun (W : World) => contains_calls1 s ch W
    rw [hd] at hct
    have HCT := Lib.hid hct
    clear hd hfe hct hin
    obtain ⟨L, hL⟩ : ∃ L, partsAt ch s = L := ⟨_, rfl⟩
    have hLle := parts_le ch s
    have hsp := fun (W : World) h => split_calls1 s ch W h (by omega)
    rw [hL] at hLle
    simp only [hL] at hsp
    have HSP := Lib.hid hsp
    have HL := Lib.hid hL
    clear hsp hL
    go_enter Tryd.func12, Tryd.ntmps12
    go_wp2_with (first | (go_at_call 24; refine (HCT.out _).mono ?_; rintro e w' ⟨rfl, rfl⟩) | (go_at_call 25; refine (countedS_calls _ _ _ rfl rfl _ _ _ _ _ rfl rfl).mono ?_; rintro e w' ⟨rfl, rfl⟩))
    clear hcv
    obtain ⟨W1, hW1⟩ : ∃ W1, w.alloc (Obj.cells #[Value.int IntKind.u8 (ch.toNat : Int)] 5) = W1 := ⟨_, rfl⟩
    have z1 : W1.heap.size = w.heap.size + 1 := by rw [← hW1]; simp
    have hB1 : Below w.heap.size w W1 := by rw [← hW1]; exact bal (Below.refl _ _) _
    rw [show w.heap.size + 1 = W1.heap.size from z1.symm, hW1]
    clear hW1
    obtain ⟨W4, hW4⟩ : ∃ W4, ((((W1.alloc (Obj.cells #[Value.slice none 0 0] 40)).alloc (Obj.cells #[Value.slice A l.length c] 24)).alloc (Obj.cells #[Value.func (Fn.func 26) #[] #[Value.pointer (some { block := W1.heap.size, off := 0 })]] 56)).alloc (Obj.cells #[Value.int IntKind.i64 0] 3)) = W4 := ⟨_, rfl⟩
    have z4 : W4.heap.size = W1.heap.size + 4 := by rw [← hW4]; simp
    have b0 : Boxed W4 W1.heap.size 40 (.slice none 0 0) := by
      rw [← hW4]; exact (((Boxed.new W1 _ _).alloc _).alloc _).alloc _
    have b1 : Boxed W4 (W1.heap.size + 1) 24 (.slice A l.length c) := by
      rw [← hW4]
      have := Boxed.new (W1.alloc (Obj.cells #[Value.slice none 0 0] 40)) 24 (Value.slice A l.length c)
      rw [World.size_alloc] at this
      exact (this.alloc _).alloc _
    have b2 : Boxed W4 (W1.heap.size + 1 + 1) 56 (.func (.func 26) #[] #[.pointer (some ⟨W1.heap.size, 0, none⟩)]) := by
      rw [← hW4]
      have := Boxed.new ((W1.alloc (Obj.cells #[Value.slice none 0 0] 40)).alloc (Obj.cells #[Value.slice A l.length c] 24)) 56 (.func (.func 26) #[] #[.pointer (some ⟨W1.heap.size, 0, none⟩)])
      rw [World.size_alloc, World.size_alloc] at this
      exact this.alloc _
    have b3 : Boxed W4 (W1.heap.size + 1 + 2) 3 (.int .i64 0) := by
      rw [← hW4]
      have := Boxed.new (((W1.alloc (Obj.cells #[Value.slice none 0 0] 40)).alloc (Obj.cells #[Value.slice A l.length c] 24)).alloc (Obj.cells #[Value.func (Fn.func 26) #[] #[Value.pointer (some { block := W1.heap.size, off := 0 })]] 56)) 3 (.int .i64 0)
      rw [World.size_alloc, World.size_alloc, World.size_alloc] at this
      exact this
    have hB4 : Below w.heap.size w W4 := by rw [← hW4]; exact bth hB1 (bal (bal (bal (bal (Below.refl _ _) _) _) _) _)
    rw [hW4]
    have HE4 := Lib.hid (shaped_below HE.out hB4)
    have HB4 := Lib.hid hB4
    have HX := Lib.hid (And.intro b0 (And.intro b1 (And.intro b2 b3)))
    have HZ := Lib.hid (And.intro z1 z4)
    have hz1 : w.heap.size ≤ W1.heap.size := by omega
    clear hW4 b0 b1 b2 b3 hB4 z1 z4 hB1
    go_wp2_with (go_at_call 27; refine (HSP.out _ HE4.out).mono ?_)
    rintro e Wb ⟨rfl, hWb⟩
    have hsb : Wb.heap.size = W4.heap.size + 1 := by rw [hWb]; simp
    have hold : ∀ i, i < W4.heap.size → Wb.heap[i]? = W4.heap[i]? := fun i hi => by rw [hWb]; exact Lib.alloc_old _ _ _ hi
    have hnew : Kd.C Kd.string Wb (some ⟨W4.heap.size, 0, none⟩) L.length L := by rw [hWb]; exact C_strs W4 9 L (by omega)
    have hBb : Below w.heap.size w Wb := by rw [hWb]; exact bal HB4.out _
    have hS0 : Hid (CSs w Wb (Wb.heap.size) W1.heap.size (W1.heap.size + 1 + 2) 0 (strs (pickL (hasN l) 1 (L.take 0))) Wb) := by
      have hz4 := HZ.out.2
      exact Lib.hid ⟨(hold _ (by omega)).trans HX.out.2.2.2, ⟨_, (hold _ (by omega)).trans HX.out.1, World.ownsRow_nil _ _ _ _⟩, fun _ _ _ _ => rfl, Nat.le_refl _, hBb⟩
    have HXL := Lib.hid (show Boxed Wb (W1.heap.size + 1) 24 (.slice A l.length c) from (hold _ (by have := HZ.out.2; omega)).trans HX.out.2.1)
    have HD := Lib.hid (show Boxed Wb (W1.heap.size + 1 + 1) 56 (.func (.func 26) #[] #[.pointer (some ⟨W1.heap.size, 0, none⟩)]) from (hold _ (by have := HZ.out.2; omega)).trans HX.out.2.2.1)
    have HNEW := Lib.hid hnew
    have HSB := Lib.hid hsb
    clear hWb hsb hold hnew hBb
    go_wp2
    go_loopw [31] (fun i wr => ∃ k : Nat, k ≤ L.length ∧ i = .int .i64 k ∧ Hid (CSs w Wb (Wb.heap.size) W1.heap.size (W1.heap.size + 1 + 2) k (strs (pickL (hasN l) 1 (L.take k))) wr)) (fun i _ => L.length - (intOf i).toNat)
    case atStart => exact ⟨0, Nat.zero_le _, rfl, hS0⟩
    case round =>
      obtain ⟨k, hk, rfl, hrr⟩ := hrel
      by_cases hlt : k < L.length
      · have hcell : wr.cell? ⟨W4.heap.size, k, none⟩ = some (.string L[k]) := by
          obtain ⟨ad, ea, ec⟩ := C_at HNEW.out (Below.refl _ _) k hlt
          injection ea with ea
          subst ea
          rw [add_plain] at ec
          have hz := HZ.out
          have hy := HSB.out
          exact (World.cell?_of_block (hrr.out.same W4.heap.size (by omega) (by omega) (by omega))).trans ec
        have hst := Lib.hid (show strs (pickL (hasN l) 1 (L.take (k + 1))) = nextT l k (strs (pickL (hasN l) 1 (L.take k))) L[k] by
          unfold nextT
          rw [List.take_succ_eq_append_getElem hlt, pick_snoc, List.length_take, Nat.min_eq_left (by omega), Nat.add_comm 1 k]
          split
          · simp [strs]
          · simp [strs])
        have hlen : (strs (pickL (hasN l) 1 (L.take k))).length + 1 ≤ 100000000 := by
          have := pick_len (hasN l) (L.take k) 1
          rw [List.length_take] at this
          rw [strs_length]; omega
        have HLEN := Lib.hid hlen
        clear hlen
        go_wp2_with (go_at_call 46; refine (countedS1 w Wb Wb.heap.size W1.heap.size (W1.heap.size + 1 + 2) (W1.heap.size + 1) (W1.heap.size + 1 + 1) A c l k _ _ _ HR.out hcl hrr.out HXL.out HD.out (by omega) HLEN.out (by omega) (by omega) (by omega) (by omega) (by have := HZ.out; have := HSB.out; omega)).mono ?_)
        rintro e w2 ⟨rfl, hn2⟩
        have HN2 := Lib.hid hn2
        clear hn2
        go_wp2
        go_roundw
        case rel => exact ⟨k + 1, by omega, by go_num, Lib.hid (by rw [hst.out]; exact HN2.out)⟩
        case measure => simp [intOf]; omega
      · obtain rfl : k = L.length := by omega
        rw [List.take_length] at hrr
        obtain ⟨v, hv, hrow⟩ := hrr.out.o
        have hlow := Lib.hid hrr.out.low
        have hc := hv.cell
        obtain ⟨P, hP⟩ : ∃ P, pickL (hasN l) 1 L = P := ⟨_, rfl⟩
        have hPl : P.length ≤ L.length := by rw [← hP]; exact pick_len _ _ _
        rw [hP] at hrow
        have hjl : Lib.join (P.map (·.data.toList)) [ch] = Lib.join (pickL (hasN l) 1 (splitL (· == ch) s.data.toList)) [ch] := by
          rw [← hP, ← HL.out]
          unfold partsAt
          rw [pick_map, List.map_map]
          congr 1
          conv => rhs; rw [← List.map_id (pickL (hasN l) 1 (splitL (· == ch) s.data.toList))]
          congr 1
        have hjs := join_small l ch s.data.toList
        have HROW := Lib.hid hrow
        have HJL := Lib.hid hjl
        have HJS := Lib.hid hjs
        clear hrow hv hjl hjs
        rw [strs_length] at HROW
        rcases P with _ | ⟨p0, P⟩
        · have hv0 : v = .slice none 0 0 ∨ ∃ g cap, v = .slice (some ⟨g, 0, none⟩) 0 cap := by
            rcases HROW.out.2 with ⟨h1, _⟩ | ⟨g, cap, cur, h1, _⟩
            · exact .inl h1
            · exact .inr ⟨g, cap, h1⟩
          have hj0 : Lib.join (pickL (hasN l) 1 (splitL (· == ch) s.data.toList)) [ch] = [] := by rw [← HJL.out]; rfl
          have HJ0 := Lib.hid hj0
          clear hj0
          rcases hv0 with rfl | ⟨g, cap, rfl⟩
          · go_wp2_with (go_at_call 28; refine (Tryd.strings_Join_none _ _ _ _).mono ?_; rintro e w' ⟨rfl, rfl⟩)
            go_ret2
            exact ⟨by rw [HJ0.out]; rfl, hlow.out⟩
          · go_wp2_with (go_at_call 28; refine (Tryd.strings_Join_none _ _ _ _).mono ?_; rintro e w' ⟨rfl, rfl⟩)
            go_ret2
            exact ⟨by rw [HJ0.out]; rfl, hlow.out⟩
        · obtain ⟨g, cap, rfl⟩ : ∃ g cap, v = .slice (some ⟨g, 0, none⟩) (P.length + 1) cap := ownsRow_succ HROW.out
          have hgl : g < wr.heap.size := by
            rcases HROW.out.2 with ⟨h1, _⟩ | ⟨g', cap', cur, h1, _, h2, _⟩
            · cases h1
            · injection h1 with h1 h3 h4
              injection h1 with h1
              injection h1 with h1
              subst h1
              exact blk_lt h2
          have hcap := (twin_cap HROW.out).1
          have hlen2 : (Lib.join ((p0 :: P).map (·.data.toList)) (⟨#[ch]⟩ : ByteArray).data.toList).length ≤ 140737488355328 := by
            show (Lib.join ((p0 :: P).map (·.data.toList)) [ch]).length ≤ _
            rw [HJL.out]
            have := HJS.out
            rw [← Lib.size_eq] at this
            omega
          have hcl2 : ∀ (j : Nat) x, (p0 :: P)[j]? = some x → wr.cell? ⟨g, 0 + j, none⟩ = some (.string x) := fun j x hx => by
            obtain ⟨hj, hx'⟩ := List.getElem?_eq_some_iff.1 hx
            rw [Nat.zero_add, own_at (l := p0 :: P) HROW.out j hj, hx']
          have HLEN2 := Lib.hid hlen2
          have HCL2 := Lib.hid hcl2
          clear hlen2 hcl2
          go_wp2_with (go_at_call 28; refine (Tryd.strings_Join g 0 cap (p0 :: P) ⟨#[ch]⟩ _ HCL2.out hgl (by omega) hcap HLEN2.out).mono ?_)
          rintro e w3 rfl hb3
          have HB3 := Lib.hid (bth hlow.out hb3)
          clear hb3
          go_wp2
          go_ret2
          exact ⟨by rw [← HJL.out]; rfl, HB3.out⟩
  · have hd : decide (ch ∈ s.data.toList) = false := decide_eq_false hin
    have hct := fun (W : World) => contains_calls1 s ch W
    rw [hd] at hct
    have HCT := Lib.hid hct
    cases bare with
    | true =>
      have hfe : fieldsE l ch true s.data.toList = ([], false) := by unfold fieldsE; rw [if_neg hin]; rfl
      rw [hfe]
      clear hd hfe hct hin
      go_enter Tryd.func12, Tryd.ntmps12
      go_wp2_with (go_at_call 24; refine (HCT.out _).mono ?_; rintro e w' ⟨rfl, rfl⟩)
      go_ret2
      exact ⟨rfl, bal (Below.refl _ _) _⟩
    | false =>
      have hfe : fieldsE l ch false s.data.toList = (s.data.toList, true) := by unfold fieldsE; rw [if_neg hin]; rfl
      rw [hfe]
      show Calls _ _ _ _ fun e w' => e = .returned (.tuple #[.string (bs s.data.toList), .bool true]) ∧ Below w.heap.size w w'
      rw [bs_of]
      clear hd hfe hct hin
      go_enter Tryd.func12, Tryd.ntmps12
      go_wp2_with (go_at_call 24; refine (HCT.out _).mono ?_; rintro e w' ⟨rfl, rfl⟩)
      go_ret2
      exact ⟨rfl, bal (Below.refl _ _) _⟩
end Go.Proofs.YtkedjlekeohpaaaDoor.C

/- cuts.Bytes: those bytes of a line whose places are in a list. -/
import Derived.Test.YtkedjlekeohpaaaDoorBuild2
import Derived.Test.YtkedjlekeohpaaaDoorRanges
set_option linter.unusedVariables false
set_option linter.unusedSimpArgs false
namespace Go.Proofs.YtkedjlekeohpaaaDoor.C
open Go.RowKit Go.Proofs Go.Proofs.YtkedjlekeohpaaaDoor.H Go.Proofs.YtkedjlekeohpaaaDoor.B Go.Proofs.YtkedjlekeohpaaaDoor.Q Go.Proofs.YtkedjlekeohpaaaDoorW.PrintWords

/-- Those of a list whose places, from i on, fit. -/
def pickL {α : Type} (p : Nat → Bool) : Nat → List α → List α
  | _, [] => []
  | i, x :: l => if p i then x :: pickL p (i + 1) l else pickL p (i + 1) l
theorem pick_snoc {α : Type} (p : Nat → Bool) (x : α) : ∀ (l : List α) (i : Nat), pickL p i (l ++ [x]) = pickL p i l ++ (if p (i + l.length) then [x] else [])
  | [], i => by simp only [List.nil_append, pickL, List.length_nil, Nat.add_zero]
  | y :: l, i => by
    have e : i + (y :: l).length = i + 1 + l.length := by simp; omega
    rw [List.cons_append]
    simp only [pickL]
    rw [pick_snoc p x l (i + 1), e]
    split <;> simp
theorem pick_len {α : Type} (p : Nat → Bool) : ∀ (l : List α) (i : Nat), (pickL p i l).length ≤ l.length
  | [], _ => Nat.le_refl _
  | y :: l, i => by
    have := pick_len p l (i + 1)
    simp only [pickL]
    split <;> simp <;> omega
def hasN (l : List RS) (i : Nat) : Bool := hasR l (i : Int)

def nextB (l : List RS) (k : Nat) (bs : List Value) (ch : Int) : List Value := bs ++ if hasN l (k + 1) = true then [.int .u8 ch] else []
/-- The state of a count: the builder at Bb, the counter at Bn; all else below N as in Wb. -/
structure CSt (W0 Wb : World) (N Bb Bn k : Nat) (bs : List Value) (w : World) : Prop where
  n : Boxed w Bn 3 (.int .i64 k)
  b : BAt N Bb bs w
  same : ∀ j, j < N → j ≠ Bb → j ≠ Bn → w.heap[j]? = Wb.heap[j]?
  size : N ≤ w.heap.size
  low : Below W0.heap.size W0 w

set_option maxHeartbeats 1000000 in
set_option maxRecDepth 100000 in
theorem put_calls (N Bb : Nat) (bs : List Value) (ch : Int) (w : World) (h : BAt N Bb bs w) (hlen : bs.length + 1 ≤ 140737488355328) (hbN : Bb < N) (hNw : N ≤ w.heap.size) :
    Calls Tryd.prog 32 #[.int .u8 ch, .pointer (some ⟨Bb, 0, none⟩)] w fun e w' => e = .returned (.tuple #[]) ∧ BAt N Bb (bs ++ [.int .u8 ch]) w' ∧ OnlyAt N Bb w w' := by
  have H := Lib.hid h
  clear h
  go_enter Tryd.func32, Tryd.ntmps32
  go_wp2_with (go_at_call 33; refine (writeByteN N Bb bs ch _ H.out hlen hbN hNw).mono ?_; rintro e w' ⟨rfl, h1, h2⟩; have H1 := Lib.hid h1; have H2 := Lib.hid h2; clear h1 h2)
  go_end0
  exact ⟨rfl, H1.out, H2.out⟩
theorem CSt.on {W0 Wb : World} {N Bb Bn k : Nat} {bs : List Value} {w w' : World} (h : CSt W0 Wb N Bb Bn k bs w) (hb : Below w.heap.size w w') (h0 : W0.heap.size ≤ w.heap.size) : CSt W0 Wb N Bb Bn k bs w' :=
  ⟨(hb.block Bn (Boxed.lt h.n)).trans h.n, h.b.on hb, fun j hj h1 h2 => (hb.block j (by have := h.size; omega)).trans (h.same j hj h1 h2), Nat.le_trans h.size hb.size, h.low.trans (hb.mono h0)⟩
set_option maxHeartbeats 2000000 in
set_option maxRecDepth 100000 in
theorem counted1 (W0 Wb : World) (N Bb Bn Bl Bd : Nat) (A : Option Addr) (c : Nat) (l : List RS) (k : Nat) (bs : List Value) (ch : Int) (w : World) (hr : Kd.C k34 W0 A l.length l) (hcl : l.length ≤ c)
    (hS : CSt W0 Wb N Bb Bn k bs w) (hl : Boxed Wb Bl 24 (.slice A l.length c)) (hd : Boxed Wb Bd 65 (.func (.func 32) #[] #[.pointer (some ⟨Bb, 0, none⟩)]))
    (hk : k ≤ 1000000000) (hbs : bs.length + 1 ≤ 140737488355328)
    (q0 : W0.heap.size ≤ Bb) (q1 : Bb < Bl) (q2 : Bl < Bd) (q3 : Bd < Bn) (q4 : Bn < N) :
    Calls Tryd.prog 50 #[.int .u8 ch, .pointer (some ⟨Bn, 0, none⟩), .pointer (some ⟨Bl, 0, none⟩), .pointer (some ⟨Bd, 0, none⟩)] w fun e w' => e = .returned (.tuple #[]) ∧ CSt W0 Wb N Bb Bn (k + 1) (nextB l k bs ch) w' := by
  have hlw : Boxed w Bl 24 (.slice A l.length c) := (hS.same Bl (by omega) (by omega) (by omega)).trans hl
  have hdw : Boxed w Bd 65 (.func (.func 32) #[] #[.pointer (some ⟨Bb, 0, none⟩)]) := (hS.same Bd (by omega) (by omega) (by omega)).trans hd
  have cn := hS.n.cell
  have fn := hS.n.frozen
  have hsz := hS.size
  obtain ⟨w1, e1⟩ : ∃ w1, w.setCell ⟨Bn, 0, none⟩ (.int .i64 ((k : Int) + 1)) = w1 := ⟨_, rfl⟩
  have S1 : CSt W0 Wb N Bb Bn (k + 1) bs w1 := by
    rw [← e1]
    obtain ⟨p, v, hp, hkb, ho⟩ := hS.b
    refine ⟨hS.n.set _, ⟨p, v, hp, (Below.heap_setCell _ _ _ Bb (by show Bb ≠ Bn; omega)).trans hkb, own_other ho (grownBy_setCell' w Bn _) (by
        have := Lib.ownBlock_ne ho hS.n (by decide)
        exact .inr this)⟩, fun j hj h1 h2 => (Below.heap_setCell _ _ _ j (by show j ≠ Bn; omega)).trans (hS.same j hj h1 h2), by simpa [World.setCell] using hS.size, hS.low.setCell (p := ⟨Bn, 0, none⟩) (by show W0.heap.size ≤ Bn; omega) _⟩
  have l1 := Boxed.kept hlw (grownBy_setCell' w Bn (.int .i64 ((k : Int) + 1))) (by intro e; injection e with e; omega)
  have d1 := Boxed.kept hdw (grownBy_setCell' w Bn (.int .i64 ((k : Int) + 1))) (by intro e; injection e with e; omega)
  rw [e1] at l1 d1
  have n1 : w1.cell? ⟨Bn, 0, none⟩ = some (.int .i64 ((k : Int) + 1)) := S1.n.cell
  have cl := l1.cell
  have hC1 := Lib.hid (Kd.C_below hr S1.low)
  have HS1 := Lib.hid S1
  have HD1 := Lib.hid d1
  have HE := Lib.hid e1
  have hz1 : W0.heap.size ≤ w1.heap.size := S1.low.size
  clear S1 hC1 e1 hlw hdw hl hd hS d1 l1
  have hC1 := Lib.hid (Kd.C_below hr HS1.out.low)
  clear hr
  cases hh : hasN l (k + 1) with
  | true =>
    have hnx := Lib.hid (show nextB l k bs ch = bs ++ [.int .u8 ch] by unfold nextB; rw [if_pos hh])
    have hc := fun w h => has_calls A c l ((k : Int) + 1) w h hcl
    rw [show hasR l ((k : Int) + 1) = true from hh] at hc
    have HCC := Lib.hid hc
    clear hc hh
    rw [hnx.out]
    go_enter Tryd.func50, Tryd.ntmps50
    go_upto_region 1 with (fail)
    rw [HE.out]
    go_wp2_with (go_at_call 18; refine (HCC.out _ hC1.out).mono ?_)
    rintro e w2 ⟨rfl, hb2⟩
    have HS2 := Lib.hid (HS1.out.on hb2 hz1)
    have d2 : w2.cell? ⟨Bd, 0, none⟩ = some (.func (.func 32) #[] #[.pointer (some ⟨Bb, 0, none⟩)]) := Boxed.cell ((hb2.block Bd (Boxed.lt HD1.out)).trans HD1.out)
    have hN2 := HS2.out.size
    clear hb2
    go_wp2_with (go_at_call 32; refine (put_calls N Bb bs ch _ HS2.out.b hbs (by omega) hN2).mono ?_; rintro e w3 ⟨rfl, hb3, ho3⟩; have HB3 := Lib.hid hb3; have HO3 := Lib.hid ho3; clear hb3 ho3)
    go_end0
    exact ⟨rfl, (HO3.out.same Bn q4 (by omega)).trans HS2.out.n, HB3.out, fun j hj h1 h2 => (HO3.out.same j hj h1).trans (HS2.out.same j hj h1 h2), Nat.le_trans hN2 HO3.out.size, HS2.out.low.trans (HO3.out.below q0 (by omega))⟩
  | false =>
    have hnx : nextB l k bs ch = bs := by unfold nextB; rw [if_neg (by rw [hh]; decide), List.append_nil]
    rw [hnx]
    have hc := fun w h => has_calls A c l ((k : Int) + 1) w h hcl
    rw [show hasR l ((k : Int) + 1) = false from hh] at hc
    have HCC := Lib.hid hc
    clear hc hh hnx
    go_enter Tryd.func50, Tryd.ntmps50
    go_upto_region 1 with (fail)
    rw [HE.out]
    go_wp2_with (go_at_call 18; refine (HCC.out _ hC1.out).mono ?_)
    rintro e w2 ⟨rfl, hb2⟩
    have HS2 := Lib.hid (HS1.out.on hb2 hz1)
    clear hb2
    go_wp2
    go_end0
    exact ⟨rfl, HS2.out⟩
theorem news_bytesC (W : World) (e : TypeId) (s : ByteArray) (j : Nat) (h : j < s.size) : (Lib.bytesWorld W e s).cell? ⟨W.heap.size, j, none⟩ = some (.int .u8 ((s[j]'h).toNat : Int)) := by
  rw [Lib.bytesWorld_cell W e s j h]
  have : s.data.toList.getD j 0 = s[j] := by
    rw [List.getD_eq_getElem?_getD, List.getElem?_eq_getElem (by rw [Array.length_toList]; exact h)]; rfl
  rw [this]
set_option maxHeartbeats 2000000 in
set_option maxRecDepth 100000 in
theorem counted_calls (l0 f0 : Value) (w : World) (h1 : l0.oneCell' = true) (h2 : f0.oneCell' = true) (a : Option Addr) (n c : Nat) (g : Nat) (p : Value) (e1 : l0 = .slice a n c) (e2 : f0 = .func (.func g) #[] #[p]) :
    Calls Tryd.prog 31 #[l0, f0] w fun e w' => e = .returned (.func (.func 50) #[] #[.pointer (some ⟨w.heap.size + 2, 0, none⟩), .pointer (some ⟨w.heap.size, 0, none⟩), .pointer (some ⟨w.heap.size + 1, 0, none⟩)]) ∧
      w' = ((w.alloc (.cells #[l0] 24)).alloc (.cells #[f0] 65)).alloc (.cells #[.int .i64 0] 3) := by
  subst e1 e2
  go_enter Tryd.func31, Tryd.ntmps31
  go_wp2
  go_ret
  exact ⟨rfl, rfl⟩
set_option maxHeartbeats 2000000 in
set_option maxRecDepth 100000 in
theorem bytes_calls (s : ByteArray) (hs : s.size ≤ 100000000) (A : Option Addr) (c : Nat) (l : List RS) (w : World) (hr : Kd.C k34 w A l.length l) (hcl : l.length ≤ c) :
    Calls Tryd.prog 17 #[.string s, .slice A l.length c] w fun e w' => e = .returned (.string ⟨(pickL (hasN l) 1 s.data.toList).toArray⟩) ∧ Below w.heap.size w w' := by
  have HR := Lib.hid hr
  clear hr
  have hcv := fun (W : World) (s : ByteArray) => Lib.run_convert_string_bytes (P := Tryd.prog) W 9 53 5 s Tryd.underlying9 Tryd.underlying53 Tryd.underlying5
  go_enter Tryd.func17, Tryd.ntmps17
  go_wp2_with (go_at_call 31; refine (counted_calls _ _ _ rfl rfl _ _ _ _ _ rfl rfl).mono ?_; rintro e w' ⟨rfl, rfl⟩)
  obtain ⟨W4, hW4⟩ : ∃ W4, ((((w.alloc (Obj.cells #[Value.pointer none, Value.slice none 0 0] 64)).alloc (Obj.cells #[Value.slice A l.length c] 24)).alloc (Obj.cells #[Value.func (Fn.func 32) #[] #[Value.pointer (some { block := w.heap.size, off := 0 })]] 65)).alloc (Obj.cells #[Value.int IntKind.i64 0] 3)) = W4 := ⟨_, rfl⟩
  have z4 : W4.heap.size = w.heap.size + 1 + 1 + 1 + 1 := by rw [← hW4]; simp
  have b0 : W4.heap[w.heap.size]? = some (.cells #[.pointer none, .slice none 0 0] 64 (0, 0)) := by
    rw [← hW4, Lib.alloc_old _ _ _ (by simp <;> omega), Lib.alloc_old _ _ _ (by simp <;> omega), Lib.alloc_old _ _ _ (by simp <;> omega)]; exact World.alloc_heap_new w _
  have b1 : W4.heap[w.heap.size + 1]? = some (.cells #[.slice A l.length c] 24 (0, 0)) := by
    rw [← hW4, Lib.alloc_old _ _ _ (by simp <;> omega), Lib.alloc_old _ _ _ (by simp <;> omega)]
    have := World.alloc_heap_new (w.alloc (Obj.cells #[Value.pointer none, Value.slice none 0 0] 64)) (Obj.cells #[Value.slice A l.length c] 24)
    rw [World.size_alloc] at this; exact this
  have b2 : W4.heap[w.heap.size + 1 + 1]? = some (.cells #[.func (.func 32) #[] #[.pointer (some ⟨w.heap.size, 0, none⟩)]] 65 (0, 0)) := by
    rw [← hW4, Lib.alloc_old _ _ _ (by simp)]
    have := World.alloc_heap_new ((w.alloc (Obj.cells #[Value.pointer none, Value.slice none 0 0] 64)).alloc (Obj.cells #[Value.slice A l.length c] 24)) (Obj.cells #[Value.func (Fn.func 32) #[] #[Value.pointer (some { block := w.heap.size, off := 0 })]] 65)
    rw [World.size_alloc, World.size_alloc] at this; exact this
  have b3 : W4.heap[w.heap.size + 1 + 2]? = some (.cells #[.int .i64 0] 3 (0, 0)) := by
    rw [← hW4]
    have := World.alloc_heap_new (((w.alloc (Obj.cells #[Value.pointer none, Value.slice none 0 0] 64)).alloc (Obj.cells #[Value.slice A l.length c] 24)).alloc (Obj.cells #[Value.func (Fn.func 32) #[] #[Value.pointer (some { block := w.heap.size, off := 0 })]] 65)) (Obj.cells #[Value.int IntKind.i64 0] 3)
    rw [World.size_alloc, World.size_alloc, World.size_alloc] at this; exact this
  have hB4 : Below w.heap.size w W4 := by rw [← hW4]; exact bal (bal (bal (bal (Below.refl _ _) _) _) _) _
  rw [hW4]
  obtain ⟨Wb, hWb⟩ : ∃ Wb, Lib.bytesWorld W4 5 s = Wb := ⟨_, rfl⟩
  have hsb : Wb.heap.size = W4.heap.size + 1 := by rw [← hWb]; exact Lib.bytesWorld_size _ _ _
  have hold : ∀ i, i < W4.heap.size → Wb.heap[i]? = W4.heap[i]? := fun i hi => by rw [← hWb]; exact Lib.bytesWorld_at_old W4 _ s i hi
  have hbyte : ∀ j (h : j < s.size), Wb.cell? ⟨W4.heap.size, j, none⟩ = some (.int .u8 ((s[j]'h).toNat : Int)) := fun j h => by
    have := news_bytesC W4 5 s j h
    rw [hWb] at this; exact this
  have hBb : Below w.heap.size w Wb := by rw [← hWb]; exact bby hB4 _ _
  rw [hWb]
  have hS0 : Hid (CSt w Wb (Wb.heap.size) w.heap.size (w.heap.size + 1 + 2) 0 (Lib.byteCells (pickL (hasN l) 1 (s.data.toList.take 0))) Wb) := Lib.hid ⟨(hold _ (by omega)).trans b3, ⟨_, _, .inl rfl, (hold _ (by omega)).trans b0, World.ownsRow_nil _ _ _ _⟩, fun _ _ _ _ => rfl, Nat.le_refl _, hBb⟩
  have HL := Lib.hid (show Boxed Wb (w.heap.size + 1) 24 (.slice A l.length c) from (hold _ (by omega)).trans b1)
  have HD := Lib.hid (show Boxed Wb (w.heap.size + 1 + 1) 65 (.func (.func 32) #[] #[.pointer (some ⟨w.heap.size, 0, none⟩)]) from (hold _ (by omega)).trans b2)
  have HBY := Lib.hid hbyte
  have HZ := Lib.hid (And.intro hsb z4)
  clear hW4 b0 b1 b2 b3 hB4 hWb hold hbyte hBb hsb z4
  go_loopw [15] (fun i wr => ∃ k : Nat, k ≤ s.size ∧ i = .int .i64 k ∧ Hid (CSt w Wb (Wb.heap.size) w.heap.size (w.heap.size + 1 + 2) k (Lib.byteCells (pickL (hasN l) 1 (s.data.toList.take k))) wr)) (fun i _ => s.size - (intOf i).toNat)
  case atStart => exact ⟨0, Nat.zero_le _, rfl, hS0⟩
  case round =>
    obtain ⟨k, hk, rfl, hr⟩ := hrel
    by_cases hlt : k < s.size
    · have hlt' : k < s.data.toList.length := by rw [← Lib.size_eq]; exact hlt
      have hcell : wr.cell? ⟨w.heap.size + 1 + 1 + 1 + 1, k, none⟩ = some (.int .u8 (s[k].toNat : Int)) := by
        obtain ⟨y1, y2⟩ := HZ.out
        have := HBY.out k hlt
        rw [y2] at this
        exact (World.cell?_of_block (hr.out.same (w.heap.size + 1 + 1 + 1 + 1) (by omega) (by omega) (by omega))).trans this
      have hst := Lib.hid (show Lib.byteCells (pickL (hasN l) 1 (s.data.toList.take (k + 1))) = nextB l k (Lib.byteCells (pickL (hasN l) 1 (s.data.toList.take k))) (s[k].toNat : Int) by
        unfold nextB
        rw [List.take_succ_eq_append_getElem hlt', pick_snoc, List.length_take, Nat.min_eq_left (by omega), Nat.add_comm 1 k]
        split
        · simp [Lib.byteCells]; rfl
        · simp [Lib.byteCells])
      have hlen : (Lib.byteCells (pickL (hasN l) 1 (s.data.toList.take k))).length + 1 ≤ 140737488355328 := by
        have := pick_len (hasN l) (s.data.toList.take k) 1
        rw [List.length_take] at this
        rw [Lib.byteCells_length]; omega
      have HLEN := Lib.hid hlen
      clear hlen
      go_wp2_with (go_at_call 50; refine (counted1 w Wb Wb.heap.size w.heap.size (w.heap.size + 1 + 2) (w.heap.size + 1) (w.heap.size + 1 + 1) A c l k _ _ _ HR.out hcl hr.out HL.out HD.out (by omega) HLEN.out (by omega) (by omega) (by omega) (by omega) (by have := HZ.out; omega)).mono ?_)
      rintro e w2 ⟨rfl, hn2⟩
      have HN2 := Lib.hid hn2
      clear hn2
      go_wp2
      go_roundw
      case rel => exact ⟨k + 1, by omega, by go_num, Lib.hid (by rw [hst.out]; exact HN2.out)⟩
      case measure => simp [intOf]; omega
    · obtain rfl : k = s.size := by omega
      have e : s.data.toList.take s.size = s.data.toList := by rw [Lib.size_eq, List.take_length]
      rw [e] at hr
      have hz := hr.out.low.size
      have hb := Lib.hid (hr.out.b.is (by have := HZ.out; omega))
      have hlb : w.heap.size ≤ wr.heap.size := hz
      go_wp2_with (go_at_call 34; refine (Tryd.Builder_String_any w.heap.size w.heap.size _ _ hb.out hlb).mono ?_)
      rintro e w1 ⟨rfl, hb1⟩
      go_wp2
      go_ret
      exact ⟨rfl, hr.out.low.trans hb1⟩
end Go.Proofs.YtkedjlekeohpaaaDoor.C

/- PermsTell: the walk of the law, and its plain part. -/
import Derived.Test.YtkgppbdelggncaaTwinN
import Derived.Test.YtkgppbdelggncaaQx1
import Derived.Test.YtkgppbdelggncaaMay
import Derived.Test.YtkgppbdelggncaaEvs
set_option linter.unusedVariables false
set_option linter.unusedSimpArgs false
namespace Go.Proofs.Ytkgppbdelggncaa.P
open Go.RowKit Go.Proofs.Ytkgppbdelggncaa.Q Go.Proofs.Ytkgppbdelggncaa.H Go.Proofs.YtkgppbdelggncaaW.PrintWords

theorem ofInt_wrap (X : BitVec 64) : BitVec.ofInt 64 (IntKind.i64.wrap (X.toNat : Int)) = X := by
  apply BitVec.eq_of_toNat_eq
  rw [BitVec.toNat_ofInt, IntKind.wrap_i64]
  have := X.isLt
  omega
theorem and7 (a what : Int) (h1 : 1 ≤ what) (h7 : what ≤ 7) : bits .and .i64 (bits .and .i64 a 7) what = bits .and .i64 a what := by
  show IntKind.i64.wrap ((BitVec.ofInt 64 (IntKind.i64.wrap ((BitVec.ofInt 64 a &&& BitVec.ofInt 64 7).toNat : Int)) &&& BitVec.ofInt 64 what).toNat : Int) = IntKind.i64.wrap ((BitVec.ofInt 64 a &&& BitVec.ofInt 64 what).toNat : Int)
  rw [ofInt_wrap, BitVec.and_assoc]
  have e : BitVec.ofInt 64 7 &&& BitVec.ofInt 64 what = BitVec.ofInt 64 what := by
    obtain ⟨n, rfl⟩ := Int.eq_ofNat_of_zero_le (show 0 ≤ what by omega)
    have : n = 1 ∨ n = 2 ∨ n = 3 ∨ n = 4 ∨ n = 5 ∨ n = 6 ∨ n = 7 := by omega
    rcases this with rfl | rfl | rfl | rfl | rfl | rfl | rfl <;> decide
  rw [e]
theorem refMay_f (k m u g ln t : Int) (l : List Int) (s : ByteArray) (es : List ES) (pa eu eg ek ed what : Int) : toolchestref13_May.f 1 k m u g ln t l s es pa eu eg ek ed what = some (mayP k m u g eu eg what) := by
  unfold toolchestref13_May.f mayP
  by_cases h1 : what < 1
  · rw [if_pos h1, if_pos h1]; rfl
  rw [if_neg h1, if_neg h1]
  by_cases h2 : 7 < what
  · rw [if_pos h2, if_pos h2]; rfl
  rw [if_neg h2, if_neg h2]
  simp only [toolchestref13_May.j0]
  by_cases h3 : k = 0
  · subst h3; rfl
  rw [if_neg (by simpa using h3), if_neg h3]
  have n1 : 1 ≤ what := by omega
  have n7 : what ≤ 7 := by omega
  by_cases h4 : eu = 0
  · rw [if_pos h4, if_pos h4]
    split <;> (try split) <;> rfl
  rw [if_neg h4, if_neg h4]
  by_cases h5 : eu = u
  · rw [if_pos h5, if_pos h5, and7 _ _ n1 n7]
  rw [if_neg h5, if_neg h5]
  by_cases h6 : eg = g
  · rw [if_pos h6, if_pos h6, and7 _ _ n1 n7]
  rw [if_neg h6, if_neg h6, and7 _ _ n1 n7]
theorem refOwns_f (k m u g ln t : Int) (l : List Int) (s : ByteArray) (es : List ES) (pa eu eg ek ed : Int) : toolchestref13_Owns.f k m u g ln t l s es pa eu eg ek ed = some (eu == 0 || eu == u) := by
  unfold toolchestref13_Owns.f
  by_cases h : eu = 0
  · rw [if_pos h]; subst h; rfl
  · rw [if_neg h]
    have : (eu == 0) = false := by simpa using h
    rw [this]; rfl
theorem rdE_at (l : List ES) (i : Nat) (h : i < l.length) : rd_T58 l (i : Int) = l[i] := by unfold rd_T58; rw [List.getD_eq_getElem?_getD, Int.toNat_natCast, List.getElem?_eq_getElem h]; rfl
theorem size_loop (l : List ES) (hl : l.length ≤ 5864062014806) (hs : ∀ x ∈ l, x.f0.size ≤ 140737488351232) : ∀ (d i : Nat) (n : Nat), i + d = l.length → l.length ≤ n → n ≤ 140737489399999 + l.length → ∃ r : Nat, l.length ≤ r ∧ r ≤ 281474976710656 ∧ Ev (fun k => toolchestlaw01_EntriesSize.l0 k l (n : Int) (i : Int)) (r : Int) := by
  intro d
  induction d with
  | zero =>
    intro i n hi h1 h2
    refine ⟨n, h1, by omega, Ev.now fun k => ?_⟩
    simp only [toolchestlaw01_EntriesSize.l0]
    rw [if_neg (not_nat_lt (by omega))]
  | succ d ih =>
    intro i n hi h1 h2
    have hlt : i < l.length := by omega
    by_cases hn : n ≤ 1048576
    · have hx := hs l[i] (List.getElem_mem hlt)
      have hw := wrap_add n l[i].f0.size (by omega)
      have hw1 := wrap_one i (by omega)
      obtain ⟨r, a, b, c⟩ := ih (i + 1) (n + l[i].f0.size) (by omega) (by omega) (by omega)
      refine ⟨r, a, b, c.step fun k hk => ?_⟩
      simp only [toolchestlaw01_EntriesSize.l0]
      rw [if_pos (nat_lt hlt), if_pos (by omega), if_pos (nat_nn i), rdE_at l i hlt, hw, hw1]
      exact hk
    · refine ⟨n, h1, by omega, Ev.now fun k => ?_⟩
      simp only [toolchestlaw01_EntriesSize.l0]
      rw [if_pos (nat_lt hlt), if_neg (by omega)]
theorem nodeSize_f (k0 m u g ln t : Int) (l : List Int) (s : ByteArray) (es : List ES) (pa : Int) (hl : l.length ≤ 140737488351232) (hs : s.size ≤ 140737488351232) (he : es.length ≤ 5864062014806) (hes : ∀ x ∈ es, x.f0.size ≤ 140737488351232) :
    ∃ r : Nat, Ev (fun k => toolchestlaw01_NodeSize.f k k0 m u g ln t l s es pa) (r : Int) ∧ (r ≤ 100000 → l.length ≤ 100000 ∧ es.length ≤ 100000) := by
  have w1 : wrap64 (1 + (s.size : Int)) = ((1 + s.size : Nat) : Int) := by unfold wrap64; omega
  have e1 : toolchestlaw01_BytesSize.f l = some (l.length : Int) := rfl
  by_cases h1 : 1 + s.size ≤ 1048576
  · have w2 := wrap_add (1 + s.size) l.length (by omega)
    by_cases h2 : 1 + s.size + l.length ≤ 1048576
    · obtain ⟨r, a, b, c⟩ := size_loop es he hes es.length 0 es.length (Nat.zero_add _) (Nat.le_refl _) (by omega)
      refine ⟨1 + s.size + l.length + r, c.map fun k hk => ?_, fun hr => ⟨by omega, by omega⟩⟩
      have hk' : toolchestlaw01_EntriesSize.f k es = some (r : Int) := hk
      unfold toolchestlaw01_NodeSize.f
      rw [w1, if_pos (by omega), e1, Option.bind_some, w2, if_pos (by omega), hk', Option.bind_some, wrap_add _ r (by omega)]
    · refine ⟨1 + s.size + l.length, ⟨0, fun k _ => ?_⟩, fun hr => by omega⟩
      show toolchestlaw01_NodeSize.f k k0 m u g ln t l s es pa = _
      unfold toolchestlaw01_NodeSize.f
      rw [w1, if_pos (by omega), e1, Option.bind_some, w2, if_neg (by omega)]
  · refine ⟨1 + s.size, ⟨0, fun k _ => ?_⟩, fun hr => by omega⟩
    show toolchestlaw01_NodeSize.f k k0 m u g ln t l s es pa = _
    unfold toolchestlaw01_NodeSize.f
    rw [w1, if_neg (by omega)]

/-- Three blocks: the node, who asks, the node's twin. -/
structure P3 (w : World) (k m u g ln t : Int) (A : Option Addr) (l : List Int) (z : Nat) (s : ByteArray) (B : Option Addr) (es : List ES) (y : Nat) (pa eu eg ek ed : Int) (b1 g1 c1 b2 g2 c2 Bx : Nat) (W : World) : Prop where
  a : W.heap[w.heap.size]? = some (.cells #[.int .u8 k, .int .i64 m, .int .i64 u, .int .i64 g, .int .i64 ln, .int .i64 t, .slice A l.length z, .string s, .slice B es.length y, .int .i64 pa] 26 (0, 0))
  b : W.heap[w.heap.size + 1]? = some (.cells #[.int .i64 eu, .int .i64 eg, .int .i64 ek, .int .i64 ed] 28 (0, 0))
  c : W.heap[Bx]? = some (.cells #[.int .u8 k, .int .i64 m, .int .i64 u, .int .i64 g, .int .i64 ln, .int .i64 t, .slice (some ⟨g1, 0, none⟩) l.length c1, .string s, .slice (some ⟨g2, 0, none⟩) es.length c2, .int .i64 pa] 26 (0, 0))
  o1 : W.ownsRow b1 5 1 (.slice (some ⟨g1, 0, none⟩) (l.length + 1) c1) (l.length + 1) (bys (l ++ [77]))
  o2 : W.ownsRow b2 58 2 (.slice (some ⟨g2, 0, none⟩) (es.length + 1) c2) (es.length + 1) (ens (es ++ [spareE]))
  low : Below w.heap.size w W
section
variable {w W W' w' : World} {k m u g ln t : Int} {A : Option Addr} {l : List Int} {z : Nat} {s : ByteArray} {B : Option Addr} {es : List ES} {y : Nat} {pa eu eg ek ed : Int} {b1 g1 c1 b2 g2 c2 Bx : Nat}
theorem P3.on (h : P3 w k m u g ln t A l z s B es y pa eu eg ek ed b1 g1 c1 b2 g2 c2 Bx W) (b : Below W.heap.size W W') : P3 w k m u g ln t A l z s B es y pa eu eg ek ed b1 g1 c1 b2 g2 c2 Bx W' :=
  ⟨(b.block _ (blk_lt h.a)).trans h.a, (b.block _ (blk_lt h.b)).trans h.b, (b.block _ (blk_lt h.c)).trans h.c, pw_own_below h.o1 b, pw_own_below h.o2 b, bth h.low b⟩
theorem P3.drew (h : P3 w k m u g ln t A l z s B es y pa eu eg ek ed b1 g1 c1 b2 g2 c2 Bx W) : P3 w k m u g ln t A l z s B es y pa eu eg ek ed b1 g1 c1 b2 g2 c2 Bx W.drew := h.on (bdr (Below.refl _ _))
theorem P3.all (h : P3 w k m u g ln t A l z s B es y pa eu eg ek ed b1 g1 c1 b2 g2 c2 Bx w') : P3 w k m u g ln t A l z s B es y pa eu eg ek ed b1 g1 c1 b2 g2 c2 Bx w' ∧ (w'.cell? ⟨w.heap.size, 0, none⟩ = some (.int .u8 k) ∧ w'.cell? ⟨w.heap.size, 1, none⟩ = some (.int .i64 m) ∧ w'.cell? ⟨w.heap.size, 2, none⟩ = some (.int .i64 u) ∧ w'.cell? ⟨w.heap.size, 3, none⟩ = some (.int .i64 g) ∧ w'.cell? ⟨w.heap.size, 4, none⟩ = some (.int .i64 ln) ∧ w'.cell? ⟨w.heap.size, 5, none⟩ = some (.int .i64 t) ∧ w'.cell? ⟨w.heap.size, 6, none⟩ = some (.slice A l.length z) ∧ w'.cell? ⟨w.heap.size, 7, none⟩ = some (.string s) ∧ w'.cell? ⟨w.heap.size, 8, none⟩ = some (.slice B es.length y) ∧ w'.cell? ⟨w.heap.size, 9, none⟩ = some (.int .i64 pa)) ∧ (w'.cell? ⟨w.heap.size + 1, 0, none⟩ = some (.int .i64 eu) ∧ w'.cell? ⟨w.heap.size + 1, 1, none⟩ = some (.int .i64 eg) ∧ w'.cell? ⟨w.heap.size + 1, 2, none⟩ = some (.int .i64 ek) ∧ w'.cell? ⟨w.heap.size + 1, 3, none⟩ = some (.int .i64 ed)) ∧ (w'.cell? ⟨Bx, 0, none⟩ = some (.int .u8 k) ∧ w'.cell? ⟨Bx, 1, none⟩ = some (.int .i64 m) ∧ w'.cell? ⟨Bx, 2, none⟩ = some (.int .i64 u) ∧ w'.cell? ⟨Bx, 3, none⟩ = some (.int .i64 g) ∧ w'.cell? ⟨Bx, 4, none⟩ = some (.int .i64 ln) ∧ w'.cell? ⟨Bx, 5, none⟩ = some (.int .i64 t) ∧ w'.cell? ⟨Bx, 6, none⟩ = some (.slice (some ⟨g1, 0, none⟩) l.length c1) ∧ w'.cell? ⟨Bx, 7, none⟩ = some (.string s) ∧ w'.cell? ⟨Bx, 8, none⟩ = some (.slice (some ⟨g2, 0, none⟩) es.length c2) ∧ w'.cell? ⟨Bx, 9, none⟩ = some (.int .i64 pa)) :=
  ⟨h, ⟨(blk_cell h.a 0).trans rfl, (blk_cell h.a 1).trans rfl, (blk_cell h.a 2).trans rfl, (blk_cell h.a 3).trans rfl, (blk_cell h.a 4).trans rfl, (blk_cell h.a 5).trans rfl, (blk_cell h.a 6).trans rfl, (blk_cell h.a 7).trans rfl, (blk_cell h.a 8).trans rfl, (blk_cell h.a 9).trans rfl⟩, ⟨(blk_cell h.b 0).trans rfl, (blk_cell h.b 1).trans rfl, (blk_cell h.b 2).trans rfl, (blk_cell h.b 3).trans rfl⟩, ⟨(blk_cell h.c 0).trans rfl, (blk_cell h.c 1).trans rfl, (blk_cell h.c 2).trans rfl, (blk_cell h.c 3).trans rfl, (blk_cell h.c 4).trans rfl, (blk_cell h.c 5).trans rfl, (blk_cell h.c 6).trans rfl, (blk_cell h.c 7).trans rfl, (blk_cell h.c 8).trans rfl, (blk_cell h.c 9).trans rfl⟩⟩
end
set_option maxHeartbeats 8000000 in
set_option maxRecDepth 100000 in
theorem permsTell (k m u g ln t : Int) (A : Option Addr) (z : Nat) (l : List Int) (s : ByteArray) (B : Option Addr) (y : Nat) (es : List ES) (pa eu eg ek ed what : Int) (w : World)
    (hr : Kd.C (Kd.int .u8) w A l.length l) (hc : l.length ≤ z) (hr' : Kd.C k58 w B es.length es) (hc' : es.length ≤ y) (hl : l.length ≤ 140737488351232) (hs : s.size ≤ 140737488351232) (he : es.length ≤ 5864062014806) (hes : ∀ x ∈ es, x.f0.size ≤ 140737488351232) :
    Calls Try.prog 3 #[.agg #[.int .u8 k, .int .i64 m, .int .i64 u, .int .i64 g, .int .i64 ln, .int .i64 t, .slice A l.length z, .string s, .slice B es.length y, .int .i64 pa], .agg #[.int .i64 eu, .int .i64 eg, .int .i64 ek, .int .i64 ed], .int .i64 what] w fun e w' => e = .returned (.bool true) ∧ Below w.heap.size w w' := by
  obtain ⟨r, hr1, hr2⟩ := nodeSize_f k m u g ln t l s es pa hl hs he hes
  obtain ⟨kn, hkn⟩ := hr1.at_
  have HR := Lib.hid hr
  have HE := Lib.hid hr'
  have KN := Lib.hid hkn
  have hA : (w.alloc (.cells #[.int .u8 k, .int .i64 m, .int .i64 u, .int .i64 g, .int .i64 ln, .int .i64 t, .slice A l.length z, .string s, .slice B es.length y, .int .i64 pa] 26)).heap[w.heap.size]? = some (.cells #[.int .u8 k, .int .i64 m, .int .i64 u, .int .i64 g, .int .i64 ln, .int .i64 t, .slice A l.length z, .string s, .slice B es.length y, .int .i64 pa] 26 (0, 0)) := World.alloc_heap_new w _
  have hW2 : ∃ W2, ((w.alloc (.cells #[.int .u8 k, .int .i64 m, .int .i64 u, .int .i64 g, .int .i64 ln, .int .i64 t, .slice A l.length z, .string s, .slice B es.length y, .int .i64 pa] 26)).alloc (.cells #[.int .i64 eu, .int .i64 eg, .int .i64 ek, .int .i64 ed] 28)) = W2 := ⟨_, rfl⟩
  obtain ⟨W2, hW2⟩ := hW2
  have ha2 : W2.heap[w.heap.size]? = some (.cells #[.int .u8 k, .int .i64 m, .int .i64 u, .int .i64 g, .int .i64 ln, .int .i64 t, .slice A l.length z, .string s, .slice B es.length y, .int .i64 pa] 26 (0, 0)) := by rw [← hW2]; exact (Lib.alloc_old _ _ _ (by simp)).trans hA
  have hb2 : W2.heap[w.heap.size + 1]? = some (.cells #[.int .i64 eu, .int .i64 eg, .int .i64 ek, .int .i64 ed] 28 (0, 0)) := by
    rw [← hW2]
    have := World.alloc_heap_new (w.alloc (.cells #[.int .u8 k, .int .i64 m, .int .i64 u, .int .i64 g, .int .i64 ln, .int .i64 t, .slice A l.length z, .string s, .slice B es.length y, .int .i64 pa] 26)) (.cells #[.int .i64 eu, .int .i64 eg, .int .i64 ek, .int .i64 ed] 28)
    rw [World.size_alloc] at this
    exact this
  have B2 := Lib.hid (show Below w.heap.size w W2 by rw [← hW2]; exact bal (bal (Below.refl _ _) _) _)
  have HA2 := Lib.hid ha2
  have HB2 := Lib.hid hb2
  have HW2 := Lib.hid hW2
  obtain ⟨a0, a1, a2, a3, a4, a5, a6, a7, a8, a9⟩ : W2.cell? ⟨w.heap.size, 0, none⟩ = some (.int .u8 k) ∧ W2.cell? ⟨w.heap.size, 1, none⟩ = some (.int .i64 m) ∧ W2.cell? ⟨w.heap.size, 2, none⟩ = some (.int .i64 u) ∧ W2.cell? ⟨w.heap.size, 3, none⟩ = some (.int .i64 g) ∧ W2.cell? ⟨w.heap.size, 4, none⟩ = some (.int .i64 ln) ∧ W2.cell? ⟨w.heap.size, 5, none⟩ = some (.int .i64 t) ∧ W2.cell? ⟨w.heap.size, 6, none⟩ = some (.slice A l.length z) ∧ W2.cell? ⟨w.heap.size, 7, none⟩ = some (.string s) ∧ W2.cell? ⟨w.heap.size, 8, none⟩ = some (.slice B es.length y) ∧ W2.cell? ⟨w.heap.size, 9, none⟩ = some (.int .i64 pa) := ⟨(blk_cell HA2.out 0).trans rfl, (blk_cell HA2.out 1).trans rfl, (blk_cell HA2.out 2).trans rfl, (blk_cell HA2.out 3).trans rfl, (blk_cell HA2.out 4).trans rfl, (blk_cell HA2.out 5).trans rfl, (blk_cell HA2.out 6).trans rfl, (blk_cell HA2.out 7).trans rfl, (blk_cell HA2.out 8).trans rfl, (blk_cell HA2.out 9).trans rfl⟩
  clear hr hr' hr1 hkn hA ha2 hb2 hW2 hs hes
  by_cases hbig : 100000 < r
  · have hgt : decide ((100000 : Int) < (r : Int)) = true := by simp; omega
    go_enter Try.func3, Try.ntmps3
    go_upto_region 1 with (fail)
    rw [HW2.out]
    go_wp2_with (first | (go_at_call 8; refine (toolchestlaw01_NodeSize.calls kn _ _ _ _ _ _ _ _ _ _ _ _ _ _ _ _ (Kd.C_below HR.out B2.out) hc (Kd.C_below HE.out B2.out) hc' KN.out).mono ?_; rintro e w3 ⟨rfl, hb3⟩; have B3 := Lib.hid (bth B2.out hb3); clear hb3) | (go_at_call 9; refine (lives_any _).mono ?_; rintro e w4 ⟨rfl, hb4⟩; have B4 := Lib.hid (bth B3.out hb4); clear hb4))
    go_ret
    exact ⟨rfl, B4.out⟩
  · obtain ⟨hl1, hl2⟩ := hr2 (by omega)
    have hgt : decide ((100000 : Int) < (r : Int)) = false := by simp; omega
    obtain ⟨i0, hi, hz0, hz1⟩ : ∃ i, Try.prog.info? 26 = some i ∧ i.size = 10 ∧ True := by
      have h0 := infoN
      cases hq : Try.prog.info? 26 with
      | none => rw [hq] at h0; cases h0
      | some i => rw [hq] at h0; exact ⟨i, rfl, Option.some.inj h0, trivial⟩
    go_enter Try.func3, Try.ntmps3
    go_upto_region 1 with (fail)
    rw [HW2.out]
    go_wp2_with (go_at_call 8; refine (toolchestlaw01_NodeSize.calls kn _ _ _ _ _ _ _ _ _ _ _ _ _ _ _ _ (Kd.C_below HR.out B2.out) hc (Kd.C_below HE.out B2.out) hc' KN.out).mono ?_)
    rintro e w3 ⟨rfl, hb3⟩
    have B3 := Lib.hid (bth B2.out hb3)
    have HA3 := Lib.hid ((hb3.block _ (blk_lt HA2.out)).trans HA2.out)
    have HB3 := Lib.hid ((hb3.block _ (blk_lt HB2.out)).trans HB2.out)
    clear hb3 a0 a1 a2 a3 a4 a5 a6 a7 a8 a9
    obtain ⟨a0, a1, a2, a3, a4, a5, a6, a7, a8, a9⟩ : w3.cell? ⟨w.heap.size, 0, none⟩ = some (.int .u8 k) ∧ w3.cell? ⟨w.heap.size, 1, none⟩ = some (.int .i64 m) ∧ w3.cell? ⟨w.heap.size, 2, none⟩ = some (.int .i64 u) ∧ w3.cell? ⟨w.heap.size, 3, none⟩ = some (.int .i64 g) ∧ w3.cell? ⟨w.heap.size, 4, none⟩ = some (.int .i64 ln) ∧ w3.cell? ⟨w.heap.size, 5, none⟩ = some (.int .i64 t) ∧ w3.cell? ⟨w.heap.size, 6, none⟩ = some (.slice A l.length z) ∧ w3.cell? ⟨w.heap.size, 7, none⟩ = some (.string s) ∧ w3.cell? ⟨w.heap.size, 8, none⟩ = some (.slice B es.length y) ∧ w3.cell? ⟨w.heap.size, 9, none⟩ = some (.int .i64 pa) := ⟨(blk_cell HA3.out 0).trans rfl, (blk_cell HA3.out 1).trans rfl, (blk_cell HA3.out 2).trans rfl, (blk_cell HA3.out 3).trans rfl, (blk_cell HA3.out 4).trans rfl, (blk_cell HA3.out 5).trans rfl, (blk_cell HA3.out 6).trans rfl, (blk_cell HA3.out 7).trans rfl, (blk_cell HA3.out 8).trans rfl, (blk_cell HA3.out 9).trans rfl⟩
    go_wp2_with (go_at_call 10; refine (twinNode k m u g ln t A z l s B y es pa _ (Kd.C_below HR.out B3.out) hc (by omega) (Kd.C_below HE.out B3.out) hc' (by omega)).mono ?_)
    rintro e w4 ⟨b1, g1, c1, b2, g2, c2, rfl, ho1, ho2, hb4⟩
    have B4 := Lib.hid (bth B3.out hb4)
    have HA4 := Lib.hid ((hb4.block _ (blk_lt HA3.out)).trans HA3.out)
    have HB4 := Lib.hid ((hb4.block _ (blk_lt HB3.out)).trans HB3.out)
    have O1 := Lib.hid ho1
    have O2 := Lib.hid ho2
    clear hb4 ho1 ho2 a0 a1 a2 a3 a4 a5 a6 a7 a8 a9
    go_wp2_with (refine wpList_store_row rfl _ _ _ rfl w4.heap.size #[.int .u8 k, .int .i64 m, .int .i64 u, .int .i64 g, .int .i64 ln, .int .i64 t, .slice (some ⟨g1, 0, none⟩) l.length c1, .string s, .slice (some ⟨g2, 0, none⟩) es.length c2, .int .i64 pa] (by rfl) (by rfl) 26 _ (World.alloc_heap_new w4 _) infoN (by rfl) (by rw [← Array.all_toList]; rfl) ?_)
    obtain ⟨W5, hW5⟩ : ∃ W5, (w4.alloc (.cells #[.int .u8 0, .int .i64 0, .int .i64 0, .int .i64 0, .int .i64 0, .int .i64 0, .slice none 0 0, .string ⟨#[]⟩, .slice none 0 0, .int .i64 0] 26)).setRow w4.heap.size #[.int .u8 k, .int .i64 m, .int .i64 u, .int .i64 g, .int .i64 ln, .int .i64 t, .slice (some ⟨g1, 0, none⟩) l.length c1, .string s, .slice (some ⟨g2, 0, none⟩) es.length c2, .int .i64 pa] = W5 := ⟨_, rfl⟩
    have hH : P3 w k m u g ln t A l z s B es y pa eu eg ek ed b1 g1 c1 b2 g2 c2 w4.heap.size W5 := by
      have hz4 := B4.out.size
      have l4 := blk_lt HA4.out
      have l4b := blk_lt HB4.out
      have hal := World.alloc_heap_new w4 (.cells #[.int .u8 0, .int .i64 0, .int .i64 0, .int .i64 0, .int .i64 0, .int .i64 0, .slice none 0 0, .string ⟨#[]⟩, .slice none 0 0, .int .i64 0] 26)
      rw [← hW5]
      have hb5 : Below w4.heap.size w4 ((w4.alloc (.cells #[.int .u8 0, .int .i64 0, .int .i64 0, .int .i64 0, .int .i64 0, .int .i64 0, .slice none 0 0, .string ⟨#[]⟩, .slice none 0 0, .int .i64 0] 26)).setRow w4.heap.size #[.int .u8 k, .int .i64 m, .int .i64 u, .int .i64 g, .int .i64 ln, .int .i64 t, .slice (some ⟨g1, 0, none⟩) l.length c1, .string s, .slice (some ⟨g2, 0, none⟩) es.length c2, .int .i64 pa]) :=
        ⟨rfl, rfl, rfl, by simp, fun i hi => (setRow_other _ _ _ _ (by omega)).trans (Lib.alloc_old _ _ _ hi)⟩
      exact ⟨(hb5.block _ l4).trans HA4.out, (hb5.block _ l4b).trans HB4.out, setRow_heap _ _ _ _ _ _ hal, pw_own_below O1.out hb5, pw_own_below O2.out hb5, bth B4.out hb5⟩
    have hRM := refMay_f k m u g ln t l s es pa eu eg ek ed what
    have hRO := refOwns_f k m u g ln t l s es pa eu eg ek ed
    obtain ⟨rm, hrm⟩ : ∃ rm, mayP k m u g eu eg what = rm := ⟨_, rfl⟩
    obtain ⟨ro, hro⟩ : ∃ ro, (eu == 0 || eu == u) = ro := ⟨_, rfl⟩
    rw [hrm] at hRM
    rw [hro] at hRO
    have HH := Lib.hid hH
    rw [hW5]
    clear hH hW5
    cases rm <;> cases ro <;> (
    have RM := Lib.hid hRM
    have RO := Lib.hid hRO
    have HM := Lib.hid hrm
    have HO := Lib.hid hro
    clear hRM hRO hrm hro
    go_region_held3 (fun w' => P3 w k m u g ln t A l z s B es y pa eu eg ek ed b1 g1 c1 b2 g2 c2 w4.heap.size w' ∧ (w'.cell? ⟨w.heap.size, 0, none⟩ = some (.int .u8 k) ∧ w'.cell? ⟨w.heap.size, 1, none⟩ = some (.int .i64 m) ∧ w'.cell? ⟨w.heap.size, 2, none⟩ = some (.int .i64 u) ∧ w'.cell? ⟨w.heap.size, 3, none⟩ = some (.int .i64 g) ∧ w'.cell? ⟨w.heap.size, 4, none⟩ = some (.int .i64 ln) ∧ w'.cell? ⟨w.heap.size, 5, none⟩ = some (.int .i64 t) ∧ w'.cell? ⟨w.heap.size, 6, none⟩ = some (.slice A l.length z) ∧ w'.cell? ⟨w.heap.size, 7, none⟩ = some (.string s) ∧ w'.cell? ⟨w.heap.size, 8, none⟩ = some (.slice B es.length y) ∧ w'.cell? ⟨w.heap.size, 9, none⟩ = some (.int .i64 pa)) ∧ (w'.cell? ⟨w.heap.size + 1, 0, none⟩ = some (.int .i64 eu) ∧ w'.cell? ⟨w.heap.size + 1, 1, none⟩ = some (.int .i64 eg) ∧ w'.cell? ⟨w.heap.size + 1, 2, none⟩ = some (.int .i64 ek) ∧ w'.cell? ⟨w.heap.size + 1, 3, none⟩ = some (.int .i64 ed)) ∧ (w'.cell? ⟨w4.heap.size, 0, none⟩ = some (.int .u8 k) ∧ w'.cell? ⟨w4.heap.size, 1, none⟩ = some (.int .i64 m) ∧ w'.cell? ⟨w4.heap.size, 2, none⟩ = some (.int .i64 u) ∧ w'.cell? ⟨w4.heap.size, 3, none⟩ = some (.int .i64 g) ∧ w'.cell? ⟨w4.heap.size, 4, none⟩ = some (.int .i64 ln) ∧ w'.cell? ⟨w4.heap.size, 5, none⟩ = some (.int .i64 t) ∧ w'.cell? ⟨w4.heap.size, 6, none⟩ = some (.slice (some ⟨g1, 0, none⟩) l.length c1) ∧ w'.cell? ⟨w4.heap.size, 7, none⟩ = some (.string s) ∧ w'.cell? ⟨w4.heap.size, 8, none⟩ = some (.slice (some ⟨g2, 0, none⟩) es.length c2) ∧ w'.cell? ⟨w4.heap.size, 9, none⟩ = some (.int .i64 pa))) (with_reducible first | assumption | exact P3.all (P3.on (show P3 w k m u g ln t A l z s B es y pa eu eg ek ed b1 g1 c1 b2 g2 c2 w4.heap.size _ ∧ _ from by assumption).1 hbq) | exact P3.all ((HH.out.drew).on hbq) | exact P3.all (HH.out.on hbq) | exact P3.all HH.out.drew | exact P3.all HH.out) ((first
    | (go_at_call 11; with_reducible refine (may_is _ HM.out).mono ?_; rintro e w' ⟨rfl, hbq⟩)
    | (go_at_call 12; with_reducible refine (toolchestref13_May.calls 1 k m u g ln t A z l s B y es pa eu eg ek ed what _ _ (Kd.C_below HR.out (by first | exact (show P3 w k m u g ln t A l z s B es y pa eu eg ek ed b1 g1 c1 b2 g2 c2 w4.heap.size _ ∧ _ from by assumption).1.low | exact HH.out.drew.low | exact HH.out.low)) hc (Kd.C_below HE.out (by first | exact (show P3 w k m u g ln t A l z s B es y pa eu eg ek ed b1 g1 c1 b2 g2 c2 w4.heap.size _ ∧ _ from by assumption).1.low | exact HH.out.drew.low | exact HH.out.low)) hc' RM.out).mono ?_; rintro e w' ⟨rfl, hbq⟩)
    | (go_at_call 13; with_reducible refine (owns_is _ HO.out).mono ?_; rintro e w' ⟨rfl, hbq⟩)
    | (go_at_call 14; with_reducible refine (toolchestref13_Owns.calls k m u g ln t A z l s B y es pa eu eg ek ed _ _ (Kd.C_below HR.out (by first | exact (show P3 w k m u g ln t A l z s B es y pa eu eg ek ed b1 g1 c1 b2 g2 c2 w4.heap.size _ ∧ _ from by assumption).1.low | exact HH.out.drew.low | exact HH.out.low)) hc (Kd.C_below HE.out (by first | exact (show P3 w k m u g ln t A l z s B es y pa eu eg ek ed b1 g1 c1 b2 g2 c2 w4.heap.size _ ∧ _ from by assumption).1.low | exact HH.out.drew.low | exact HH.out.low)) hc' RO.out).mono ?_; rintro e w' ⟨rfl, hbq⟩)
    | (go_at_call 15; with_reducible refine (leftNode k m u g ln t A z l s B y es pa b1 g1 c1 b2 g2 c2 _ (Kd.C_below HR.out (by first | exact (show P3 w k m u g ln t A l z s B es y pa eu eg ek ed b1 g1 c1 b2 g2 c2 w4.heap.size _ ∧ _ from by assumption).1.low | exact HH.out.drew.low | exact HH.out.low)) hc (Kd.C_below HE.out (by first | exact (show P3 w k m u g ln t A l z s B es y pa eu eg ek ed b1 g1 c1 b2 g2 c2 w4.heap.size _ ∧ _ from by assumption).1.low | exact HH.out.drew.low | exact HH.out.low)) hc' (by first | exact (show P3 w k m u g ln t A l z s B es y pa eu eg ek ed b1 g1 c1 b2 g2 c2 w4.heap.size _ ∧ _ from by assumption).1.o1 | exact HH.out.drew.o1 | exact HH.out.o1) (by first | exact (show P3 w k m u g ln t A l z s B es y pa eu eg ek ed b1 g1 c1 b2 g2 c2 w4.heap.size _ ∧ _ from by assumption).1.o2 | exact HH.out.drew.o2 | exact HH.out.o2)).mono ?_; rintro e w' ⟨rfl, hbq⟩)
    | (go_at_call 9; with_reducible refine (lives_any _).mono ?_; rintro e w' ⟨rfl, hbq⟩)))
    all_goals go_wp2
    all_goals go_ret
    all_goals exact ⟨rfl, (show P3 w k m u g ln t A l z s B es y pa eu eg ek ed b1 g1 c1 b2 g2 c2 w4.heap.size _ ∧ _ from by assumption).1.low⟩)
theorem PermsTell_walk {OkE : ES → Prop} (hOk : ∀ x, OkE x → x.f0.size ≤ 140737488351232) (a0_0 : Int) (a0_1 : Int) (a0_2 : Int) (a0_3 : Int) (a0_4 : Int) (a0_5 : Int) (A0_6 : Option Addr) (z0_6 : Nat) (l0_6 : List Int) (a0_7 : ByteArray) (A0_8 : Option Addr) (z0_8 : Nat) (l0_8 : List S58) (a0_9 : Int) (a1_0 : Int) (a1_1 : Int) (a1_2 : Int) (a1_3 : Int) (a2 : Int) (W : World) (ok0_0 : (Lit.int .u8 a0_0).wf = true) (ok0_1 : (Lit.int .i64 a0_1).wf = true) (ok0_2 : (Lit.int .i64 a0_2).wf = true) (ok0_3 : (Lit.int .i64 a0_3).wf = true) (ok0_4 : (Lit.int .i64 a0_4).wf = true) (ok0_5 : (Lit.int .i64 a0_5).wf = true) (hr0_6 : Kd.C (Kd.int .u8) W A0_6 l0_6.length l0_6) (hc0_6 : l0_6.length ≤ z0_6) (ok0_6 : (∀ a ∈ l0_6, (Lit.int .u8 a).wf = true) ∧ l0_6.length * 1 ≤ 140737488351232) (ok0_7 : a0_7.size ≤ 140737488351232) (hr0_8 : Kd.C k58 W A0_8 l0_8.length l0_8) (hc0_8 : l0_8.length ≤ z0_8) (ok0_8 : (∀ a ∈ l0_8, OkE a) ∧ l0_8.length * 24 ≤ 140737488351232) (ok0_9 : (Lit.int .i64 a0_9).wf = true) (ok1_0 : (Lit.int .i64 a1_0).wf = true) (ok1_1 : (Lit.int .i64 a1_1).wf = true) (ok1_2 : (Lit.int .i64 a1_2).wf = true) (ok1_3 : (Lit.int .i64 a1_3).wf = true) (ok2 : (Lit.int .i64 a2).wf = true) :
    Calls Try.prog 3 #[.agg #[.int .u8 a0_0, .int .i64 a0_1, .int .i64 a0_2, .int .i64 a0_3, .int .i64 a0_4, .int .i64 a0_5, .slice A0_6 l0_6.length z0_6, .string a0_7, .slice A0_8 l0_8.length z0_8, .int .i64 a0_9], .agg #[.int .i64 a1_0, .int .i64 a1_1, .int .i64 a1_2, .int .i64 a1_3], .int .i64 a2] W fun e W' => e = .returned (.bool true) ∧ Below W.heap.size W W' :=
  permsTell a0_0 a0_1 a0_2 a0_3 a0_4 a0_5 A0_6 z0_6 l0_6 a0_7 A0_8 z0_8 l0_8 a0_9 a1_0 a1_1 a1_2 a1_3 a2 W hr0_6 hc0_6 hr0_8 hc0_8 (by omega) ok0_7 (by omega) (fun x hx => hOk x (ok0_8.1 x hx))
end Go.Proofs.Ytkgppbdelggncaa.P

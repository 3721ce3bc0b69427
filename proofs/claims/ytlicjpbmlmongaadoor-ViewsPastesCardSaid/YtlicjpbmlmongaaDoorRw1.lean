/- TwinRows and LeftRows: a list of lists of texts, in memory of its own, with spare room. -/
import Derived.Test.YtlicjpbmlmongaaDoorTwin
import Derived.ArgAppend
import Derived.Laws.MakeOwn
import Derived.Laws.OwnMore
import Derived.Lib.JoinLaws
import Derived.Deep.RegionHeld3
set_option linter.unusedVariables false
set_option linter.unusedSimpArgs false
namespace Go.Proofs.YtlicjpbmlmongaaDoor.H
open Go.RowKit Go.Proofs.YtlicjpbmlmongaaDoorW.PrintWords

/-- A list of lists of texts that is read. -/
def RowsR (W : World) (A : Option Addr) (L : List (List ByteArray)) : Prop := ∀ i (h : i < L.length), ∃ ad Ai ci, A = some ad ∧ W.cell? (ad.add i) = some (.slice Ai L[i].length ci) ∧ L[i].length ≤ ci ∧ Kd.C Kd.string W Ai L[i].length L[i]
theorem RowsR.below {W W' : World} {A : Option Addr} {L : List (List ByteArray)} (h : RowsR W A L) (hb : Below W.heap.size W W') : RowsR W' A L := fun i hi => by
  obtain ⟨ad, Ai, ci, e, h1, h2, h3⟩ := h i hi
  exact ⟨ad, Ai, ci, e, pw_cell_below hb h1, h2, Kd.C_below h3 hb⟩
theorem rowsR_of {W : World} {A : Option Addr} {L : List (List ByteArray)} (h : Kd.C (Kd.slice 9 Kd.string) W A L.length L) : RowsR W A L := fun i hi => by
  obtain ⟨ad, e, hc⟩ := h.2.2 (by omega)
  obtain ⟨c, _, ⟨Ai, ci, rfl, h3, h4⟩, hc2⟩ := hc i L[i] (List.getElem?_eq_getElem hi)
  refine ⟨ad, Ai, ci, e, ?_, h3, h4⟩
  have := hc2 0 _ rfl
  simpa [show (Kd.slice 9 Kd.string).sz = 1 from rfl] using this
theorem infoR : (Tryd.prog.info? 25).map (fun i => (i.zero, i.size, i.bytes)) = some (some (.slice none 0 0), 1, 24) := by kernel_rfl
section
variable {P : Program} (w : World)
/-- append of one element onto a shorter cut of a row of the call's own: it is stored in its place. -/
theorem run_append_full (base : Nat) (t ty e : TypeId) (i : TypeInfo) (ht : P.underlying t = some (.slice e)) (hi : P.info? e = some i) (hsize : i.size = 1) (g k c : Nat) (ys : List Value) (u : Value) (h1 : u.oneCell' = true)
    (hown : w.ownsRow base e 1 (.slice (some ⟨g, 0, none⟩) c c) c ys) (hk : k < c) :
    (Builtin.append_ #[t, t] ty #[.slice (some ⟨g, 0, none⟩) k c, .slice (some ⟨w.heap.size, 0, none⟩) 1 1]).run P (w.alloc (.cells #[u] e)) = .ok (.slice (some ⟨g, 0, none⟩) (k + 1) c) ((w.alloc (.cells #[u] e)).setCell ⟨g, k, none⟩ u) := by
  have hown2 := World.ownsRow.alloc hown (.cells #[u] e)
  have hr := run_append_room_cells (P := P) (w.alloc (.cells #[u] e)) t ty e i ht hi g 0 k c ⟨w.heap.size, 0, none⟩ 1 1 [u] (by rw [hsize]; rfl) (by
    intro j x hj
    match j, hj with
    | 0, hj => simp at hj; subst hj; simp [Addr.add]) (by intro x hx; rw [List.mem_singleton.1 hx]; exact h1) (by omega) (by
    intro j hj
    have hj0 : j = 0 := by simpa using hj
    subst hj0
    rw [hsize]
    have hl := hown2.1
    have := hown2.cellAt k (by omega)
    have e0 : (⟨g, 0 + k * 1 + 0, none⟩ : Addr) = ⟨g, k, none⟩ := by simp
    rw [e0, this, List.getElem?_eq_getElem (by omega)]
    rfl) (by
    intro j hj
    have hj0 : j = 0 := by simpa using hj
    subst hj0
    rw [hsize]
    have e0 : (⟨g, 0 + k * 1 + 0, none⟩ : Addr) = ⟨g, k, none⟩ := by simp
    rw [e0]
    exact hown2.frozenAt k)
  rw [hr, hsize]
  simp only [Nat.zero_add, Nat.mul_one]
  rfl
theorem wp_append_full {ops : Array Oper} {rest : List Oper} {o : Oper} {a : Act} {Q : Exit → Act → World → Prop} (hgd : o.guard = none) (s x : Operand) (t : TypeId)
    (ho : o.op = .call { callee := .builtin .append, args := #[s, x], argTypes := #[t, t] })
    (base : Nat) (e : TypeId) (i : TypeInfo) (ht : P.underlying t = some (.slice e)) (hi : P.info? e = some i) (hsize : i.size = 1) (g k c : Nat) (ys zs : List Value) (u : Value) (hz : ys.set k u = zs) (h1 : u.oneCell' = true)
    (hs : a.eval s = .slice (some ⟨g, 0, none⟩) k c) (hx : a.eval x = .slice (some ⟨w.heap.size, 0, none⟩) 1 1)
    (hown : w.ownsRow base e 1 (.slice (some ⟨g, 0, none⟩) c c) c ys) (hk : k < c)
    (h : ∀ w1, w1.ownsRow base e 1 (.slice (some ⟨g, 0, none⟩) c c) c zs → w.grownBy w1 (some g) → wpList P ops Q rest (a.put o.dst (.slice (some ⟨g, 0, none⟩) (k + 1) c)) w1) :
    wpList P ops Q (o :: rest) a (w.alloc (.cells #[u] e)) := by
  subst hz
  refine wpList_plain hgd fun K hK => ?_
  have hr := run_append_full (P := P) w base t o.type e i ht hi hsize g k c ys u h1 hown hk
  have hst := (World.ownsRow.alloc hown (.cells #[u] e)).stored k u
  unfold Oper.wp execOp
  simp only [ho, resolve, invoke, builtin, Sem.run_bind, Sem.run_pure, Result.andThen_ok, List.map_toArray, List.map_cons, List.map_nil, hs, hx, hr]
  exact hK _ _ (h _ hst.1 (World.grownBy.trans (World.grownBy_alloc w _ _) hst.2))
end
theorem nil_neq (W : World) : (binOp .neq 25 (Value.slice none 0 0) (Value.slice none 0 0)).run Tryd.prog W = .ok (.bool false) W := by kernel_rfl
theorem made_rep (z : Value) (n : Nat) : (madeCells #[z] n).toList = List.replicate n z := by
  apply List.ext_getElem
  · simp [size_madeCells]
  · intro i h1 h2
    simp [madeCells, Nat.mod_one]
/-- The slices of a twin's lists. -/
def valsOf (L : List (List ByteArray)) (vs : List (Nat × Nat)) : List Value := (L.zip vs).map fun p => .slice (some ⟨p.2.1, 0, none⟩) p.1.length p.2.2
theorem valsOf_len {L : List (List ByteArray)} {vs : List (Nat × Nat)} (h : vs.length = L.length) : (valsOf L vs).length = L.length := by simp [valsOf, h]
theorem valsOf_snoc {L : List (List ByteArray)} {vs : List (Nat × Nat)} (h : vs.length = L.length) (x : List ByteArray) (p : Nat × Nat) : valsOf (L ++ [x]) (vs ++ [p]) = valsOf L vs ++ [.slice (some ⟨p.1, 0, none⟩) x.length p.2] := by
  unfold valsOf
  rw [List.zip_append h.symm]
  simp
/-- A twin of a list of lists: each list in a block of its own, with the mark behind it; so many nil lists behind all. -/
structure TwinAt (base G n : Nat) (L : List (List ByteArray)) (vs : List (Nat × Nat)) (W : World) : Prop where
  len : vs.length = L.length
  row : W.ownsRow base 25 1 (.slice (some ⟨G, 0, none⟩) n n) n (valsOf L vs ++ List.replicate (n - L.length) (Value.slice none 0 0))
  txs : ∀ i (h : i < L.length), W.ownsRow base 9 1 (.slice (some ⟨(vs.getD i (0, 0)).1, 0, none⟩) (L[i].length + 1) (vs.getD i (0, 0)).2) (L[i].length + 1) (strs (L[i] ++ [⟨#[115, 112, 97, 114, 101]⟩]))
  ne : ∀ i j, i < j → j < L.length → (vs.getD i (0, 0)).1 ≠ (vs.getD j (0, 0)).1
theorem TwinAt.below {base G n : Nat} {L : List (List ByteArray)} {vs : List (Nat × Nat)} {W W' : World} (h : TwinAt base G n L vs W) (hb : Below W.heap.size W W') : TwinAt base G n L vs W' :=
  ⟨h.len, pw_own_below h.row hb, fun i hi => pw_own_below (h.txs i hi) hb, h.ne⟩
theorem own_blk {W : World} {base e s n g c : Nat} {xs : List Value} (h : W.ownsRow base e s (.slice (some ⟨g, 0, none⟩) n c) n xs) : base ≤ g ∧ g < W.heap.size := ⟨own_base h g rfl, own_lt h g rfl⟩
theorem TwinAt.cell {base G n : Nat} {L : List (List ByteArray)} {vs : List (Nat × Nat)} {W : World} (h : TwinAt base G n L vs W) (i : Nat) (hi : i < L.length) : W.cell? ⟨G, i, none⟩ = some (.slice (some ⟨(vs.getD i (0, 0)).1, 0, none⟩) L[i].length (vs.getD i (0, 0)).2) := by
  have hl := h.row.1
  rw [List.length_append, valsOf_len h.len, List.length_replicate] at hl
  have hc := h.row.cellAt i (by omega)
  rw [List.getElem?_append_left (by rw [valsOf_len h.len]; exact hi)] at hc
  rw [hc]
  have hv : i < vs.length := by rw [h.len]; exact hi
  unfold valsOf
  rw [List.getElem?_map, List.getElem?_eq_getElem (by simp; omega)]
  simp [List.getD_eq_getElem?_getD, List.getElem?_eq_getElem hv]
theorem TwinAt.rest {base G n : Nat} {L : List (List ByteArray)} {vs : List (Nat × Nat)} {W : World} (h : TwinAt base G n L vs W) (i : Nat) (h1 : L.length ≤ i) (h2 : i < n) : W.cell? ⟨G, i, none⟩ = some (.slice none 0 0) := by
  have hl := h.row.1
  have hc := h.row.cellAt i (by omega)
  rw [List.getElem?_append_right (by rw [valsOf_len h.len]; exact h1), valsOf_len h.len, List.getElem?_replicate, if_pos (by omega)] at hc
  exact hc
/-- One list more. -/
theorem TwinAt.snoc {base G n : Nat} {L : List (List ByteArray)} {vs : List (Nat × Nat)} {W W1 W2 : World} {x : List ByteArray} {g c : Nat} (h : TwinAt base G n L vs W) (hb : Below W.heap.size W W1)
    (hx : W1.ownsRow W.heap.size 9 1 (.slice (some ⟨g, 0, none⟩) (x.length + 1) c) (x.length + 1) (strs (x ++ [⟨#[115, 112, 97, 114, 101]⟩]))) (hbase : base ≤ W.heap.size)
    (hrow : W2.ownsRow base 25 1 (.slice (some ⟨G, 0, none⟩) n n) n ((valsOf L vs ++ List.replicate (n - L.length) (Value.slice none 0 0)).set L.length (.slice (some ⟨g, 0, none⟩) x.length c))) (hg : W1.grownBy W2 (some G)) (hn : L.length < n) :
    TwinAt base G n (L ++ [x]) (vs ++ [(g, c)]) W2 := by
  have hG := own_blk (h.below hb).row
  have hty : ∀ {m : Nat} {v : Value} {ys : List Value}, W1.ownsRow base 9 1 v m ys → W2.ownsRow base 9 1 v m ys := fun {m v ys} ho => own_other ho hg (ne_other (ne_symm (ne_types ho (h.below hb).row (by decide))))
  have gl : ∀ i, i < L.length → (vs ++ [(g, c)]).getD i (0, 0) = vs.getD i (0, 0) := fun i hi => by
    rw [List.getD_eq_getElem?_getD, List.getD_eq_getElem?_getD, List.getElem?_append_left (by rw [h.len]; exact hi)]
  have gr : (vs ++ [(g, c)]).getD L.length (0, 0) = (g, c) := by
    rw [List.getD_eq_getElem?_getD, ← h.len, List.getElem?_append_right (Nat.le_refl _), Nat.sub_self]; rfl
  have hgn := own_blk hx
  refine ⟨by simp [h.len], ?_, fun i hi => ?_, fun i j hij hj => ?_⟩
  · have e : (valsOf L vs ++ List.replicate (n - L.length) (Value.slice none 0 0)).set L.length (.slice (some ⟨g, 0, none⟩) x.length c) = valsOf (L ++ [x]) (vs ++ [(g, c)]) ++ List.replicate (n - (L ++ [x]).length) (Value.slice none 0 0) := by
      rw [valsOf_snoc h.len, List.set_append_right _ _ (by rw [valsOf_len h.len]; exact Nat.le_refl _), valsOf_len h.len, Nat.sub_self, List.length_append, List.length_singleton, show n - L.length = (n - (L.length + 1)) + 1 by omega, List.replicate_succ, List.set_cons_zero, List.append_assoc]
      rfl
    rw [← e]; exact hrow
  · rw [List.length_append, List.length_singleton] at hi
    by_cases hlt : i < L.length
    · rw [gl i hlt]
      have := hty (pw_own_below (h.txs i hlt) hb)
      simpa [List.getElem_append_left hlt] using this
    · obtain rfl : i = L.length := by omega
      rw [gr]
      have := hty (own_weaken hx hbase)
      simpa using this
  · rw [List.length_append, List.length_singleton] at hj
    rw [gl i (by omega)]
    by_cases hlt : j < L.length
    · rw [gl j hlt]; exact h.ne i j hij hlt
    · obtain rfl : j = L.length := by omega
      rw [gr]
      have := (own_blk (h.txs i (by omega))).2
      show (vs.getD i (0, 0)).1 ≠ g
      omega
set_option maxHeartbeats 2000000 in
set_option maxRecDepth 100000 in
theorem twinRows (A : Option Addr) (c : Nat) (L : List (List ByteArray)) (w : World) (hr : RowsR w A L) (hc : L.length ≤ c) (hl : L.length ≤ 1000000) (hs : ∀ x ∈ L, x.length ≤ 1000000) :
    Calls Tryd.prog 5 #[.slice A L.length c] w fun e w' => ∃ G vs, e = .returned (.slice (some ⟨G, 0, none⟩) L.length (L.length + 2)) ∧ TwinAt w.heap.size G (L.length + 2) L vs w' ∧ Below w.heap.size w w' := by
  obtain ⟨i0, hi, hz0, hz1, hz2⟩ := info_parts infoR
  have HR := Lib.hid hr
  have HS := Lib.hid hs
  have hmk := run_make_room (P := Tryd.prog) 22 25 (.slice none 0 0) 24 Tryd.underlying22 infoR rfl .i64 .i64 (L.length + 2) (by omega) (by omega)
  clear hr hs
  have hmk2 : ∀ W : World, (Instr.makeSlice 22 (.int .i64 0) (.int .i64 ((L.length : Int) + 2))).run Tryd.prog W = .ok (.slice (some ⟨W.heap.size, 0, none⟩) 0 (L.length + 2)) (W.alloc (.cells (madeCells #[.slice none 0 0] (L.length + 2)) 25)) := fun W => hmk W
  clear hmk
  have HT0 := Lib.hid (show TwinAt w.heap.size w.heap.size (L.length + 2) (L.take 0) [] (w.alloc (.cells (madeCells #[.slice none 0 0] (L.length + 2)) 25)) by
    refine ⟨by simp, ?_, fun i h => absurd h (by simp), fun i j _ h => absurd h (by simp)⟩
    refine ⟨by simp [valsOf], .inr ⟨w.heap.size, L.length + 2, _, rfl, Nat.le_refl _, heap_alloc_new w _, Nat.le_refl _, by unfold maxLen; omega, by rw [size_madeCells, Nat.mul_one], ?_⟩⟩
    rw [Nat.mul_one, List.take_of_length_le (by rw [Array.length_toList, size_madeCells]; exact Nat.le_refl _), made_rep]
    simp [valsOf])
  have hB0 := Lib.hid (bal (Below.refl w.heap.size w) (.cells (madeCells #[.slice none 0 0] (L.length + 2)) 25))
  have hlc : L.length ≤ 9223372036854775807 := by omega
  go_enter Tryd.func5, Tryd.ntmps5
  go_wp2
  go_loopw [3, 4] (fun v i wr => ∃ k : Nat, k ≤ L.length ∧ i = .int .i64 k ∧ v = .slice (some ⟨w.heap.size, 0, none⟩) k (L.length + 2) ∧ Hid (∃ vs, TwinAt w.heap.size w.heap.size (L.length + 2) (L.take k) vs wr ∧ Below w.heap.size w wr)) (fun _ i _ => L.length - (intOf i).toNat)
  case atStart => exact ⟨0, Nat.zero_le _, rfl, rfl, Lib.hid ⟨_, HT0.out, hB0.out⟩⟩
  case round =>
    obtain ⟨k, hk, rfl, rfl, hst⟩ := hrel
    obtain ⟨vs, ht, hb⟩ := hst.out
    clear hst
    by_cases hlt : k < L.length
    · obtain ⟨ad, Ai, ci, rfl, hx, hci, hC⟩ := HR.out.below hb k hlt
      have hxs := HS.out L[k] (List.getElem_mem hlt)
      have htk := Lib.hid (List.take_succ_eq_append_getElem hlt)
      obtain ⟨x, hxe⟩ : ∃ x, L[k] = x := ⟨_, rfl⟩
      rw [hxe] at hx hci hC hxs htk
      have HC := Lib.hid hC
      have HT := Lib.hid (And.intro ht hb)
      have hxs16 : (x.length + 1) * 16 ≤ 140737488355328 := by omega
      clear hC ht hb hxe
      go_wp2_with (go_at_call 14; with_reducible refine (twinTexts Ai ci x _ HC.out hci hxs16).mono ?_)
      rintro e w2 ⟨g, cap, rfl, ho2, hb2⟩
      have hbase : w.heap.size ≤ w2.heap.size := Nat.le_trans HT.out.2.size hb2.size
      have HO := Lib.hid ho2
      have HB := Lib.hid hb2
      have HT2 := Lib.hid (HT.out.1.below hb2)
      have hl2 : (L.take k).length = k := by rw [List.length_take]; omega
      have HL2 := Lib.hid hl2
      clear ho2 hb2 hl2
      go_wp2_with (at_builtin; go_loud (refine wp_append_full _ rfl _ _ 22 rfl w.heap.size 25 i0 Tryd.underlying22 hi hz1 w.heap.size k (L.length + 2) _ _ (.slice (some ⟨g, 0, none⟩) x.length cap) rfl rfl rfl rfl HT2.out.row (by omega) ?_))
      intro w3 ho3 hg3
      have HF := Lib.hid (show ∃ vs, TwinAt w.heap.size w.heap.size (L.length + 2) (L.take (k + 1)) vs w3 ∧ Below w.heap.size w w3 from ⟨vs ++ [(g, cap)], by
        rw [htk.out]
        exact HT.out.1.snoc HB.out HO.out HT.out.2.size (by rw [HL2.out]; exact ho3) hg3 (by rw [HL2.out]; omega), (bth HT.out.2 HB.out).grown hg3 hbase (fun b hb => by injection hb with hb; rw [← hb]; exact Nat.le_refl _)⟩)
      clear ho3 hg3
      go_wp2
      go_roundw
      case rel => exact ⟨k + 1, hlt, by go_num, rfl, HF⟩
      case measure => simp [intOf]; omega
    · obtain rfl : k = L.length := by omega
      rw [List.take_length] at ht
      have HF := Lib.hid (And.intro ht hb)
      clear ht hb
      go_wp2
      go_ret
      exact ⟨_, vs, rfl, HF.out.1, HF.out.2⟩
set_option maxHeartbeats 2000000 in
set_option maxRecDepth 100000 in
theorem leftRows (base G : Nat) (vs : List (Nat × Nat)) (A : Option Addr) (c : Nat) (L : List (List ByteArray)) (w : World) (hr : RowsR w A L) (hc : L.length ≤ c) (hl : L.length ≤ 1000000)
    (ht : TwinAt base G (L.length + 2) L vs w) :
    Calls Tryd.prog 9 #[.slice (some ⟨G, 0, none⟩) L.length (L.length + 2), .slice A L.length c] w fun e w' => e = .returned (.bool true) ∧ Below w.heap.size w w' := by
  have HR := Lib.hid hr
  have HT := Lib.hid ht
  have b1 : (L.length != L.length) = false := by simp
  have hlc : L.length + 2 ≤ 9223372036854775807 := by omega
  clear hr ht
  go_enter Tryd.func9, Tryd.ntmps9
  go_wp2
  go_loopw [5] (fun i wr => ∃ k : Nat, k ≤ L.length ∧ i = .int .i64 k ∧ Hid (Below w.heap.size w wr)) (fun i _ => L.length - (intOf i).toNat)
  case atStart => exact ⟨0, Nat.zero_le _, rfl, Lib.hid (Below.refl _ _)⟩
  case round =>
    obtain ⟨k, hk, rfl, hb⟩ := hrel
    by_cases hlt : k < L.length
    · obtain ⟨ad, Ai, ci, rfl, hx, hci, hC⟩ := HR.out.below hb.out k hlt
      have hy := pw_cell_below hb.out (HT.out.cell k hlt)
      have ho := Lib.hid (pw_own_below (HT.out.txs k hlt) hb.out)
      obtain ⟨x, hxe⟩ : ∃ x, L[k] = x := ⟨_, rfl⟩
      obtain ⟨g, hge⟩ : ∃ g, (vs.getD k (0, 0)).1 = g := ⟨_, rfl⟩
      obtain ⟨cp, hce⟩ : ∃ g, (vs.getD k (0, 0)).2 = g := ⟨_, rfl⟩
      rw [hxe] at hx hci hC hy ho
      rw [hge, hce] at hy ho
      have HC := Lib.hid hC
      clear hC hxe hge hce
      have hk2 : k < L.length + 2 := by omega
      have HLT := Lib.hid (show ∀ V, Below wr.heap.size wr V → Calls Tryd.prog 16 #[.slice (some ⟨g, 0, none⟩) x.length cp, .slice Ai x.length ci] V fun e w' => e = .returned (.bool true) ∧ Below V.heap.size V w' from fun V hV => leftTexts g cp _ Ai ci x V (Kd.C_below HC.out hV) hci (pw_own_below ho.out hV))
      have HCL := Lib.hid (show ∀ V, Below wr.heap.size wr V → V.cell? ⟨G, k, none⟩ = some (.slice (some ⟨g, 0, none⟩) x.length cp) ∧ V.cell? (ad.add k) = some (.slice Ai x.length ci) from fun V hV => ⟨pw_cell_below hV hy, pw_cell_below hV hx⟩)
      clear hx hy ho
      have hcl0 := HCL.out wr (Below.refl _ _)
      go_wp2_with fail
      go_region_held3 (fun V => Below wr.heap.size wr V ∧ V.cell? ⟨G, k, none⟩ = some (.slice (some ⟨g, 0, none⟩) x.length cp) ∧ V.cell? (ad.add k) = some (.slice Ai x.length ci))
        (with_reducible first | assumption | exact ⟨by assumption, HCL.out _ (by assumption)⟩ | exact ⟨bdr (Below.refl _ _), HCL.out _ (bdr (Below.refl _ _))⟩ | exact ⟨Below.refl _ _, HCL.out _ (Below.refl _ _)⟩) ((go_at_call 16; with_reducible refine (HLT.out _ (show Below wr.heap.size wr _ ∧ _ from by assumption).1).mono ?_; rintro e w' ⟨rfl, hbq⟩; have hbq := bth (show Below wr.heap.size wr _ ∧ _ from by assumption).1 hbq))
      have HB := Lib.hid (bth hb.out (show Below wr.heap.size wr _ ∧ _ from by assumption).1)
      go_wp2
      go_roundw
      case rel => exact ⟨k + 1, hlt, by go_num, HB⟩
      case measure => simp [intOf]; omega
    · obtain rfl : k = L.length := by omega
      go_wp2
      go_loopw [7] (fun i wr => ∃ k : Nat, L.length ≤ k ∧ k ≤ L.length + 2 ∧ i = .int .i64 k ∧ Hid (Below w.heap.size w wr)) (fun i _ => L.length + 2 - (intOf i).toNat)
      case atStart => exact ⟨L.length, Nat.le_refl _, by omega, rfl, hb⟩
      case round =>
        obtain ⟨k, hk1, hk2, rfl, hb⟩ := hrel
        by_cases hlt : k < L.length + 2
        · have hy := pw_cell_below hb.out (HT.out.rest k hk1 hlt)
          have hnn := nil_neq wr
          go_wp2
          go_roundw
          case rel => exact ⟨k + 1, by omega, hlt, by go_num, hb⟩
          case measure => simp [intOf] <;> omega
        · obtain rfl : k = L.length + 2 := by omega
          go_wp2
          go_ret
          exact ⟨rfl, hb.out⟩
end Go.Proofs.YtlicjpbmlmongaaDoor.H

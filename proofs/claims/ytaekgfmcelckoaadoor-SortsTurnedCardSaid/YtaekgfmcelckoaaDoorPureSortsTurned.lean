/- SortsTurned: the walk of the law. -/
import Derived.Test.YtaekgfmcelckoaaDoorSFew
import Derived.Deep.RegionHeld3
import Derived.BigQuiet
import Derived.Laws.IdiomStrings
set_option linter.unusedVariables false
set_option linter.unusedSimpArgs false
namespace Go.Proofs.YtaekgfmcelckoaaDoor.P
open Go.RowKit Go.Proofs Go.Proofs.YtaekgfmcelckoaaDoor.Q Go.Proofs.YtaekgfmcelckoaaDoor.H Go.Proofs.YtaekgfmcelckoaaDoor.K Go.Proofs.YtaekgfmcelckoaaDoor.S Go.Proofs.YtaekgfmcelckoaaDoorW.PrintWords Go.Proofs.YtaekgfmcelckoaaDoorW.PrintLast

theorem byteS_of (x : Int) (h : (Lit.int .u8 x).wf = true) : ∃ c : UInt8, x = (c.toNat : Int) := by
  have h' : 0 ≤ x ∧ x ≤ 255 := by simpa [Lit.wf, IntKind.min, IntKind.max, IntKind.signed, IntKind.bits] using h
  exact ⟨UInt8.ofNat x.toNat, by simp [UInt8.toNat_ofNat']; omega⟩
theorem texts_each (l : List ByteArray) : ∀ s ∈ l, s.size ≤ textsN l := by
  induction l with
  | nil => intro s h; cases h
  | cons x l ih =>
    intro s h
    have e : textsN (x :: l) = textsN l + (x.size + 1) := by simp [textsN]; omega
    rcases List.mem_cons.1 h with rfl | h
    · omega
    · have := ih s h; omega
/-- The order's box. -/
theorem ordBox (W : World) (nu fo bl re : Bool) (f t : Int) (c : UInt8) (V : World) (h : Below (W.alloc (.cells #[.bool nu, .bool fo, .bool bl, .bool re, .int .i64 f, .int .i64 t, .int .u8 (c.toNat : Int)] 36)).heap.size (W.alloc (.cells #[.bool nu, .bool fo, .bool bl, .bool re, .int .i64 f, .int .i64 t, .int .u8 (c.toNat : Int)] 36)) V) : V.cell? ⟨W.heap.size, 0, none⟩ = some (.bool nu) ∧ V.cell? ⟨W.heap.size, 1, none⟩ = some (.bool fo) ∧ V.cell? ⟨W.heap.size, 2, none⟩ = some (.bool bl) ∧ V.cell? ⟨W.heap.size, 3, none⟩ = some (.bool re) ∧ V.cell? ⟨W.heap.size, 4, none⟩ = some (.int .i64 f) ∧ V.cell? ⟨W.heap.size, 5, none⟩ = some (.int .i64 t) ∧ V.cell? ⟨W.heap.size, 6, none⟩ = some (.int .u8 (c.toNat : Int)) := by
  have h3 := (h.block W.heap.size (by simp)).trans (World.alloc_heap_new W _)
  obtain ⟨h0, h1, h2, h3'⟩ := ord_cells7 h3
  obtain ⟨h4, h5, h6⟩ := ord_cells h3
  exact ⟨h0, h1, h2, h3', h4, h5, h6⟩
theorem ckeck_ord (nu fo bl re : Bool) (f t : Int) (c : UInt8) (V : World) : Calls Tryd.prog 18 #[.agg #[.bool nu, .bool fo, .bool bl, .bool re, .int .i64 f, .int .i64 t, .int .u8 (c.toNat : Int)]] V fun e w' => e = .returned (.bool (checkO f t c)) ∧ Below V.heap.size V w' :=
  keys_Check.calls 1 nu fo bl re f t (c.toNat : Int) (checkO f t c) V (check_f 0 nu fo bl re f t c)
theorem few_one (A : Option Addr) (z : Nat) (l : List ByteArray) (W : World) (hc : l.length ≤ z) (h : Kd.C Kd.string W A l.length l) (ok : (∀ a ∈ l, a.size ≤ 140737488351232) ∧ l.length * 16 ≤ 140737488351232) :
    Calls Tryd.prog 17 #[.slice (some ⟨W.heap.size, 0, none⟩) 1 1] (W.alloc (.cells #[.slice A l.length z] 22)) fun e w' => (∃ r, e = .returned (.bool r) ∧ (r = true → l.length ≤ 300 ∧ ∀ s ∈ l, s.size ≤ 20000)) ∧ Below W.heap.size W w' := by
  refine (few_calls (some ⟨W.heap.size, 0, none⟩) 1 [l] _ (rows_one W A l z hc h) (by simp) (by simp) (fun x hx => by rw [List.mem_singleton.1 hx]; exact ok)).mono ?_
  rintro e w' ⟨⟨r, rfl, hr⟩, hb⟩
  refine ⟨⟨r, rfl, fun e => ?_⟩, bth (bal (Below.refl _ _) _) hb⟩
  have h1 := (hr e).each l (by simp)
  exact ⟨h1.1, fun s hs => Nat.le_trans (texts_each l s hs) h1.2⟩
theorem sortA_ord (nu fo bl re : Bool) (f t : Int) (c : UInt8) (hck : checkO f t c = true) (A : Option Addr) (cap : Nat) (l : List ByteArray) (w : World) (hr : Kd.C Kd.string w A l.length l) (hc : l.length ≤ cap) (hl : l.length ≤ 65536) (hs : ∀ s ∈ l, s.size ≤ 1000000) :
    Calls Tryd.prog 19 #[.agg #[.bool nu, .bool fo, .bool bl, .bool re, .int .i64 f, .int .i64 t, .int .u8 (c.toNat : Int)], .slice A l.length cap, .bool false] w fun e w' => (∃ A' c', e = .returned (.tuple #[.slice A' (sortL false nu fo bl re f t c l).length c', .int .i64 0]) ∧ (sortL false nu fo bl re f t c l).length ≤ c' ∧ Kd.C Kd.string w' A' (sortL false nu fo bl re f t c l).length (sortL false nu fo bl re f t c l)) ∧ Below w.heap.size w w' := by
  refine (sortA_calls nu fo bl re f t c hck A cap l w hr hc hl hs).mono ?_
  rintro e w' ⟨v, rfl, ht, hb⟩
  obtain ⟨A', c', rfl, h1, h2⟩ := ht.reads
  exact ⟨⟨A', c', rfl, h1, h2⟩, hb⟩
theorem orC_neg (p q : Int) : orC (-p) (-q) = - orC p q := by
  unfold orC
  by_cases h : p = 0
  · subst h; simp
  · rw [if_neg (by omega), if_neg h]
theorem whole_turn (nu fo bl re : Bool) (f t : Int) (c : UInt8) (x y : List UInt8) : wholeO nu fo bl (!re) f t c x y = - wholeO nu fo bl re f t c x y := by
  unfold wholeO
  rw [cmpO_turn, ← orC_neg]
  cases re <;> simp
theorem sortA_turn (nu fo bl re : Bool) (f t : Int) (c : UInt8) (l : List ByteArray) : sortL false nu fo bl (!re) f t c l = (sortL false nu fo bl re f t c l).reverse := by
  refine asc_one nu fo bl (!re) f t c _ _ ((sortA_perm nu fo bl (!re) f t c l).trans ((sortA_perm nu fo bl re f t c l).symm.trans (List.reverse_perm _).symm)) (sortA_asc nu fo bl (!re) f t c l) ?_
  unfold Asc
  rw [List.pairwise_reverse]
  refine (sortA_asc nu fo bl re f t c l).imp (fun {x y} h => ?_)
  rw [whole_turn, (Ord.wholeO nu fo bl re f t c).back]
  omega
theorem turned_perm (l : List ByteArray) (k : Nat) : ((l.drop k).reverse ++ l.take k).Perm l := by
  refine ((List.reverse_perm _).append_right _).trans ?_
  refine List.perm_append_comm.trans ?_
  rw [List.take_append_drop]
theorem ord_set {w : World} {b : Nat} {nu fo bl re : Bool} {f t : Int} {c : UInt8} (h : w.heap[b]? = some (ordObj nu fo bl re f t c)) (re' : Bool) : (w.setCell ⟨b, 3, none⟩ (.bool re')).heap[b]? = some (ordObj nu fo bl re' f t c) := by
  unfold ordObj at *
  simp [World.setCell, Array.getElem?_modify, h]
theorem grown_setAt (W : World) (b o : Nat) (v : Value) : W.grownBy (W.setCell ⟨b, o, none⟩ v) (some b) :=
  ⟨rfl, rfl, rfl, (KeepsWalks.setCell W _ v).size, fun k _ hk => Below.heap_setCell _ _ _ k (fun e => hk (by rw [e]))⟩
section
variable {ops : Array Oper} {rest : List Oper} {o : Oper} {a : Act} {Q : Exit → Act → World → Prop}
/-- append(l, m...) where nothing comes. -/
theorem app_zero {w : World} (base : Nat) (hgd : o.guard = none) (s x : Operand) (ho : o.op = .call { callee := .builtin .append, args := #[s, x], argTypes := #[22, 22] })
    (v : Value) (n : Nat) (xs : List Value) (A : Option Addr) (cap : Nat) (hs : a.eval s = v) (hown : w.ownsRow base 9 1 v n xs) (hx : a.eval x = .slice A 0 cap)
    (h : wpList Tryd.prog ops Q rest (a.put o.dst v) w) : wpList Tryd.prog ops Q (o :: rest) a w := by
  refine wpList_plain hgd fun K hK => ?_
  obtain ⟨i0, hi, hz0, hz1, hz2⟩ := info_parts infoS
  have hrun : (Builtin.append_ #[22, 22] o.type #[v, .slice A 0 cap]).run Tryd.prog w = .ok v w := by
    rcases hown.2 with ⟨rfl, rfl⟩ | ⟨g, c', cur, rfl, _, _, hnc, _⟩
    · cases A <;> simp [Builtin.append_, run_underlying Tryd.underlying22, sizeOf, typeInfo, hi, Builtin.lenOf, Builtin.firstCells, loadCells, loadCellsFrom]
    · cases A <;> simp [Builtin.append_, run_underlying Tryd.underlying22, sizeOf, typeInfo, hi, Builtin.lenOf, Builtin.firstCells, hnc, storeCells, loadCells, loadCellsFrom]
  unfold Oper.wp
  simp [execOp, ho, resolve, invoke, builtin, hs, hx, hrun, Result.andThen]
  exact hK _ _ h
/-- append(l, m...). -/
theorem app_texts (w : World) (base : Nat) (hgd : o.guard = none) (s x : Operand) (ho : o.op = .call { callee := .builtin .append, args := #[s, x], argTypes := #[22, 22] })
    (v : Value) (L M : List ByteArray) (A : Option Addr) (m cap : Nat) (hm : M.length = m) (hs : a.eval s = v) (hx : a.eval x = .slice A m cap) (HO : Txs base v L w) (hC : 0 < m → ∃ ad, A = some ad ∧ ∀ j u, (strs M)[j]? = some u → w.cell? (ad.add j) = some u) (hbase : base ≤ w.heap.size) (hl : L.length + m ≤ 8000000000000)
    (h : ∀ v1 w1, Txs base v1 (L ++ M) w1 → w.grownBy w1 v.ownBlock → wpList Tryd.prog ops Q rest (a.put o.dst v1) w1) :
    wpList Tryd.prog ops Q (o :: rest) a w := by
  by_cases hm0 : m = 0
  · subst hm0
    refine app_zero base hgd s x ho v L.length (strs L) A cap hs HO hx (h v w ?_ ⟨rfl, rfl, rfl, Nat.le_refl _, fun _ _ _ => rfl⟩)
    rw [List.eq_nil_of_length_eq_zero hm, List.append_nil]
    exact HO
  · obtain ⟨ad, rfl, hC'⟩ := hC (by omega)
    obtain ⟨i0, hi, hz0, hz1, hz2⟩ := info_parts infoS
    refine wpList_append_own _ hgd s x 22 ho base 9 i0 (.string ⟨#[]⟩) 1 16 Tryd.underlying22 hi hz0 hz1 hz2 rfl (by decide) v L.length (strs L) hs HO ad m cap (strs M) hx (by rw [strs_length, hm]; omega) hC' ?c2 ?c3 ?c4 hbase ?_
    case c2 => intro u hu; simp only [strs, List.mem_map] at hu; obtain ⟨y, _, rfl⟩ := hu; rfl
    case c3 => unfold maxLen; omega
    case c4 => omega
    intro v1 w1 hown hg _
    refine h v1 w1 ?_ hg
    unfold Txs
    rw [strs_append, List.length_append, hm]
    exact hown
end
theorem sortA_txs (nu fo bl re : Bool) (f t : Int) (c : UInt8) (hck : checkO f t c = true) (R : List ByteArray) (A : Option Addr) (cap : Nat) (l : List ByteArray) (hR : sortL false nu fo bl re f t c l = R) (w : World) (hr : Kd.C Kd.string w A l.length l) (hc : l.length ≤ cap) (hl : l.length ≤ 65536) (hs : ∀ s ∈ l, s.size ≤ 1000000) :
    Calls Tryd.prog 19 #[.agg #[.bool nu, .bool fo, .bool bl, .bool re, .int .i64 f, .int .i64 t, .int .u8 (c.toNat : Int)], .slice A l.length cap, .bool false] w fun e w' => (∃ A' c', e = .returned (.tuple #[.slice A' R.length c', .int .i64 0]) ∧ R.length ≤ c' ∧ Txs w.heap.size (.slice A' R.length c') R w') ∧ Below w.heap.size w w' := by
  refine (sortA_calls nu fo bl re f t c hck A cap l w hr hc hl hs).mono ?_
  rintro e w' ⟨v, rfl, ht, hb⟩
  rw [hR] at ht
  obtain ⟨A', c', rfl, h1, h2⟩ := ht.reads
  exact ⟨⟨A', c', rfl, h1, ht⟩, hb⟩
theorem Txs.C {base : Nat} {A : Option Addr} {n c : Nat} {L : List ByteArray} {W : World} (h : Txs base (.slice A n c) L W) : Kd.C Kd.string W A L.length L := by
  obtain ⟨A', c', e, h1, h2⟩ := h.reads
  injection e with e1 _ _
  rw [e1]; exact h2
set_option maxHeartbeats 4000000 in
set_option maxRecDepth 100000 in
theorem SortsTurned_walk (nu fo bl re : Bool) (f t : Int) (a0_6 : Int) (A1 : Option Addr) (z1 : Nat) (l1 : List ByteArray) (a2 : Int) (W : World) (ok0_4 : (Lit.int .i64 f).wf = true) (ok0_5 : (Lit.int .i64 t).wf = true) (ok0_6 : (Lit.int .u8 a0_6).wf = true) (hr1 : Kd.C Kd.string W A1 l1.length l1) (hc1 : l1.length ≤ z1) (ok1 : (∀ a ∈ l1, a.size ≤ 140737488351232) ∧ l1.length * 16 ≤ 140737488351232) (ok2 : (Lit.int .u16 a2).wf = true) :
    Calls Tryd.prog 5 #[.agg #[.bool nu, .bool fo, .bool bl, .bool re, .int .i64 f, .int .i64 t, .int .u8 a0_6], .slice A1 l1.length z1, .int .u16 a2] W fun e W' => e = .returned (.bool true) ∧ Below W.heap.size W W' := by
  obtain ⟨c, rfl⟩ := byteS_of a0_6 ok0_6
  have h2' : 0 ≤ a2 ∧ a2 ≤ 65535 := by simpa [Lit.wf, IntKind.min, IntKind.max, IntKind.signed, IntKind.bits] using ok2
  obtain ⟨m, rfl⟩ := Int.eq_ofNat_of_zero_le h2'.1
  have hm16 : m ≤ 65535 := by omega
  have HAL := Lib.hid (fun w => alive_calls w)
  obtain ⟨W0, hW0⟩ : ∃ W0, W.alloc (.cells #[.bool nu, .bool fo, .bool bl, .bool re, .int .i64 f, .int .i64 t, .int .u8 (c.toNat : Int)] 36) = W0 := ⟨_, rfl⟩
  have HOB := Lib.hid (show ∀ V, Below W0.heap.size W0 V → V.cell? ⟨W.heap.size, 0, none⟩ = some (.bool nu) ∧ V.cell? ⟨W.heap.size, 1, none⟩ = some (.bool fo) ∧ V.cell? ⟨W.heap.size, 2, none⟩ = some (.bool bl) ∧ V.cell? ⟨W.heap.size, 3, none⟩ = some (.bool re) ∧ V.cell? ⟨W.heap.size, 4, none⟩ = some (.int .i64 f) ∧ V.cell? ⟨W.heap.size, 5, none⟩ = some (.int .i64 t) ∧ V.cell? ⟨W.heap.size, 6, none⟩ = some (.int .u8 (c.toNat : Int)) from fun V h => ordBox W nu fo bl re f t c V (by rw [hW0]; exact h))
  have HBX := Lib.hid (show ∀ V, Below W0.heap.size W0 V → V.heap[W.heap.size]? = some (ordObj nu fo bl re f t c) ∧ W.heap.size < W0.heap.size from fun V h => ⟨(h.block W.heap.size (by rw [← hW0]; simp)).trans (by rw [← hW0]; exact World.alloc_heap_new W _), by rw [← hW0]; simp⟩)
  have HR := Lib.hid hr1
  have HL0 := Lib.hid (show Below W.heap.size W W0 by rw [← hW0]; exact bal (Below.refl _ _) _)
  have HW := Lib.hid hW0
  have HOK := Lib.hid ok1
  clear hr1 hW0 ok1 ok0_6 ok2 h2'
  go_enter Tryd.func5, Tryd.ntmps5
  go_wp2_with fail
  rw [HW.out]
  with_reducible refine (HAL.out _).mono ?_
  rintro e w1 ⟨rfl, hb1⟩
  have B1 := Lib.hid hb1
  clear hb1
  go_wp2_with fail
  with_reducible refine (few_one A1 z1 l1 w1 hc1 (Kd.C_below HR.out (bth HL0.out B1.out)) HOK.out).mono ?_
  rintro e w2 ⟨⟨r, rfl, hrr⟩, hb2⟩
  have B2 := Lib.hid (bth B1.out hb2)
  have HRR := Lib.hid hrr
  clear hb2 hrr
  cases r with
  | false =>
    go_wp2_with fail
    with_reducible refine (HAL.out _).mono ?_
    rintro e w9 ⟨rfl, hb9⟩
    have B9 := Lib.hid (bth B2.out hb9)
    clear hb9
    go_wp2
    go_ret
    exact ⟨rfl, bth (by rw [← HW.out]; exact bal (Below.refl _ _) _) B9.out⟩
  | true =>
    have hll := (HRR.out rfl).1
    have HSS := Lib.hid (HRR.out rfl).2
    clear HRR
    obtain ⟨e0, e1, e2, e3, e4, e5, e6⟩ := HOB.out _ B2.out
    obtain ⟨ck, hck⟩ : ∃ ck, checkO f t c = ck := ⟨_, rfl⟩
    have HCK := Lib.hid (fun V => ckeck_ord nu fo bl re f t c V)
    rw [hck] at HCK
    go_wp2_with fail
    with_reducible refine (HCK.out _).mono ?_
    rintro e w3 ⟨rfl, hb3⟩
    have B3 := Lib.hid (bth B2.out hb3)
    clear hb3 e0 e1 e2 e3 e4 e5 e6
    cases ck with
    | false =>
      go_wp2_with fail
      with_reducible refine (HAL.out _).mono ?_
      rintro e w9 ⟨rfl, hb9⟩
      have B9 := Lib.hid (bth B3.out hb9)
      clear hb9
      go_wp2
      go_ret
      exact ⟨rfl, bth (by rw [← HW.out]; exact bal (Below.refl _ _) _) B9.out⟩
    | true =>
      obtain ⟨k, hk⟩ : ∃ k, m % (l1.length + 1) = k := ⟨_, rfl⟩
      have hkl : k ≤ l1.length := by have := Nat.mod_lt m (show 0 < l1.length + 1 by omega); omega
      have hmod : (m : Int).tmod ((l1.length : Int) + 1) = (k : Int) := by rw [Int.tmod_eq_emod_of_nonneg (Int.natCast_nonneg _), ← hk]; rfl
      have hw1 : IntKind.i64.wrap (m : Int) = (m : Int) := IntWalk.i64_in _ (by omega)
      have hw2 : IntKind.i64.wrap (k : Int) = (k : Int) := IntWalk.i64_in _ (by omega)
      have hz0 : ((l1.length : Int) + 1 == 0) = false := beq_eq_false_iff_ne.2 (by omega)
      have hz1' : ¬ (l1.length : Int) + 1 = 0 := by omega
      clear hk
      go_wp2
      clear hmod hw1 hz0 hz1'
      go_loopw [8, 9] (fun v i wr => ∃ j : Nat, k ≤ j ∧ j ≤ l1.length ∧ i = .int .i64 ((j : Int) - 1) ∧ Hid (Txs w3.heap.size v (l1.drop j).reverse wr ∧ Below w3.heap.size w3 wr)) (fun _ i _ => (intOf i + 1).toNat)
      case atStart => exact ⟨l1.length, hkl, Nat.le_refl _, rfl, Lib.hid ⟨by rw [List.drop_length]; exact Txs.nil _ _, Below.refl _ _⟩⟩
      case round =>
        obtain ⟨j, hkj, hj, rfl, hst⟩ := hrel
        by_cases hlt : k < j
        · obtain ⟨q, rfl⟩ : ∃ q, j = q + 1 := ⟨j - 1, by omega⟩
          have hq : q < l1.length := by omega
          have hj1 : (((q + 1 : Nat) : Int) - 1) = (q : Int) := by omega
          rw [hj1]
          obtain ⟨ad, rfl, hx⟩ := C_at HR.out (bth HL0.out (bth B3.out hst.out.2)) q hq
          have hrev : (l1.drop (q + 1)).reverse ++ [l1[q]] = (l1.drop q).reverse := by rw [List.drop_eq_getElem_cons hq, List.reverse_cons]
          obtain ⟨x, hxe⟩ : ∃ x, l1[q] = x := ⟨_, rfl⟩
          rw [hxe] at hx hrev
          have HREV := Lib.hid hrev
          have hln := Lib.hid (show (l1.drop (q + 1)).reverse.length + 1 ≤ 8000000000000 by rw [List.length_reverse, List.length_drop]; omega)
          have g0 : decide ((k : Int) ≤ (q : Int)) = true := decide_eq_true (by omega)
          have g1 : (k : Int) ≤ (q : Int) := by omega
          clear hrev hxe
          go_wp2_with (at_builtin; go_loud (refine app_txt _ w3.heap.size rfl (.tmp 45) (.tmp 50) rfl u8 (l1.drop (q + 1)).reverse (l1.drop q).reverse x HREV.out rfl rfl hst.out.1 hst.out.2.size hln.out ?_))
          intro v1 w5 h5 g5
          have D5 := Lib.hid (And.intro h5 (hst.out.2.grown g5 hst.out.2.size (fun b hb => own_base hst.out.1 b hb)))
          clear h5 g5
          go_wp2
          go_roundw
          case rel => exact ⟨q, by omega, by omega, rfl, D5⟩
          case measure => first | (simp [intOf]; omega) | simp [intOf]
        · obtain rfl : j = k := by omega
          have g0 : decide ((j : Int) ≤ (j : Int) - 1) = false := decide_eq_false (by omega)
          have g1 : ¬ (j : Int) ≤ (j : Int) - 1 := by omega
          have hlk : (l1.take j).length = j := by rw [List.length_take]; omega
          have hcl := Lib.hid (show 0 < j → ∃ ad, A1 = some ad ∧ ∀ i u, (strs (l1.take j))[i]? = some u → wr.cell? (ad.add i) = some u from fun h0 => by
            obtain ⟨ad, hA, -⟩ := HR.out.2.2 (by omega)
            refine ⟨ad, hA, fun i u h => ?_⟩
            obtain ⟨hi, hu⟩ := List.getElem?_eq_some_iff.1 h
            rw [strs_length, hlk] at hi
            obtain ⟨ad', e, hx⟩ := C_at HR.out (bth HL0.out (bth B3.out hst.out.2)) i (by omega)
            obtain rfl := Option.some.inj (hA.symm.trans e)
            rw [hx, ← hu]
            simp [strs])
          have hln := Lib.hid (show (l1.drop j).reverse.length + j ≤ 8000000000000 by rw [List.length_reverse, List.length_drop]; omega)
          have HLK := Lib.hid hlk
          have hjz : j ≤ z1 := by omega
          obtain ⟨T, hT⟩ : ∃ T, (l1.drop j).reverse ++ l1.take j = T := ⟨_, rfl⟩
          have HTT := Lib.hid hT
          have hTp : T.Perm l1 := hT ▸ turned_perm l1 j
          have hTl := hTp.length_eq
          have has : ∀ s ∈ l1, s.size ≤ 1000000 := fun s hs => Nat.le_trans (HSS.out s hs) (by decide)
          have hTs : ∀ s ∈ T, s.size ≤ 1000000 := fun s hs => has s (hTp.mem_iff.1 hs)
          have hal : (sortL false nu fo bl re f t c l1).length = l1.length := (sortA_perm nu fo bl re f t c l1).length_eq
          obtain ⟨a, ha⟩ : ∃ a, sortL false nu fo bl re f t c l1 = a := ⟨_, rfl⟩
          have hT2 : sortL false nu fo bl re f t c T = a := (sortA_alike nu fo bl re f t c _ _ hTp).trans ha
          have hre2 : sortL false nu fo bl (!re) f t c l1 = a.reverse := by rw [sortA_turn, ha]
          rw [ha] at hal
          have hrl : a.reverse.length = l1.length := by rw [List.length_reverse]; exact hal
          have HS1 := Lib.hid (fun w h => sortA_txs nu fo bl re f t c hck a A1 z1 l1 ha w h hc1 (by omega) has)
          rw [hal] at HS1
          have HST := Lib.hid (fun A cap w h h2 => sortA_txs nu fo bl re f t c hck a A cap T hT2 w h h2 (by omega) hTs)
          rw [hTl, hal] at HST
          have HSR := Lib.hid (fun w h => sortA_txs nu fo bl (!re) f t c hck a.reverse A1 z1 l1 hre2 w h hc1 (by omega) has)
          rw [hrl] at HSR
          obtain ⟨ks, hke⟩ := same_ev a (by omega)
          have HSM := Lib.hid (fun A c A' c' w h1 h2 h3 h4 => toolchestlaw01_SameTexts.calls ks A c a A' c' a true w h1 h2 h3 h4 hke)
          rw [hal] at HSM
          have HTL := Lib.hid hTl
          have HAL2 := Lib.hid hal
          clear hlk hT hTp hTl has hTs hal ha hT2 hre2 hrl hke
          go_wp2_with (at_builtin; go_loud (refine app_texts _ w3.heap.size rfl (.tmp 52) (.tmp 55) rfl u8 (l1.drop j).reverse (l1.take j) A1 j z1 HLK.out rfl rfl hst.out.1 hcl.out hst.out.2.size hln.out ?_))
          rw [HTT.out]
          intro v1 w5 h5 g5
          have D5 := Lib.hid (hst.out.2.grown g5 hst.out.2.size (fun b hb => own_base hst.out.1 b hb))
          obtain ⟨A5, c5, rfl, hc5, hC5⟩ := h5.reads
          have C5 := Lib.hid hC5
          rw [HTL.out] at hc5 C5
          clear h5 g5 hC5
          rw [show (Value.slice A5 T.length c5) = .slice A5 l1.length c5 by rw [HTL.out]]
          have B5 := Lib.hid (bth B3.out D5.out)
          obtain ⟨e0, e1, e2, e3, e4, e5, e6⟩ := HOB.out _ B5.out
          go_wp2_with fail
          with_reducible refine (HS1.out _ (Kd.C_below HR.out (bth HL0.out B5.out))).mono ?_
          rintro e w6 ⟨⟨A6, c6, rfl, hc6, hC6⟩, hb6⟩
          have B6 := Lib.hid (bth B5.out hb6)
          have C6 := Lib.hid (And.intro hC6 (Kd.C_below C5.out hb6))
          clear hb6 hC6 e0 e1 e2 e3 e4 e5 e6
          obtain ⟨e0, e1, e2, e3, e4, e5, e6⟩ := HOB.out _ B6.out
          go_wp2_with fail
          with_reducible refine (HST.out _ _ _ C6.out.2 hc5).mono ?_
          rintro e w7 ⟨⟨A7, c7, rfl, hc7, hC7⟩, hb7⟩
          have B7 := Lib.hid (bth B6.out hb7)
          have C7 := Lib.hid (And.intro (C6.out.1.below hb7) hC7)
          clear hb7 hC7 e0 e1 e2 e3 e4 e5 e6
          have hox := (HBX.out _ B7.out).1
          have hol := (HBX.out _ B7.out).2
          have z3 : w7.frozen? ⟨W.heap.size, 3, none⟩ = false := Lib.frozen_of_heap hox 3
          have e3 := (HOB.out _ B7.out).2.2.2.1
          have hs8 := ord_set hox (!re)
          obtain ⟨s0, s1, s2, s3⟩ := ord_cells7 hs8
          obtain ⟨s4, s5, s6⟩ := ord_cells hs8
          have hB8 := (bth HL0.out B7.out).setCell (p := ⟨W.heap.size, 3, none⟩) (Nat.le_refl _) (.bool (!re))
          have hA8 : Txs w5.heap.size (.slice A6 l1.length c6) a (w7.setCell ⟨W.heap.size, 3, none⟩ (.bool (!re))) := own_other C7.out.1 (grown_setAt w7 W.heap.size 3 _) (.inr (fun e => by have := own_base C7.out.1 _ e; have := B5.out.size; omega))
          have hA9 : Txs w6.heap.size (.slice A7 l1.length c7) a (w7.setCell ⟨W.heap.size, 3, none⟩ (.bool (!re))) := own_other C7.out.2 (grown_setAt w7 W.heap.size 3 _) (.inr (fun e => by have := own_base C7.out.2 _ e; have := B6.out.size; omega))
          have C8 := Lib.hid (And.intro hA8 hA9)
          have B8 := Lib.hid hB8
          clear hox hol hs8 hA8 hA9 hB8
          go_wp2_with fail
          obtain ⟨W8, hW8⟩ : ∃ W8, w7.setCell ⟨W.heap.size, 3, none⟩ (.bool (!re)) = W8 := ⟨_, rfl⟩
          rw [hW8] at B8 C8 ⊢
          clear hW8 s0 s1 s2 s3 s4 s5 s6 z3 e3
          with_reducible refine (HSR.out _ (Kd.C_below HR.out B8.out)).mono ?_
          rintro e w9 ⟨⟨A9, c9, rfl, hc9, hC9⟩, hb9⟩
          have B9 := Lib.hid (bth B8.out hb9)
          have hCA := Txs.C (C8.out.1.below hb9)
          have hCB := Txs.C (C8.out.2.below hb9)
          rw [HAL2.out] at hCA hCB
          have C9 := Lib.hid (And.intro hCA (And.intro hCB (Txs.C hC9)))
          clear hb9 hC9 hCA hCB
          have hne : ((l1.length : Int) != (l1.length : Int)) = false := by simp
          go_wp2_with fail
          with_reducible refine (HSM.out A6 c6 A7 c7 _ C9.out.1 hc6 C9.out.2.1 hc7).mono ?_
          first | (rintro e w10 rfl hb10) | (rintro e w10 ⟨rfl, hb10⟩)
          have B10 := Lib.hid (bth B9.out hb10.below)
          have C10 := Lib.hid (And.intro (Kd.C_below C9.out.1 hb10.below) (Kd.C_below C9.out.2.2 hb10.below))
          clear hb10
          go_wp2
          go_loopw [16] (fun i wr => ∃ k : Nat, k ≤ l1.length ∧ i = .int .i64 (k : Int) ∧ Hid (Below w10.heap.size w10 wr)) (fun i _ => l1.length - (intOf i).toNat)
          case atStart => exact ⟨0, Nat.zero_le _, rfl, Lib.hid (Below.refl _ _)⟩
          case round =>
            obtain ⟨k, hk, rfl, hst⟩ := hrel
            by_cases hlt : k < l1.length
            · obtain ⟨q, hq⟩ : ∃ q, l1.length - 1 - k = q := ⟨_, rfl⟩
              have hq1 : ((l1.length : Int) - 1 - (k : Int)) = (q : Int) := by omega
              have hql : q < l1.length := by omega
              have hka : k < a.length := by rw [HAL2.out]; exact hlt
              have hqa : q < a.reverse.length := by rw [List.length_reverse, HAL2.out]; exact hql
              have hCk := C10.out.1
              rw [← HAL2.out] at hCk
              obtain ⟨ad, rfl, hx⟩ := C_at hCk hst.out k hka
              obtain ⟨ae, rfl, hy⟩ := C_at C10.out.2 hst.out q hqa
              have hxy : a.reverse[q] = a[k] := by
                rw [List.getElem_reverse]
                congr 1
                have := HAL2.out
                omega
              rw [hxy] at hy
              obtain ⟨s, hs⟩ : ∃ s, a[k] = s := ⟨_, rfl⟩
              rw [hs] at hx hy
              clear hs hxy hCk hka hqa hq
              go_wp2_with fail
              go_quiet (fail)
              go_wp2
              go_roundw
              case rel => exact ⟨k + 1, hlt, by go_num, Lib.hid (by first | exact bdn hst.out _ | exact bdr hst.out)⟩
              case measure => simp [intOf]; omega
            · obtain rfl : k = l1.length := by omega
              go_wp2
              go_ret
              exact ⟨rfl, bth B10.out hst.out⟩
end Go.Proofs.YtaekgfmcelckoaaDoor.P

/- Written by merge.py out of Merge, MergeAll. -/
import Derived.Test.YtaekgfmcelckoaaDoorSFew
import Derived.Deep.RegionHeld3
import Derived.Deep.AppendLies
import Derived.BigQuiet
import Derived.Laws.IdiomStrings
section
/- sorts.Merge: the closure, and merge[string]. -/
set_option linter.unusedVariables false
set_option linter.unusedSimpArgs false
namespace Go.Proofs.YtaekgfmcelckoaaDoor.P
open Go.RowKit Go.Proofs Go.Proofs.YtaekgfmcelckoaaDoor.Q Go.Proofs.YtaekgfmcelckoaaDoor.H Go.Proofs.YtaekgfmcelckoaaDoor.K Go.Proofs.YtaekgfmcelckoaaDoor.S Go.Proofs.YtaekgfmcelckoaaDoorW.PrintWords Go.Proofs.YtaekgfmcelckoaaDoorW.PrintLast

set_option maxHeartbeats 1000000 in
set_option maxRecDepth 100000 in
theorem mergeF_calls (nu fo bl re : Bool) (f t : Int) (c : UInt8) (x y : ByteArray) (hx : x.size ≤ 1000000) (hy : y.size ≤ 1000000) (Bo : Nat) (w : World) (h3 : w.heap[Bo]? = some (ordObj nu fo bl re f t c)) :
    Calls Tryd.prog 42 #[.string x, .string y, .pointer (some ⟨Bo, 0, none⟩)] w fun e w' => e = .returned (.int .i64 (wholeO nu fo bl re f t c x.data.toList y.data.toList)) ∧ Below w.heap.size w w' := by
  obtain ⟨kw, hkw⟩ := (whole_f nu fo bl re f t (c.toNat : Int) ⟨by omega, by have := c.toNat_lt; omega⟩ x y hx hy).at_
  rw [u8_of] at hkw
  obtain ⟨Wn, hWn⟩ : ∃ n, wholeO nu fo bl re f t c x.data.toList y.data.toList = n := ⟨_, rfl⟩
  rw [hWn] at hkw ⊢
  have HK := Lib.hid (fun V => sorts_whole.calls kw nu fo bl re f t (c.toNat : Int) x y Wn V hkw)
  obtain ⟨e0, e1, e2, e3⟩ := ord_cells7 h3
  obtain ⟨e4, e5, e6⟩ := ord_cells h3
  clear hkw hWn h3
  go_enter Tryd.func42, Tryd.ntmps42
  go_wp2_with fail
  with_reducible refine (HK.out _).mono ?_
  first | (rintro e w2 rfl hb2) | (rintro e w2 ⟨rfl, hb2⟩)
  have B2 := Lib.hid (show Below w.heap.size w w2 by first | exact hb2 | exact hb2.below)
  clear hb2
  go_wp2
  go_ret
  exact ⟨rfl, B2.out⟩
section
variable {ops : Array Oper} {rest : List Oper} {o : Oper} {a : Act} {Q : Exit → Act → World → Prop}
/-- append(l, m...) where nothing comes. -/
theorem app_zero {w : World} (base : Nat) (hgd : o.guard = none) (s x : Operand) (ho : o.op = .call { callee := .builtin .append, args := #[s, x], argTypes := #[22, 22] })
    (v : Value) (n : Nat) (xs : List Value) (A : Option Addr) (cap : Nat) (hs : a.eval s = v) (hown : w.ownsRow base 9 1 v n xs) (hx : a.eval x = .slice A 0 cap)
    (h : wpList Tryd.prog ops Q rest (a.put o.dst v) w) : wpList Tryd.prog ops Q (o :: rest) a w := by
  refine wpList_plain hgd fun K hK => ?_
  obtain ⟨i0, hi, hz0, hz1, hz2⟩ := info_parts infoS
  have hrun : (Builtin.append_ #[22, 22] o.type #[v, .slice A 0 cap]).run Tryd.prog w = .ok v w := by
    rcases hown.2 with ⟨rfl, rfl⟩ | ⟨g, c', cur, rfl, _, _, hnc, _⟩
    · cases A <;> simp [Builtin.append_, run_underlying Tryd.underlying22, sizeOf, typeInfo, hi, Builtin.lenOf, Builtin.firstCells, loadCells, loadCellsFrom]
    · cases A <;> simp [Builtin.append_, run_underlying Tryd.underlying22, sizeOf, typeInfo, hi, Builtin.lenOf, Builtin.firstCells, hnc, storeCells, loadCells, loadCellsFrom]
  unfold Oper.wp
  simp [execOp, ho, resolve, invoke, builtin, hs, hx, hrun, Result.andThen]
  exact hK _ _ h
/-- append(l, m...). -/
theorem app_texts (w : World) (base : Nat) (hgd : o.guard = none) (s x : Operand) (ho : o.op = .call { callee := .builtin .append, args := #[s, x], argTypes := #[22, 22] })
    (v : Value) (L M : List ByteArray) (A : Option Addr) (m cap : Nat) (hm : M.length = m) (hs : a.eval s = v) (hx : a.eval x = .slice A m cap) (HO : Txs base v L w) (hC : 0 < m → ∃ ad, A = some ad ∧ ∀ j u, (strs M)[j]? = some u → w.cell? (ad.add j) = some u) (hbase : base ≤ w.heap.size) (hl : L.length + m ≤ 8000000000000)
    (h : ∀ v1 w1, Txs base v1 (L ++ M) w1 → w.grownBy w1 v.ownBlock → wpList Tryd.prog ops Q rest (a.put o.dst v1) w1) :
    wpList Tryd.prog ops Q (o :: rest) a w := by
  by_cases hm0 : m = 0
  · subst hm0
    refine app_zero base hgd s x ho v L.length (strs L) A cap hs HO hx (h v w ?_ ⟨rfl, rfl, rfl, Nat.le_refl _, fun _ _ _ => rfl⟩)
    rw [List.eq_nil_of_length_eq_zero hm, List.append_nil]
    exact HO
  · obtain ⟨ad, rfl, hC'⟩ := hC (by omega)
    obtain ⟨i0, hi, hz0, hz1, hz2⟩ := info_parts infoS
    refine wpList_append_own _ hgd s x 22 ho base 9 i0 (.string ⟨#[]⟩) 1 16 Tryd.underlying22 hi hz0 hz1 hz2 rfl (by decide) v L.length (strs L) hs HO ad m cap (strs M) hx (by rw [strs_length, hm]; omega) hC' ?c2 ?c3 ?c4 hbase ?_
    case c2 => intro u hu; simp only [strs, List.mem_map] at hu; obtain ⟨y, _, rfl⟩ := hu; rfl
    case c3 => unfold maxLen; omega
    case c4 => omega
    intro v1 w1 hown hg _
    refine h v1 w1 ?_ hg
    unfold Txs
    rw [strs_append, List.length_append, hm]
    exact hown
end
structure MG (c : List UInt8 → List UInt8 → Int) (w : World) (l : List ByteArray) (La Lb L : List ByteArray) (pa pb : Option Addr) (v : Value) (W : World) : Prop where
  ra : Kd.C Kd.string w pa La.length La
  rb : Kd.C Kd.string w pb Lb.length Lb
  own : Txs w.heap.size v L W
  low : Below w.heap.size w W
  perm : (L ++ (La ++ Lb)).Perm l
  asc : Asc c L
  aa : Asc c La
  ab : Asc c Lb
  la : ∀ x ∈ L, ∀ y ∈ La, c x.data.toList y.data.toList ≤ 0
  lb : ∀ x ∈ L, ∀ y ∈ Lb, c x.data.toList y.data.toList ≤ 0
section
variable {c : List UInt8 → List UInt8 → Int} {w : World} {l La Lb L : List ByteArray} {pa pb : Option Addr} {v : Value} {W W' : World}
theorem MG.swap (h : MG c w l La Lb L pa pb v W) : MG c w l Lb La L pb pa v W :=
  ⟨h.rb, h.ra, h.own, h.low, (List.Perm.append_left L List.perm_append_comm).trans h.perm, h.asc, h.ab, h.aa, h.lb, h.la⟩
theorem MG.below (h : MG c w l La Lb L pa pb v W) (hb : Below W.heap.size W W') : MG c w l La Lb L pa pb v W' :=
  ⟨h.ra, h.rb, h.own.below hb, bth h.low hb, h.perm, h.asc, h.aa, h.ab, h.la, h.lb⟩
theorem MG.step (ho : Ord c) {x y : ByteArray} {pa' : Option Addr} {v' : Value} (h : MG c w l (x :: La) (y :: Lb) L pa pb v W) (hxy : c x.data.toList y.data.toList ≤ 0) (hr : Kd.C Kd.string w pa' La.length La) (hv : Txs w.heap.size v' (L ++ [x]) W') (hb : Below w.heap.size w W') : MG c w l La (y :: Lb) (L ++ [x]) pa' pb v' W' := by
  obtain ⟨a1, a2⟩ := List.pairwise_cons.1 h.aa
  obtain ⟨b1, b2⟩ := List.pairwise_cons.1 h.ab
  refine ⟨hr, h.rb, hv, hb, ?_, ?_, a2, h.ab, ?_, ?_⟩
  · rw [List.append_assoc]; exact h.perm
  · refine List.pairwise_append.2 ⟨h.asc, List.pairwise_singleton _ _, fun z hz u hu => ?_⟩
    rw [List.mem_singleton.1 hu]
    exact h.la z hz x (by simp)
  · intro z hz u hu
    rcases List.mem_append.1 hz with hz | hz
    · exact h.la z hz u (by simp [hu])
    · rw [List.mem_singleton.1 hz]; exact a1 u hu
  · intro z hz u hu
    rcases List.mem_append.1 hz with hz | hz
    · exact h.lb z hz u hu
    · rw [List.mem_singleton.1 hz]
      rcases List.mem_cons.1 hu with rfl | hu
      · exact hxy
      · exact (ho.go x.data.toList y.data.toList u.data.toList hxy (b1 u hu)).1
theorem MG.end_ (h : MG c w l La Lb L pa pb v W) (he : La = [] ∨ Lb = []) : Asc c (L ++ La ++ Lb) := by
  unfold Asc
  rcases he with rfl | rfl
  · rw [List.append_nil]
    exact List.pairwise_append.2 ⟨h.asc, h.ab, fun z hz u hu => h.lb z hz u hu⟩
  · rw [List.append_nil]
    exact List.pairwise_append.2 ⟨h.asc, h.aa, fun z hz u hu => h.la z hz u hu⟩
end
theorem C_cells {W : World} {A : Option Addr} {l : List ByteArray} (h : Kd.C Kd.string W A l.length l) : 0 < l.length → ∃ ad, A = some ad ∧ ∀ i u, (strs l)[i]? = some u → W.cell? (ad.add i) = some u := fun h0 => by
  obtain ⟨ad, hA, -⟩ := h.2.2 (by omega)
  refine ⟨ad, hA, fun i u hu => ?_⟩
  obtain ⟨hi, hu⟩ := List.getElem?_eq_some_iff.1 hu
  rw [strs_length] at hi
  obtain ⟨ad', e, hx⟩ := C_at h (Below.refl _ _) i (by omega)
  obtain rfl := Option.some.inj (hA.symm.trans e)
  rw [hx, ← hu]
  simp [strs]
theorem C_tail {W : World} {ad : Addr} {x : ByteArray} {l : List ByteArray} {q : Option Addr} (h : Kd.C Kd.string W (some ad) (x :: l).length (x :: l)) (hq : 0 < l.length → q = some (ad.add 1)) : Kd.C Kd.string W q l.length l := by
  refine ⟨rfl, by have := h.2.1; rw [List.length_cons] at this; omega, fun hn => ?_⟩
  refine ⟨ad.add 1, hq hn, fun j s hj => ⟨[.string s], rfl, rfl, fun t u ht => ?_⟩⟩
  obtain ⟨hlt, hx⟩ := List.getElem?_eq_some_iff.1 hj
  have ht0 : t = 0 := by
    have := (List.getElem?_eq_some_iff.1 ht).1
    simpa using this
  subst ht0
  obtain ⟨ad', had, hc⟩ := C_at h (Below.refl _ _) (j + 1) (by rw [List.length_cons]; omega)
  obtain rfl := Option.some.inj had
  rw [List.getElem_cons_succ, hx] at hc
  rw [Addr.add_add, show Kd.string.sz = 1 from rfl, Nat.mul_one, Nat.add_zero, Nat.add_comm 1 j, hc]
  exact ht
set_option maxHeartbeats 2000000 in
set_option maxRecDepth 100000 in
theorem merge_calls (nu fo bl re : Bool) (f t : Int) (c : UInt8) (l1 l2 : List ByteArray) (A1 A2 : Option Addr) (c1 c2 Bo : Nat) (w : World) (h3 : w.heap[Bo]? = some (ordObj nu fo bl re f t c)) (r1 : Kd.C Kd.string w A1 l1.length l1) (r2 : Kd.C Kd.string w A2 l2.length l2) (k1 : l1.length ≤ c1) (k2 : l2.length ≤ c2)
    (hs : ∀ s ∈ l1 ++ l2, s.size ≤ 1000000) (hn : l1.length + l2.length ≤ 2000000) (a1 : Asc (wholeO nu fo bl re f t c) l1) (a2 : Asc (wholeO nu fo bl re f t c) l2) :
    Calls Tryd.prog 41 #[.slice A1 l1.length c1, .slice A2 l2.length c2, .func (.func 42) #[] #[.pointer (some ⟨Bo, 0, none⟩)]] w fun e w' => ∃ v R, e = .returned v ∧ Txs w.heap.size v R w' ∧ R.Perm (l1 ++ l2) ∧ Asc (wholeO nu fo bl re f t c) R ∧ Below w.heap.size w w' := by
  obtain ⟨i0, hi, hzz0, hzz1, hzz2⟩ := info_parts infoS
  have ho := Ord.wholeO nu fo bl re f t c
  have H0 : Hid (MG (wholeO nu fo bl re f t c) w (l1 ++ l2) l1 l2 [] A1 A2 (.slice none 0 0) w) := Lib.hid ⟨r1, r2, Txs.nil _ _, Below.refl _ _, by simp, List.Pairwise.nil, a1, a2, fun _ h => by simp at h, fun _ h => by simp at h⟩
  have HB := Lib.hid (show ∀ V, Below w.heap.size w V → V.heap[Bo]? = some (ordObj nu fo bl re f t c) from fun V h => (h.block _ (Array.getElem?_eq_some_iff.1 h3).1).trans h3)
  have HS := Lib.hid hs
  have hnl : (l1 ++ l2).length ≤ 2000000 := by rw [List.length_append]; exact hn
  obtain ⟨l, hl⟩ : ∃ l, l1 ++ l2 = l := ⟨_, rfl⟩
  rw [hl] at H0 HS hnl ⊢
  clear r1 r2 a1 a2 h3 hs hn hl
  go_enter Tryd.func41, Tryd.ntmps41
  go_wp2
  go_loopw [0, 1, 6] (fun a b v wr => ∃ (La Lb L : List ByteArray) (pa pb : Option Addr) (ca cb : Nat), a = .slice pa La.length ca ∧ b = .slice pb Lb.length cb ∧ La.length ≤ ca ∧ Lb.length ≤ cb ∧ Hid (MG (wholeO nu fo bl re f t c) w l La Lb L pa pb v wr)) (fun a b _ _ => H.lenOf a + H.lenOf b)
  case atStart => exact ⟨l1, l2, [], A1, A2, c1, c2, rfl, rfl, k1, k2, H0⟩
  case round =>
    obtain ⟨La, Lb, L, pa, pb, ca, cb, rfl, rfl, hca, hcb, hst⟩ := hrel
    have hll := hst.out.perm.length_eq
    rw [List.length_append, List.length_append] at hll
    have hLL : L.length + (La.length + Lb.length) ≤ 2000000 := by omega
    clear hll
    by_cases he : 0 < La.length ∧ 0 < Lb.length
    · rcases La with _ | ⟨x, La⟩
      · simp at he
      rcases Lb with _ | ⟨y, Lb⟩
      · simp at he
      clear he
      obtain ⟨ad, rfl, hx⟩ := C_at hst.out.ra hst.out.low 0 (by simp)
      obtain ⟨ae, rfl, hy⟩ := C_at hst.out.rb hst.out.low 0 (by simp)
      have hxs : x.size ≤ 1000000 := HS.out x (hst.out.perm.mem_iff.1 (by simp))
      have hys : y.size ≤ 1000000 := HS.out y (hst.out.perm.mem_iff.1 (by simp))
      have hx0 : (x :: La)[0] = x := rfl
      have hy0 : (y :: Lb)[0] = y := rfl
      rw [hx0] at hx
      rw [hy0] at hy
      replace hx : wr.cell? ad = some (.string x) := by simpa [Addr.add] using hx
      replace hy : wr.cell? ae = some (.string y) := by simpa [Addr.add] using hy
      obtain ⟨n, hnw⟩ : ∃ n, wholeO nu fo bl re f t c y.data.toList x.data.toList = n := ⟨_, rfl⟩
      have HM := Lib.hid (fun V h => mergeF_calls nu fo bl re f t c y x hys hxs Bo V h)
      rw [hnw] at HM
      have HNW := Lib.hid hnw
      have HC := Lib.hid (show ∀ V, Below wr.heap.size wr V → V.cell? ad = some (.string x) ∧ V.cell? ae = some (.string y) from fun V h => ⟨pw_cell_below h hx, pw_cell_below h hy⟩)
      have HBW := Lib.hid (show ∀ V, Below wr.heap.size wr V → V.heap[Bo]? = some (ordObj nu fo bl re f t c) from fun V h => HB.out V (bth hst.out.low h))
      clear hx0 hy0 hnw
      rw [List.length_cons, List.length_cons] at *
      obtain ⟨d1, hd1⟩ : ∃ m, ca = m + 1 := ⟨ca - 1, by omega⟩
      obtain ⟨d2, hd2⟩ : ∃ m, cb = m + 1 := ⟨cb - 1, by omega⟩
      subst hd1
      subst hd2
      go_wp2_with fail
      go_region_held3 (fun V => Below wr.heap.size wr V ∧ V.cell? ad = some (.string x) ∧ V.cell? ae = some (.string y))
        (with_reducible first | assumption | exact ⟨by assumption, HC.out _ (by assumption)⟩ | exact ⟨bdr (Below.refl _ _), HC.out _ (bdr (Below.refl _ _))⟩ | exact ⟨Below.refl _ _, HC.out _ (Below.refl _ _)⟩) ((first
        | (go_at_call 42; with_reducible refine (HM.out _ (HBW.out _ (show Below wr.heap.size wr _ ∧ _ from by assumption).1)).mono ?_; rintro e w' ⟨rfl, hbq⟩; have hbq := bth (show Below wr.heap.size wr _ ∧ _ from by assumption).1 hbq)))
      rename World => wq
      have hBQ : Below wr.heap.size wr wq := (show Below wr.heap.size wr _ ∧ _ from by assumption).1
      have ST := Lib.hid (hst.out.below hBQ)
      obtain ⟨hx2, hy2⟩ := HC.out wq hBQ
      have HO := Lib.hid ST.out.own
      have hsz := ST.out.low.size
      have e5 : L.length ≤ 4000000 := by omega
      have e6 : La.length ≤ d1 := by omega
      have e7 : Lb.length ≤ d2 := by omega
      have t1 : (1 : Int) ≤ (La.length : Int) + 1 := by omega
      have t2 : (1 : Int) ≤ (Lb.length : Int) + 1 := by omega
      by_cases hneg : n < 0
      · have g0 : decide (n < 0) = true := decide_eq_true hneg
        have HXY := Lib.hid (show wholeO nu fo bl re f t c y.data.toList x.data.toList ≤ 0 by rw [HNW.out]; omega)
        go_wp2_with fail
        have xd : wq.drew.cell? ae = some (.string y) := hy2
        go_region_law (refine step_append_lies _ rfl (.tmp 26) (.tmp 30) 22 rfl w.heap.size 9 i0 _ 1 16 Tryd.underlying22 hi hzz0 hzz1 hzz2 rfl (by decide) _ L.length (strs L) (by simp [Act.eval, Act.put]) ((HO.out).drew.alloc _) ⟨wq.heap.size, 0, none⟩ 1 1 [.string y] (by simp [Act.eval, Act.put]) rfl (by exact World.news_of_block (heap_alloc_new wq.drew _)) (by simp [Value.oneCell']) (by decide) (by unfold maxLen; omega) (by omega) (by simp; omega) _ rfl ?_; intro g cap w5 hown5 hgrow5 hat5 hlt5)
        have NEWV := Lib.hid (show Txs w.heap.size (.slice (some ⟨g, 0, none⟩) (L.length + 1) cap) (L ++ [y]) w5 by unfold Txs; rw [List.length_append, strs_append]; exact hown5)
        have NEWB := Lib.hid (app_low rfl ST.out.low HO.out hgrow5)
        clear hown5 hgrow5 hat5 hlt5 xd hx2 hy2
        generalize hq : (if d2 = 0 then some ae else some { block := ae.block, off := ae.off + 1 }) = q
        have P1 := Lib.hid (show 0 < Lb.length → q = some (ae.add 1) from fun h => by rw [← hq, if_neg (by omega)]; rfl)
        clear hq
        have NEW := Lib.hid (MG.step ho ST.out.swap HXY.out (C_tail ST.out.swap.ra P1.out) NEWV.out NEWB.out)
        simp only [List.getElem_toArray, List.getElem_cons_succ, List.getElem_cons_zero, Act.put, List.setIfInBounds_toArray, List.set_cons_zero, List.set_cons_succ]
        go_wp2
        go_roundw
        case rel => exact ⟨Lb, x :: La, L ++ [y], q, some ad, d2, d1 + 1, rfl, rfl, e7, by rw [List.length_cons]; omega, NEW⟩
        case measure => simp only [lenOf_slice]; omega
      · have g0 : decide (n < 0) = false := decide_eq_false hneg
        have HXY := Lib.hid (show wholeO nu fo bl re f t c x.data.toList y.data.toList ≤ 0 by have := ho.back y.data.toList x.data.toList; rw [HNW.out] at this; omega)
        go_wp2_with fail
        have xd : wq.drew.cell? ad = some (.string x) := hx2
        go_region_law (refine step_append_lies _ rfl (.tmp 26) (.tmp 30) 22 rfl w.heap.size 9 i0 _ 1 16 Tryd.underlying22 hi hzz0 hzz1 hzz2 rfl (by decide) _ L.length (strs L) (by simp [Act.eval, Act.put]) ((HO.out).drew.alloc _) ⟨wq.heap.size, 0, none⟩ 1 1 [.string x] (by simp [Act.eval, Act.put]) rfl (by exact World.news_of_block (heap_alloc_new wq.drew _)) (by simp [Value.oneCell']) (by decide) (by unfold maxLen; omega) (by omega) (by simp; omega) _ rfl ?_; intro g cap w5 hown5 hgrow5 hat5 hlt5)
        have NEWV := Lib.hid (show Txs w.heap.size (.slice (some ⟨g, 0, none⟩) (L.length + 1) cap) (L ++ [x]) w5 by unfold Txs; rw [List.length_append, strs_append]; exact hown5)
        have NEWB := Lib.hid (app_low rfl ST.out.low HO.out hgrow5)
        clear hown5 hgrow5 hat5 hlt5 xd hx2 hy2
        generalize hq : (if d1 = 0 then some ad else some { block := ad.block, off := ad.off + 1 }) = q
        have P1 := Lib.hid (show 0 < La.length → q = some (ad.add 1) from fun h => by rw [← hq, if_neg (by omega)]; rfl)
        clear hq
        have NEW := Lib.hid (MG.step ho ST.out HXY.out (C_tail ST.out.ra P1.out) NEWV.out NEWB.out)
        simp only [List.getElem_toArray, List.getElem_cons_succ, List.getElem_cons_zero, Act.put, List.setIfInBounds_toArray, List.set_cons_zero, List.set_cons_succ]
        go_wp2
        go_roundw
        case rel => exact ⟨La, y :: Lb, L ++ [x], q, some ae, d1, d2 + 1, rfl, rfl, e6, by rw [List.length_cons]; omega, NEW⟩
        case measure => simp only [lenOf_slice]; omega
    · have HCA := Lib.hid (C_cells (Kd.C_below hst.out.ra hst.out.low))
      have HEND := Lib.hid (hst.out.end_ (by
        by_cases h : La.length = 0
        · exact .inl (List.eq_nil_of_length_eq_zero h)
        · exact .inr (List.eq_nil_of_length_eq_zero (by omega))))
      by_cases ha0 : 0 < La.length
      · have g0 : decide ((0 : Int) < (La.length : Int)) = true := decide_eq_true (by omega)
        have g1 : decide (0 < La.length) = true := decide_eq_true (by omega)
        have g2 : decide ((0 : Int) < (Lb.length : Int)) = false := decide_eq_false (by omega)
        have g3 : decide (0 < Lb.length) = false := decide_eq_false (by omega)
        clear he
        go_wp2_with (at_builtin; go_loud (refine app_texts _ w.heap.size rfl (.tmp 34) (.tmp 35) rfl u6 L La pa La.length ca rfl rfl rfl hst.out.own HCA.out hst.out.low.size (by omega) ?_))
        intro v1 w5 h5 g5
        have D5 := Lib.hid (And.intro h5 (hst.out.low.grown g5 hst.out.low.size (fun b hb => own_base hst.out.own b hb)))
        clear h5 g5
        have HCB := Lib.hid (C_cells (Kd.C_below hst.out.rb D5.out.2))
        have hl2 := Lib.hid (show (L ++ La).length + Lb.length ≤ 8000000000000 by rw [List.length_append]; omega)
        go_wp2_with (at_builtin; go_loud (refine app_texts _ w.heap.size rfl (.tmp 36) (.tmp 37) rfl v1 (L ++ La) Lb pb Lb.length cb rfl rfl rfl D5.out.1 HCB.out D5.out.2.size hl2.out ?_))
        intro v2 w6 h6 g6
        have D6 := Lib.hid (And.intro h6 (D5.out.2.grown g6 D5.out.2.size (fun b hb => own_base D5.out.1 b hb)))
        clear h6 g6
        go_wp2
        go_ret
        exact ⟨v2, L ++ (La ++ Lb), rfl, D6.out.1, hst.out.perm, by rw [← List.append_assoc]; exact HEND.out, D6.out.2⟩
      · have g0 : decide ((0 : Int) < (La.length : Int)) = false := decide_eq_false (by omega)
        have g1 : decide (0 < La.length) = false := decide_eq_false (by omega)
        clear he
        go_wp2_with (at_builtin; go_loud (refine app_texts _ w.heap.size rfl (.tmp 34) (.tmp 35) rfl u6 L La pa La.length ca rfl rfl rfl hst.out.own HCA.out hst.out.low.size (by omega) ?_))
        intro v1 w5 h5 g5
        have D5 := Lib.hid (And.intro h5 (hst.out.low.grown g5 hst.out.low.size (fun b hb => own_base hst.out.own b hb)))
        clear h5 g5
        have HCB := Lib.hid (C_cells (Kd.C_below hst.out.rb D5.out.2))
        have hl2 := Lib.hid (show (L ++ La).length + Lb.length ≤ 8000000000000 by rw [List.length_append]; omega)
        go_wp2_with (at_builtin; go_loud (refine app_texts _ w.heap.size rfl (.tmp 36) (.tmp 37) rfl v1 (L ++ La) Lb pb Lb.length cb rfl rfl rfl D5.out.1 HCB.out D5.out.2.size hl2.out ?_))
        intro v2 w6 h6 g6
        have D6 := Lib.hid (And.intro h6 (D5.out.2.grown g6 D5.out.2.size (fun b hb => own_base D5.out.1 b hb)))
        clear h6 g6
        go_wp2
        go_ret
        exact ⟨v2, L ++ (La ++ Lb), rfl, D6.out.1, hst.out.perm, by rw [← List.append_assoc]; exact HEND.out, D6.out.2⟩
end Go.Proofs.YtaekgfmcelckoaaDoor.P

end
section
/- sorts.Merge: lists as one. -/
set_option linter.unusedVariables false
set_option linter.unusedSimpArgs false
namespace Go.Proofs.YtaekgfmcelckoaaDoor.P
open Go.RowKit Go.Proofs Go.Proofs.YtaekgfmcelckoaaDoor.Q Go.Proofs.YtaekgfmcelckoaaDoor.H Go.Proofs.YtaekgfmcelckoaaDoor.K Go.Proofs.YtaekgfmcelckoaaDoor.S Go.Proofs.YtaekgfmcelckoaaDoorW.PrintWords Go.Proofs.YtaekgfmcelckoaaDoorW.PrintLast

theorem chk_le (nu fo bl re : Bool) (f t : Int) (c : UInt8) : ∀ (l : List ByteArray) (i : Nat), chkL false nu fo bl re f t c l i = -1 ∨ 0 ≤ chkL false nu fo bl re f t c l i
  | [], _ => .inl rfl
  | [_], _ => .inl rfl
  | x :: y :: l, i => by
    simp only [chkL]
    split
    · exact .inr (by omega)
    · exact chk_le nu fo bl re f t c (y :: l) (i + 1)
theorem check_le (nu fo bl re : Bool) (f t : Int) (c : UInt8) (l : List ByteArray) : checkL false nu fo bl re f t c l = -1 ∨ 0 ≤ checkL false nu fo bl re f t c l := by
  unfold checkL
  split
  · exact chk_le nu fo bl re f t c l 1
  · exact .inl rfl
theorem asc_chk (nu fo bl re : Bool) (f t : Int) (c : UInt8) : ∀ (l : List ByteArray) (i : Nat), chkL false nu fo bl re f t c l i = -1 → Asc (wholeO nu fo bl re f t c) l
  | [], _, _ => List.Pairwise.nil
  | [x], _, _ => List.pairwise_singleton _ _
  | x :: y :: l, i, h => by
    simp only [chkL] at h
    split at h
    · omega
    · rename_i hb
      have ih := asc_chk nu fo bl re f t c (y :: l) (i + 1) h
      have h1 : wholeO nu fo bl re f t c x.data.toList y.data.toList ≤ 0 := by
        unfold badO at hb
        simp at hb
        exact hb
      refine List.pairwise_cons.2 ⟨fun z hz => ?_, ih⟩
      rcases List.mem_cons.1 hz with rfl | hz
      · exact h1
      · exact ((Ord.wholeO nu fo bl re f t c).go x.data.toList y.data.toList z.data.toList h1 ((List.pairwise_cons.1 ih).1 z hz)).1
theorem asc_check (nu fo bl re : Bool) (f t : Int) (c : UInt8) (hck : checkO f t c = true) (l : List ByteArray) (h : checkL false nu fo bl re f t c l = -1) : Asc (wholeO nu fo bl re f t c) l := by
  unfold checkL at h
  rw [if_pos hck] at h
  exact asc_chk nu fo bl re f t c l 1 h
theorem ordBox' (W : World) (nu fo bl re : Bool) (f t : Int) (c : UInt8) (V : World) (h : Below (W.alloc (.cells #[.bool nu, .bool fo, .bool bl, .bool re, .int .i64 f, .int .i64 t, .int .u8 (c.toNat : Int)] 36)).heap.size (W.alloc (.cells #[.bool nu, .bool fo, .bool bl, .bool re, .int .i64 f, .int .i64 t, .int .u8 (c.toNat : Int)] 36)) V) : V.heap[W.heap.size]? = some (ordObj nu fo bl re f t c) :=
  (h.block W.heap.size (by simp)).trans (World.alloc_heap_new W _)
theorem keysCheck_ord (nu fo bl re : Bool) (f t : Int) (c : UInt8) (V : World) : Calls Tryd.prog 18 #[.agg #[.bool nu, .bool fo, .bool bl, .bool re, .int .i64 f, .int .i64 t, .int .u8 (c.toNat : Int)]] V fun e w' => e = .returned (.bool (checkO f t c)) ∧ Below V.heap.size V w' :=
  keys_Check.calls 1 nu fo bl re f t (c.toNat : Int) (checkO f t c) V (check_f 0 nu fo bl re f t c)
theorem txs_mono {b b' : Nat} {v : Value} {L : List ByteArray} {W : World} (h : Txs b v L W) (hb : b' ≤ b) : Txs b' v L W :=
  ⟨h.1, h.2.imp_right (fun ⟨g, cap, cur, e, hg, r⟩ => ⟨g, cap, cur, e, Nat.le_trans hb hg, r⟩)⟩
theorem C_own {b : Nat} {A : Option Addr} {n cp : Nat} {L : List ByteArray} {W : World} (h : Txs b (.slice A n cp) L W) : Kd.C Kd.string W A L.length L := by
  obtain ⟨A', c', e, h1, h2⟩ := h.reads
  injection e with e1 _ _
  rw [e1]; exact h2
theorem sum_le (L : List (List ByteArray)) (k : Nat) : ((L.take k).map List.length).sum ≤ (L.map List.length).sum := by
  have e : L = L.take k ++ L.drop k := (List.take_append_drop _ _).symm
  have : (L.map List.length).sum = ((L.take k).map List.length).sum + ((L.drop k).map List.length).sum := by
    conv => lhs; rw [e]
    rw [List.map_append, List.sum_append]
  omega
theorem flat_len (L : List (List ByteArray)) : L.flatten.length = (L.map List.length).sum := List.length_flatten
set_option maxHeartbeats 2000000 in
set_option maxRecDepth 100000 in
theorem Merge_calls (nu fo bl re : Bool) (f t : Int) (c : UInt8) (hck : checkO f t c = true) (A : Option Addr) (cp : Nat) (L : List (List ByteArray)) (w : World) (hr : RowsAt w A L) (hc : L.length ≤ cp) (hL : L.length ≤ 1000) (hs : ∀ x ∈ L, ∀ s ∈ x, s.size ≤ 1000000) (hn : (L.map List.length).sum ≤ 65536) :
    Calls Tryd.prog 24 #[.agg #[.bool nu, .bool fo, .bool bl, .bool re, .int .i64 f, .int .i64 t, .int .u8 (c.toNat : Int)], .slice A L.length cp] w fun e w' => ((e = .returned (.tuple #[.slice none 0 0, .int .i64 1]) ∧ ∃ x ∈ L, 0 ≤ checkL false nu fo bl re f t c x) ∨ ((∀ x ∈ L, checkL false nu fo bl re f t c x = -1) ∧ ∃ v R, e = .returned (.tuple #[v, .int .i64 0]) ∧ Txs w.heap.size v R w' ∧ R.Perm L.flatten ∧ Asc (wholeO nu fo bl re f t c) R)) ∧ Below w.heap.size w w' := by
  obtain ⟨W0, hW0⟩ : ∃ W0, w.alloc (.cells #[.bool nu, .bool fo, .bool bl, .bool re, .int .i64 f, .int .i64 t, .int .u8 (c.toNat : Int)] 36) = W0 := ⟨_, rfl⟩
  have HOX := Lib.hid (show ∀ V, Below W0.heap.size W0 V → V.heap[w.heap.size]? = some (ordObj nu fo bl re f t c) from fun V h => ordBox' w nu fo bl re f t c V (by rw [hW0]; exact h))
  have HL0 := Lib.hid (show Below w.heap.size w W0 by rw [← hW0]; exact bal (Below.refl _ _) _)
  have HR := Lib.hid (hr.below HL0.out)
  have HK := Lib.hid (fun V => keysCheck_ord nu fo bl re f t c V)
  rw [hck] at HK
  have HCK := Lib.hid hck
  have HS := Lib.hid hs
  have HN := Lib.hid hn
  have HW := Lib.hid hW0
  clear hr hW0 hck hs
  obtain ⟨e0, e1, e2, e3⟩ := ord_cells7 (HOX.out W0 (Below.refl _ _))
  obtain ⟨e4, e5, e6⟩ := ord_cells (HOX.out W0 (Below.refl _ _))
  go_enter Tryd.func24, Tryd.ntmps24
  go_wp2_with fail
  rw [HW.out]
  with_reducible refine (HK.out _).mono ?_
  rintro e w1 ⟨rfl, hb1⟩
  have B1 := Lib.hid hb1
  clear hb1 e0 e1 e2 e3 e4 e5 e6
  go_wp2
  go_loopw [6, 17] (fun n i wr => ∃ k m : Nat, k ≤ L.length ∧ m ≤ 65536 ∧ i = .int .i64 (k : Int) ∧ n = .int .i64 (m : Int) ∧ Hid (m = ((L.take k).map List.length).sum ∧ (∀ x ∈ L.take k, checkL false nu fo bl re f t c x = -1) ∧ Below W0.heap.size W0 wr)) (fun _ i _ => L.length - (intOf i).toNat)
  case atStart => exact ⟨0, 0, Nat.zero_le _, Nat.zero_le _, rfl, rfl, Lib.hid ⟨rfl, fun x hx => by simp at hx, B1.out⟩⟩
  case round =>
    obtain ⟨k, m, hk, hm, rfl, rfl, hst⟩ := hrel
    by_cases hlt : k < L.length
    · obtain ⟨ad, Ai, ci, rfl, hx, hci, hC⟩ := HR.out.below hst.out.2.2 k hlt
      have hss := HS.out L[k] (List.getElem_mem hlt)
      have hst2 := sum_take L k hlt
      have hle := sum_le L (k + 1)
      have htk := List.take_succ_eq_append_getElem hlt
      have hmem := List.getElem_mem hlt
      obtain ⟨x, hxe⟩ : ∃ x, L[k] = x := ⟨_, rfl⟩
      rw [hxe] at hx hci hC hss hst2 htk hmem
      have hm2 : m + x.length ≤ 65536 := by have := HN.out; have := hst.out.1; omega
      have HM2 := Lib.hid (show m + x.length = ((L.take (k + 1)).map List.length).sum by rw [hst2, ← hst.out.1])
      have HTK := Lib.hid htk
      have HCC := Lib.hid hC
      have HCH := Lib.hid (fun V h => check_calls false nu fo bl re f t c Ai ci x V h hci (by omega) hss)
      unfold ordV at HCH
      have hox := HOX.out _ hst.out.2.2
      obtain ⟨e0, e1, e2, e3⟩ := ord_cells7 hox
      obtain ⟨e4, e5, e6⟩ := ord_cells hox
      obtain ⟨r, hre⟩ : ∃ r, checkL false nu fo bl re f t c x = r := ⟨_, rfl⟩
      rw [hre] at HCH
      have HRE := Lib.hid hre
      have HMEM := Lib.hid hmem
      have hr1 : r = -1 ∨ 0 ≤ r := hre ▸ check_le nu fo bl re f t c x
      clear hxe hst2 htk hC hle hox hre hmem
      have hx' := hx
      go_wp2_with fail
      with_reducible refine (HCH.out _ HCC.out).mono ?_
      rintro e w2 ⟨rfl, hb2⟩
      have B2 := Lib.hid (bth hst.out.2.2 hb2)
      clear hb2
      rcases hr1 with rfl | hr1
      · go_wp2
        go_roundw
        case rel => exact ⟨k + 1, m + x.length, hlt, hm2, by go_num, by go_num, Lib.hid ⟨HM2.out, fun y hy => by
          rw [HTK.out] at hy
          rcases List.mem_append.1 hy with h | h
          · exact hst.out.2.1 y h
          · rw [List.mem_singleton.1 h]; exact HRE.out, B2.out⟩⟩
        case measure => simp [intOf]; omega
      · have g0 : decide (0 ≤ r) = true := decide_eq_true hr1
        go_wp2
        go_returns
        exact ⟨.inl ⟨rfl, x, HMEM.out, by rw [HRE.out]; exact hr1⟩, bth HL0.out B2.out⟩
    · obtain rfl : k = L.length := by omega
      have hall : ∀ x ∈ L, checkL false nu fo bl re f t c x = -1 := fun x hx => hst.out.2.1 x (by rw [List.take_length]; exact hx)
      have HALL := Lib.hid hall
      have HASC := Lib.hid (show ∀ x ∈ L, Asc (wholeO nu fo bl re f t c) x from fun x hx => asc_check nu fo bl re f t c HCK.out x (hall x hx))
      have B5 := Lib.hid hst.out.2.2
      have g0 : decide ((65536 : Int) < (m : Int)) = false := decide_eq_false (by omega)
      have g1 : decide (65536 < m) = false := decide_eq_false (by omega)
      clear hall hst
      go_wp2
      go_loopw [9, 34] (fun v i wr => ∃ k : Nat, k ≤ L.length ∧ i = .int .i64 (k : Int) ∧ Hid (∃ R, Txs w.heap.size v R wr ∧ R.Perm (L.take k).flatten ∧ Asc (wholeO nu fo bl re f t c) R ∧ Below W0.heap.size W0 wr)) (fun _ i _ => L.length - (intOf i).toNat)
      case atStart => exact ⟨0, Nat.zero_le _, rfl, Lib.hid ⟨[], Txs.nil _ _, by simp, List.Pairwise.nil, B5.out⟩⟩
      case round =>
        obtain ⟨k, hk, rfl, hst⟩ := hrel
        obtain ⟨R, h1, h2, h3, h4⟩ := hst.out
        by_cases hlt : k < L.length
        · obtain ⟨Av, cv, rfl, hcv, hCv⟩ := h1.reads
          obtain ⟨ad, Ai, ci, rfl, hx, hci, hC⟩ := HR.out.below h4 k hlt
          have hss := HS.out L[k] (List.getElem_mem hlt)
          have hac := HASC.out L[k] (List.getElem_mem hlt)
          have hst2 := sum_take L k hlt
          have hle := sum_le L (k + 1)
          have htk := List.take_succ_eq_append_getElem hlt
          obtain ⟨x, hxe⟩ : ∃ x, L[k] = x := ⟨_, rfl⟩
          rw [hxe] at hx hci hC hss hst2 htk hac
          have hRl : R.length + x.length ≤ 65536 := by
            have e := h2.length_eq
            rw [flat_len] at e
            have := HN.out
            omega
          have hRs : ∀ s ∈ R ++ x, s.size ≤ 1000000 := fun s hs' => by
            rcases List.mem_append.1 hs' with h | h
            · obtain ⟨y, hy, hy2⟩ := List.mem_flatten.1 (h2.mem_iff.1 h)
              exact HS.out y (List.mem_of_mem_take hy) s hy2
            · exact hss s h
          have HPM := Lib.hid (show ∀ R3 : List ByteArray, R3.Perm (R ++ x) → R3.Perm (L.take (k + 1)).flatten from fun R3 h => by
            rw [htk, List.flatten_append]
            refine h.trans ?_
            simpa using h2.append_right x)
          have HMG := Lib.hid (merge_calls nu fo bl re f t c R x Av Ai cv ci w.heap.size wr (HOX.out _ h4) hCv hC hcv hci hRs (by omega) h3 hac)
          have H4 := Lib.hid h4
          have hsz : w.heap.size ≤ wr.heap.size := Nat.le_trans HL0.out.size h4.size
          clear hst2 hle htk hss hac hRs hRl hCv hC h1 h2 h3 h4 hxe hst
          go_wp2_with fail
          with_reducible refine HMG.out.mono ?_
          rintro e w3 ⟨v3, R3, rfl, q1, q2, q3, q4⟩
          have NEW := Lib.hid (show ∃ R, Txs w.heap.size v3 R w3 ∧ R.Perm (L.take (k + 1)).flatten ∧ Asc (wholeO nu fo bl re f t c) R ∧ Below W0.heap.size W0 w3 from ⟨R3, txs_mono q1 hsz, HPM.out R3 q2, q3, bth H4.out q4⟩)
          clear q1 q2 q3 q4
          go_wp2
          go_roundw
          case rel => exact ⟨k + 1, hlt, by go_num, NEW⟩
          case measure => simp [intOf]; omega
        · obtain rfl : k = L.length := by omega
          rw [List.take_length] at h2
          have HF := Lib.hid (And.intro h1 (And.intro h2 (And.intro h3 h4)))
          clear h1 h2 h3 h4 hst
          go_wp2
          go_returns
          exact ⟨.inr ⟨HALL.out, _, R, rfl, HF.out.1, HF.out.2.1, HF.out.2.2.1⟩, bth HL0.out HF.out.2.2.2⟩
end Go.Proofs.YtaekgfmcelckoaaDoor.P

end

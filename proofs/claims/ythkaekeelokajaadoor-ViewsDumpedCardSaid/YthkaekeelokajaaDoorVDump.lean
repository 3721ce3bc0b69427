/- views.Dump: the bytes of a text in octal. -/
import Derived.Test.YthkaekeelokajaaDoorVChunk
import Derived.Test.YthkaekeelokajaaDoorVFmt
import Derived.Test.YthkaekeelokajaaDoorBuild3
import Derived.Deep.RegionHeld3
set_option linter.unusedVariables false
set_option linter.unusedSimpArgs false
namespace Go.Proofs.YthkaekeelokajaaDoor.C
open Go.RowKit Go.Shelf Go.BigFrame Go.Proofs Go.Proofs.YthkaekeelokajaaDoor.H Go.Proofs.YthkaekeelokajaaDoor.B Go.Proofs.YthkaekeelokajaaDoor.Oct Go.Proofs.YthkaekeelokajaaDoorW.PrintWords

attribute [local go_sem] Oper.semAt_some
structure DSt (w W0 : World) (N b : Nat) (a : Nat) (out : List UInt8) (W : World) : Prop where
  at_ : Boxed W (b + 1) 3 (.int .i64 (a : Int))
  bld : BAt N b (Lib.byteCells out) W
  byt : W.heap[b + 2]? = W0.heap[b + 2]?
  low : Below w.heap.size w W
  size : N ≤ W.heap.size
/-- Below N nothing but the builder and the counter has turned; whatever is no cells lies as it lay. -/
structure SB (N b : Nat) (W W' : World) : Prop where
  same : ∀ k, k < N → k ≠ b → k ≠ b + 1 → W'.heap[k]? = W.heap[k]?
  keeps : KeepsOthers W W'
theorem SB.refl (N b : Nat) (W : World) : SB N b W W := ⟨fun _ _ _ _ => rfl, KeepsOthers.refl W⟩
theorem SB.trans {N b : Nat} {A B C : World} (h : SB N b A B) (k : SB N b B C) : SB N b A C := ⟨fun i h1 h2 h3 => (k.same i h1 h2 h3).trans (h.same i h1 h2 h3), h.keeps.trans k.keeps⟩
theorem SB.of_below {N b : Nat} {W W' : World} (h : Below W.heap.size W W') (hN : N ≤ W.heap.size) : SB N b W W' := ⟨fun k h1 _ _ => h.block k (by omega), keeps_below h⟩
theorem SB.of_bk {N b : Nat} {bs : List Value} {W W' : World} (h : BK N b bs W W') : SB N b W W' := ⟨fun k h1 h2 _ => h.only.same k h1 h2, h.keeps⟩
theorem SB.of_set (N b : Nat) (W : World) (v : Value) : SB N b W (W.setCell ⟨b + 1, 0, none⟩ v) := ⟨fun k _ _ h3 => Below.heap_setCell _ _ _ k h3, KeepsOthers.setCell _ _ _⟩
theorem bat_box {N b B : Nat} {bs : List Value} {w : World} {t : TypeId} {u : Value} (h : BAt N b bs w) (hB : Boxed w B t u) (hne : B ≠ b) (ht : t ≠ 5) (v : Value) : BAt N b bs (w.setCell ⟨B, 0, none⟩ v) := by
  obtain ⟨p, q, hp, hk, ho⟩ := h
  exact ⟨p, q, hp, (Below.heap_setCell _ _ _ b (Ne.symm hne)).trans hk, own_other ho (grownBy_setCell' w B v) (.inr (Lib.ownBlock_ne ho hB ht))⟩
section
variable {w W0 : World} {N b a : Nat} {out : List UInt8} {W W' : World}
theorem DSt.below (h : DSt w W0 N b a out W) (hw : w.heap.size ≤ W.heap.size) (hb : Below W.heap.size W W') (h2 : b + 2 < N) : DSt w W0 N b a out W' :=
  ⟨(hb.block _ h.at_.lt).trans h.at_, h.bld.on hb, (hb.block (b + 2) (by have := h.size; omega)).trans h.byt, h.low.trans (hb.mono hw), Nat.le_trans h.size hb.size⟩
theorem DSt.bk {out' : List UInt8} (h : DSt w W0 N b a out W) (hb : BK N b (Lib.byteCells out') W W') (h2 : b + 2 < N) (hw : w.heap.size ≤ b) : DSt w W0 N b a out' W' :=
  ⟨(hb.only.same (b + 1) (by omega) (by omega)).trans h.at_, hb.at_, (hb.only.same (b + 2) h2 (by omega)).trans h.byt, h.low.trans (hb.only.below hw (by omega)), Nat.le_trans h.size hb.only.size⟩
theorem DSt.put (h : DSt w W0 N b a out W) (a' : Nat) (hw : w.heap.size ≤ b) : DSt w W0 N b a' out (W.setCell ⟨b + 1, 0, none⟩ (.int .i64 (a' : Int))) :=
  ⟨h.at_.set _, bat_box h.bld h.at_ (by omega) (by decide) _, (Below.heap_setCell _ _ _ (b + 2) (by show b + 2 ≠ b + 1; omega)).trans h.byt, h.low.setCell (p := ⟨b + 1, 0, none⟩) (by show w.heap.size ≤ b + 1; omega) _, by simpa [World.setCell] using h.size⟩
theorem DSt.grown {row : Option Nat} (h : DSt w W0 N b a out W) (h2 : b + 2 < N) (hw : w.heap.size ≤ N) (hg : W.grownBy W' row) (hr : ∀ r, row = some r → N ≤ r ∧ ∃ o : Obj, W.heap[r]? = some o ∧ o.isCells = false) : DSt w W0 N b a out W' := by
  have hsz := h.size
  have hk : ∀ k, k < N → W'.heap[k]? = W.heap[k]? := fun k hk => hg.block k (by omega) (fun e => by have := (hr k e.symm).1; omega)
  obtain ⟨p, q, hp, hb, ho⟩ := h.bld
  have hbl := Boxed.lt h.at_
  have hbN : b + 1 < N := by omega
  refine ⟨(hk _ hbN).trans h.at_, ⟨p, q, hp, (hk b (by omega)).trans hb, own_other ho hg ?_⟩, (hk _ h2).trans h.byt, h.low.grown hg (by have := h.low.size; omega) (fun k e => by have := (hr k e).1; omega), Nat.le_trans hsz hg.size⟩
  rcases ho.2 with ⟨rfl, _⟩ | ⟨g, cap, cur, rfl, _, hgc, _⟩
  · exact .inl rfl
  · refine .inr fun e => ?_
    obtain ⟨_, o, h1, h3⟩ := hr g e.symm
    rw [hgc] at h1
    cases h1
    cases h3
end
/-- What the parts so far have told, and where they end. -/
def dmpF (l : List UInt8) (st : List UInt8 × Nat) (i : Nat) : List UInt8 × Nat := (st.1 ++ octP st.2 7 ++ rowL ((l.drop i).take 16) ++ [10], st.2 + min 16 (l.length - i))
def dmp (l : List UInt8) (pre : List Nat) : List UInt8 × Nat := pre.foldl (dmpF l) ([], 0)
theorem dmp_snoc (l : List UInt8) (pre : List Nat) (i : Nat) : dmp l (pre ++ [i]) = dmpF l (dmp l pre) i := by simp [dmp]
theorem dmp_bound (l : List UInt8) : ∀ (q : Nat), (dmp l ((List.range q).map (16 * ·))).2 = min l.length (16 * q)
  | 0 => by simp [dmp]
  | q + 1 => by
    rw [List.range_succ, List.map_append, List.map_cons, List.map_nil, dmp_snoc]
    have := dmp_bound l q
    simp only [dmpF]
    rw [this]
    omega
theorem dmp_rows (l : List UInt8) : ∀ (d q : Nat), q + d = (l.length + 15) / 16 → (dmp l ((List.range q).map (16 * ·))).1 ++ rows (16 * q) (l.drop (16 * q)) = (dmp l (starts l.length)).1
  | 0, q, h => by
    have e : l.drop (16 * q) = [] := List.drop_eq_nil_of_le (by omega)
    rw [e, rows_nil, List.append_nil]
    unfold starts
    rw [← h]
    rfl
  | d + 1, q, h => by
    have hlt : 16 * q < l.length := by omega
    rw [← dmp_rows l d (q + 1) (by omega), List.range_succ, List.map_append, List.map_cons, List.map_nil, dmp_snoc]
    rw [rows_cons _ _ (by rw [List.length_drop]; omega)]
    simp only [dmpF]
    rw [dmp_bound, Nat.min_eq_right (by omega), List.drop_drop, show 16 * q + 16 = 16 * (q + 1) by omega]
    simp only [List.append_assoc]
theorem dmp_all (l : List UInt8) : dmp l (starts l.length) = (rows 0 l, l.length) := by
  have h1 := dmp_rows l ((l.length + 15) / 16) 0 (by omega)
  have h2 := dmp_bound l ((l.length + 15) / 16)
  apply Prod.ext
  · rw [← h1]; simp [dmp]
  · show (dmp l ((List.range ((l.length + 15) / 16)).map (16 * ·))).2 = _
    rw [h2]
    show _ = l.length
    omega
theorem rowL_len (l : List UInt8) : (rowL l).length = 4 * l.length := by
  unfold rowL
  induction l with
  | nil => rfl
  | cons c l ih =>
    rw [List.flatMap_cons, List.length_append, ih, List.length_cons, octP_len, List.length_cons]
    have h1 := oct_len 3 c.toNat (by have := c.toNat_lt; omega) (by decide)
    omega
/-- How long it can be. -/
theorem dmp_len (l : List UInt8) (hl : l.length < 8 ^ 14) : ∀ (pre : List Nat), pre.length ≤ 100000001 → (dmp l pre).1.length ≤ 100 * pre.length ∧ (dmp l pre).2 ≤ 16 * pre.length := by
  intro pre hp
  obtain ⟨m, hm⟩ : ∃ m, pre.length = m := ⟨_, rfl⟩
  induction m generalizing pre with
  | zero =>
    obtain rfl := List.eq_nil_of_length_eq_zero hm
    simp [dmp]
  | succ m ih =>
    obtain ⟨pre', i, rfl⟩ : ∃ pre' i, pre = pre' ++ [i] := ⟨pre.dropLast, pre.getLast (by intro e; rw [e] at hm; cases hm), (List.dropLast_concat_getLast _).symm⟩
    rw [List.length_append, List.length_singleton] at hm hp ⊢
    obtain ⟨h1, h2⟩ := ih pre' (by omega) (by omega)
    rw [dmp_snoc]
    simp only [dmpF]
    have h3 := oct_len 14 (dmp l pre').2 (by have : (8 : Nat) ^ 14 = 4398046511104 := rfl; omega) (by decide)
    refine ⟨?_, by omega⟩
    rw [List.length_append, List.length_append, List.length_append, rowL_len, octP_len, List.length_take]
    simp only [List.length_singleton]
    omega
theorem byte_app (a b : List UInt8) : Lib.byteCells (a ++ b) = Lib.byteCells a ++ Lib.byteCells b := by simp [Lib.byteCells]
theorem str_byte (l : List UInt8) : Lib.strCells ⟨l.toArray⟩ = Lib.byteCells l := by simp [Lib.strCells, Lib.byteCells]
end Go.Proofs.YthkaekeelokajaaDoor.C

/- The reference's Join: the walk. -/
import Derived.Test.YtlicjpbmlmongaaGreatDoorVJoin
import Derived.Test.YtlicjpbmlmongaaGreatDoorVRefF
import Derived.Test.YtlicjpbmlmongaaGreatDoorVApp
import Derived.Test.YtlicjpbmlmongaaGreatDoorBook1
import Derived.Deep.RegionLaw
import Derived.Deep.RegionHeld3
import Derived.BigRegion
import Derived.Handy
set_option linter.unusedVariables false
set_option linter.unusedSimpArgs false
namespace Go.Proofs.YtlicjpbmlmongaaGreatDoor.P
open Go.RowKit Go.Proofs Go.Proofs.YtlicjpbmlmongaaGreatDoor.Q Go.Proofs.YtlicjpbmlmongaaGreatDoor.H Go.Proofs.YtlicjpbmlmongaaGreatDoor.S Go.Proofs.YtlicjpbmlmongaaGreatDoor.C Go.Proofs.YtlicjpbmlmongaaGreatDoorW.PrintWords Go.Proofs.YtlicjpbmlmongaaGreatDoorW.PrintLast

theorem own_of_R {W : World} {base : Nat} {ok : Nat → Prop} {v : Value} {l : List ByteArray} (h : Kd.R Kd.string 9 W base ok v l) : W.ownsRow base 9 1 v l.length (strs l) := by
  obtain ⟨_, inner, h1, hl, hj⟩ := h
  have e : inner = strs l := by
    have hl' : inner.length = l.length := by rw [hl]; exact Nat.mul_one _
    apply List.ext_getElem
    · rw [hl']; simp [strs]
    · intro i h2 h3
      have h4 : i < l.length := by omega
      have h5 : (inner.drop (i * 1)).take 1 = [Value.string l[i]] := hj i l[i] (List.getElem?_eq_getElem h4)
      have h7 := congrArg (fun q => q[0]?) h5
      have h6 : inner[i]? = some (Value.string l[i]) := by simpa using h7
      rw [List.getElem?_eq_getElem h2] at h6
      injection h6 with h6
      rw [h6]
      simp [strs]
  rw [e] at h1
  exact h1
/-- The bytes of a joined line, when so many of the others stand there. -/
def lineB (c : Int) (x : ByteArray) (l : List ByteArray) : List UInt8 := x.data.toList ++ Lib.joinTail [betwB c] (l.map (·.data.toList))
theorem tail_app (sep : List UInt8) (a b : List (List UInt8)) : Lib.joinTail sep (a ++ b) = Lib.joinTail sep a ++ Lib.joinTail sep b := by simp [Lib.joinTail]
theorem lineJ_B (c : Int) (x y : FR) : lineJ c x y = ⟨(lineB c x.1 x.2 ++ Lib.joinTail [betwB c] (y.2.map (·.data.toList))).toArray⟩ := by
  unfold lineJ lineB
  rw [List.singleton_append, List.map_cons, Lib.join_cons, List.map_append, tail_app, List.append_assoc]
theorem lineB_step (c : Int) (x : ByteArray) (l : List ByteArray) (k : Nat) (h : k < l.length) : lineB c x (l.take k) ++ [betwB c] ++ (l[k]).data.toList = lineB c x (l.take (k + 1)) := by
  unfold lineB
  rw [List.take_succ_eq_append_getElem h, List.map_append, tail_app]
  simp [Lib.joinTail]
theorem tail_step (c : Int) (B : List UInt8) (l : List ByteArray) (k : Nat) (h : k < l.length) : B ++ Lib.joinTail [betwB c] ((l.take k).map (·.data.toList)) ++ [betwB c] ++ (l[k]).data.toList = B ++ Lib.joinTail [betwB c] ((l.take (k + 1)).map (·.data.toList)) := by
  rw [List.take_succ_eq_append_getElem h, List.map_append, tail_app]
  simp [Lib.joinTail]
theorem tail_step' (c : Int) (bs : UInt8) (hb : betwB c = bs) (B : List UInt8) (l : List ByteArray) (k : Nat) (h : k < l.length) : B ++ Lib.joinTail [betwB c] ((l.take k).map (·.data.toList)) ++ [bs] ++ (l[k]).data.toList = B ++ Lib.joinTail [betwB c] ((l.take (k + 1)).map (·.data.toList)) := by
  subst hb
  exact tail_step c B l k h
theorem tail_len (c : Int) (l : List ByteArray) (hl : l.length ≤ 20001) (hs : ∀ s ∈ l, s.size ≤ 20000) : (Lib.joinTail [betwB c] (l.map (·.data.toList))).length ≤ 500000000 := by
  rw [Lib.joinTail_length]
  have h := lens_le 20000 (l.map (·.data.toList)) (fun s hs' => by
    obtain ⟨x, hx, rfl⟩ := List.mem_map.1 hs'
    rw [← Lib.size_eq]; exact hs x hx)
  rw [List.length_map] at h ⊢
  have : 20000 * l.length ≤ 20000 * 20001 := Nat.mul_le_mul_left _ hl
  simp only [List.length_singleton]
  omega
theorem tail_take (c : Int) (l : List ByteArray) (k : Nat) (hl : l.length ≤ 20001) (hs : ∀ s ∈ l, s.size ≤ 20000) : (Lib.joinTail [betwB c] ((l.take k).map (·.data.toList))).length ≤ 500000000 :=
  tail_len c (l.take k) (Nat.le_trans (by rw [List.length_take]; exact Nat.min_le_right _ _) hl) (fun s h => hs s (List.mem_of_mem_take h))
theorem lineB_len (c : Int) (x : ByteArray) (l : List ByteArray) (k : Nat) (hx : x.size ≤ 20000) (hl : l.length ≤ 20001) (hs : ∀ s ∈ l, s.size ≤ 20000) : (lineB c x (l.take k)).length ≤ 500020000 := by
  have := tail_take c l k hl hs
  unfold lineB
  rw [List.length_append, ← Lib.size_eq]
  omega
theorem len_tail (c : Int) (x : ByteArray) (l m : List ByteArray) (k : Nat) (hx : x.size ≤ 20000) (hl : l.length ≤ 20001) (hs : ∀ s ∈ l, s.size ≤ 20000) (hm : m.length ≤ 20001) (ht : ∀ s ∈ m, s.size ≤ 20000) : (lineB c x l ++ Lib.joinTail [betwB c] ((m.take k).map (·.data.toList))).length ≤ 1500020000 := by
  have h1 := lineB_len c x l l.length hx hl hs
  rw [List.take_length] at h1
  have h2 := tail_take c m k hm ht
  rw [List.length_append]
  omega
theorem len_both {B : List UInt8} {b : UInt8} {S L : List UInt8} (h : B ++ [b] ++ S = L) (hl : L.length ≤ 1500020000) : (B ++ [b]).length ≤ 140737488355328 ∧ (B ++ [b] ++ S).length ≤ 140737488355328 := by
  subst h
  have e : (B ++ [b] ++ S).length = (B ++ [b]).length + S.length := List.length_append
  have h3 : (1500020000 : Nat) ≤ 140737488355328 := by decide
  have h2 : (B ++ [b]).length ≤ 1500020000 := Nat.le_trans (Nat.le_add_right _ S.length) (e ▸ hl)
  exact ⟨Nat.le_trans h2 h3, Nat.le_trans hl h3⟩
/-- The lines of the first i lines with all, and of the next one with the first k. -/
def linesTo (c : Int) (X Y : List FR) (i k : Nat) : List ByteArray := pairsL (lineJ c) (X.take i) Y ++ (((Y.take k).filter (fun y => decide (y.1 = (X.getD i (⟨#[]⟩, [])).1))).map (lineJ c (X.getD i (⟨#[]⟩, []))))
theorem linesTo_zero (c : Int) (X Y : List FR) (i : Nat) : linesTo c X Y i 0 = pairsL (lineJ c) (X.take i) Y := by simp [linesTo]
theorem linesTo_row (c : Int) (X Y : List FR) (i : Nat) (h : i < X.length) : linesTo c X Y i Y.length = pairsL (lineJ c) (X.take (i + 1)) Y := by
  unfold linesTo pairsL
  rw [List.take_length, List.take_succ_eq_append_getElem h, List.flatMap_append]
  congr 1
  have e : X.getD i (⟨#[]⟩, []) = X[i] := by simp [List.getD_eq_getElem?_getD, h]
  rw [e]
  exact (List.append_nil _).symm
theorem linesTo_step (c : Int) (X Y : List FR) (i k : Nat) (h : i < X.length) (hk : k < Y.length) : linesTo c X Y i (k + 1) = if X[i].1 = Y[k].1 then linesTo c X Y i k ++ [lineJ c X[i] Y[k]] else linesTo c X Y i k := by
  have e : X.getD i (⟨#[]⟩, []) = X[i] := by simp [List.getD_eq_getElem?_getD, h]
  unfold linesTo
  rw [e, List.take_succ_eq_append_getElem hk, List.filter_append, List.map_append]
  by_cases hx : X[i].1 = Y[k].1
  · rw [if_pos hx, List.append_assoc]
    simp [hx]
  · rw [if_neg hx]
    have hx' : ¬ Y[k].1 = X[i].1 := fun e => hx e.symm
    simp [hx']
theorem linesTo_get (c : Int) (X Y : List FR) (i k : Nat) (h : i < X.length) (hk : k < Y.length) (x y : FR) (hx : X.getD i (⟨#[]⟩, []) = x) (hy : Y.getD k (⟨#[]⟩, []) = y) : linesTo c X Y i (k + 1) = if x.1 = y.1 then linesTo c X Y i k ++ [lineJ c x y] else linesTo c X Y i k := by
  have e1 : X[i] = x := by rw [← hx]; simp [List.getD_eq_getElem?_getD, h]
  have e2 : Y[k] = y := by rw [← hy]; simp [List.getD_eq_getElem?_getD, hk]
  have := linesTo_step c X Y i k h hk
  rw [e1, e2] at this
  exact this
theorem pairs_pre (c : Int) (X Y : List FR) (i : Nat) : (pairsL (lineJ c) (X.take i) Y).length ≤ (pairsL (lineJ c) X Y).length := by
  have e : pairsL (lineJ c) X Y = pairsL (lineJ c) (X.take i) Y ++ pairsL (lineJ c) (X.drop i) Y := by
    unfold pairsL
    rw [← List.flatMap_append, List.take_append_drop]
  rw [e, List.length_append]; omega
theorem linesTo_pre (c : Int) (X Y : List FR) (i k : Nat) (h : i < X.length) : (linesTo c X Y i k).length ≤ (pairsL (lineJ c) X Y).length := by
  refine Nat.le_trans ?_ (pairs_pre c X Y (i + 1))
  rw [← linesTo_row c X Y i h]
  unfold linesTo
  rw [List.length_append, List.length_append, List.length_map, List.length_map, List.take_length]
  have := ((List.take_sublist k Y).filter (fun y => decide (y.1 = (X.getD i (⟨#[]⟩, [])).1))).length_le
  omega
/-- A list of bytes, at a value, with whatever room behind it. -/
structure BB (N g cap : Nat) (l : List UInt8) (W : World) : Prop where
  lo : N ≤ g
  hi : g < W.heap.size
  room : l.length ≤ cap
  few : cap ≤ maxLen
  cells : ∀ j (h : j < l.length), W.cell? ⟨g, j, none⟩ = some (.int .u8 (l[j].toNat : Int))
  spare : ∀ j, l.length ≤ j → j < cap → (W.cell? ⟨g, j, none⟩).isSome = true ∧ W.frozen? ⟨g, j, none⟩ = false
theorem BB.same {N g cap : Nat} {l : List UInt8} {W W' : World} (h : BB N g cap l W) (hs : W.heap.size ≤ W'.heap.size) (hb : W'.heap[g]? = W.heap[g]?) : BB N g cap l W' := by
  have c : ∀ j, W'.cell? ⟨g, j, none⟩ = W.cell? ⟨g, j, none⟩ := fun j => by simp only [World.cell?, hb]
  have f : ∀ j, W'.frozen? ⟨g, j, none⟩ = W.frozen? ⟨g, j, none⟩ := fun j => by simp only [World.frozen?, hb]
  exact ⟨h.lo, Nat.lt_of_lt_of_le h.hi hs, h.room, h.few, fun j hj => (c j).trans (h.cells j hj), fun j h1 h2 => by rw [c j, f j]; exact h.spare j h1 h2⟩
theorem BB.conv (W : World) (s : ByteArray) (hs : s.size ≤ 100000000) : BB W.heap.size W.heap.size (grownCap W s.size 0 5) s.data.toList (Lib.bytesWorld W 5 s) := by
  have hl : s.data.toList.length = s.size := (Lib.size_eq s).symm
  have hge := grownCap_ge W s.size 0 5
  refine ⟨Nat.le_refl _, by rw [Lib.bytesWorld_size]; omega, by rw [hl]; exact hge, grownCap_le_maxLen W s.size 0 5 (by unfold maxLen; omega), fun j h => ?_, fun j h1 h2 => ?_⟩
  · rw [Lib.bytesWorld_cell W _ s j (by rw [← hl]; exact h), List.getD_eq_getElem?_getD, List.getElem?_eq_getElem h]; rfl
  · have hb := Lib.bytesWorld_at_new W 5 s
    have hsz : (Lib.bytesCells W 5 s).size = grownCap W s.size 0 5 := by
      unfold Lib.bytesCells
      rw [Array.size_append, Array.size_map, Array.size_replicate]
      have : s.data.size = s.size := rfl
      omega
    constructor
    · simp only [World.cell?, hb]
      simp [hsz, h2]
    · simp only [World.frozen?, hb]
      simp [hsz]
      omega
theorem setCells_heap (b : Nat) : ∀ (vs : List Value) (o : Nat) (w : World), w.grownBy (w.setCells b o vs) (some b)
  | [], _, w => World.grownBy.refl _ _
  | v :: r, o, w => (grown_setC w b o v).trans (setCells_heap b r (o + 1) _)
where
  grown_setC (W : World) (b o : Nat) (v : Value) : W.grownBy (W.setCell ⟨b, o, none⟩ v) (some b) :=
    ⟨rfl, rfl, rfl, (KeepsWalks.setCell W _ v).size, fun k _ hk => Below.heap_setCell _ _ _ k (fun e => hk (by rw [e]))⟩
/-- append(t, y...) of bytes. -/
theorem run_bb (N g cap : Nat) (W : World) (ty : TypeId) (l Y L2 : List UInt8) (hL2 : l ++ Y = L2) (h : BB N g cap l W) (hN : N ≤ W.heap.size) (ad : Addr) (m c : Nat) (hm : Y.length = m) (hY : ∀ j (h : j < Y.length), W.cell? (ad.add j) = some (.int .u8 (Y[j].toNat : Int))) (hl : L2.length ≤ 140737488355328) :
    ∃ g' cap' W', (Builtin.append_ #[89, 89] ty #[.slice (some ⟨g, 0, none⟩) l.length cap, .slice (some ad) m c]).run Tryz.prog W = .ok (.slice (some ⟨g', 0, none⟩) L2.length cap') W' ∧ BB N g' cap' L2 W' ∧ W.grownBy W' (some g) ∧ (g' = g ∨ W.heap.size ≤ g') := by
  subst hL2 hm
  obtain ⟨i0, hi, hz0, hz1, hz2⟩ := info_parts infoB
  rw [List.length_append] at hl ⊢
  have hnew : ∀ j u, (Lib.byteCells Y)[j]? = some u → W.cell? (ad.add j) = some u := by
    intro j u hj
    obtain ⟨hlt, hu⟩ := List.getElem?_eq_some_iff.1 hj
    have hlt' : j < Y.length := by simpa [Lib.byteCells] using hlt
    rw [hY j hlt', ← hu]
    simp [Lib.byteCells]
  have hone : ∀ u ∈ Lib.byteCells Y, u.oneCell' = true := by
    intro u hu
    simp only [Lib.byteCells, List.mem_map] at hu
    obtain ⟨b, _, rfl⟩ := hu
    rfl
  have hbl : ∀ l : List UInt8, (Lib.byteCells l).length = l.length := fun l => by simp [Lib.byteCells]
  by_cases hr : l.length + Y.length ≤ cap
  · have hrun := run_append_room_cells (P := Tryz.prog) W 89 ty 5 i0 Tryz.underlying89 hi g 0 l.length cap ad Y.length c (Lib.byteCells Y) (by rw [hbl, hz1, Nat.mul_one]) hnew hone hr (fun j hj => by
      rw [hbl] at hj; rw [hz1, Nat.zero_add, Nat.mul_one]; exact (h.spare (l.length + j) (by omega) (by omega)).1) (fun j hj => by
      rw [hbl] at hj; rw [hz1, Nat.zero_add, Nat.mul_one]; exact (h.spare (l.length + j) (by omega) (by omega)).2)
    rw [hz1, Nat.zero_add, Nat.mul_one] at hrun
    have hgr := setCells_heap g (Lib.byteCells Y) l.length W
    refine ⟨g, cap, _, hrun, ⟨h.lo, Nat.lt_of_lt_of_le h.hi hgr.size, by rw [List.length_append]; exact hr, h.few, fun j hj => ?_, fun j h1 h2 => ?_⟩, hgr, .inl rfl⟩
    · rw [List.length_append] at hj
      by_cases hjl : j < l.length
      · rw [World.cell?_setCells_out _ _ _ _ _ (fun _ _ => .inl hjl), h.cells j hjl, List.getElem_append_left hjl]
      · obtain ⟨d, rfl⟩ : ∃ d, j = l.length + d := ⟨j - l.length, by omega⟩
        rw [World.cell?_setCells_in g (Lib.byteCells Y) l.length W (fun k hk => by rw [hbl] at hk; exact (h.spare (l.length + k) (by omega) (by omega)).1) d (by rw [hbl]; omega), List.getElem_append_right (by omega)]
        simp [Lib.byteCells]
    · rw [List.length_append] at h1
      rw [World.cell?_setCells_out _ _ _ _ _ (fun _ _ => .inr (by rw [hbl]; exact h1)), World.frozen?_setCells]
      exact h.spare j (by omega) h2
  · obtain ⟨v', W', hrun, ho, hgr⟩ := run_append_arg_grows (P := Tryz.prog) W 89 ty 5 i0 (.int .u8 0) 1 1 Tryz.underlying89 hi hz0 hz1 hz2 rfl (by decide) ⟨g, 0, none⟩ l.length cap (Lib.byteCells l) (by rw [hbl, Nat.mul_one]) (fun j u hj => by
      obtain ⟨hlt, hu⟩ := List.getElem?_eq_some_iff.1 hj
      rw [hbl] at hlt
      rw [Addr.add_lit, Nat.zero_add, h.cells j hlt, ← hu]
      simp [Lib.byteCells]) ad Y.length c (Lib.byteCells Y) (by rw [hbl, Nat.mul_one]) hnew (by omega) (by unfold maxLen; omega) (by omega)
    obtain ⟨g', cap', rfl, hb, hlt⟩ := ho.form (by omega)
    have hcap := twin_cap ho
    rcases ho.2 with ⟨h1, _⟩ | ⟨g2, cap2, cur, he, c1, c2, c3, c4, c5, c6⟩
    · cases h1
    injection he with he _ he2
    injection he with he
    injection he with he
    subst he he2
    have e : Lib.byteCells l ++ Lib.byteCells Y = Lib.byteCells (l ++ Y) := (bts_app l Y).symm
    refine ⟨g', cap', W', hrun, ⟨by omega, hlt, by rw [List.length_append]; exact c3, c4, fun j hj => ?_, fun j h1 h2 => ⟨?_, Lib.frozen_of_heap c2 j⟩⟩, ⟨hgr.os, hgr.tape, hgr.output, hgr.size, fun k hk _ => hgr.block k hk (by simp)⟩, .inr hb⟩
    · have := ho.cells (g := g') rfl j (.int .u8 ((l ++ Y)[j].toNat : Int)) (by rw [e]; simp only [Lib.byteCells, List.getElem?_map, List.getElem?_eq_getElem hj]; rfl)
      rwa [add_plain] at this
    · rw [Lib.cell_of_heap c2, Array.getElem?_eq_getElem (by omega)]
      rfl
theorem BB.text {N g cap : Nat} {l : List UInt8} {W : World} (h : BB N g cap l W) : (convert 89 9 (.slice (some ⟨g, 0, none⟩) l.length cap)).run Tryz.prog W = .ok (.string ⟨l.toArray⟩) W :=
  run_convert_bytes_back (P := Tryz.prog) W 89 9 5 ⟨g, 0, none⟩ cap l Tryz.underlying89 Tryz.underlying5 Tryz.underlying9 (fun j hj => by rw [add_plain]; exact h.cells j hj)
section
variable {ops : Array Oper} {o : Oper} {a : Act} {K : Act → World → Prop} {Q : Exit → Act → World → Prop} {E : Prop}
/-- append(t, y...) of bytes, in a region. -/
theorem step_bb (W : World) (hgd : o.guard = none) (s x : Operand) (ho : o.op = .call { callee := .builtin .append, args := #[s, x], argTypes := #[89, 89] })
    (N g cap : Nat) (l Y L2 : List UInt8) (n n2 : Nat) (hn : l.length = n) (hn2 : L2.length = n2) (hL2 : l ++ Y = L2) (ad : Addr) (m c : Nat) (hs : a.eval s = .slice (some ⟨g, 0, none⟩) n cap) (hx : a.eval x = .slice (some ad) m c) (hm : Y.length = m)
    (hY : ∀ j (h : j < Y.length), W.cell? (ad.add j) = some (.int .u8 (Y[j].toNat : Int))) (HO : BB N g cap l W) (hN : N ≤ W.heap.size) (hl : L2.length ≤ 140737488355328)
    (h : ∀ g1 cap1 w1, BB N g1 cap1 L2 w1 → W.grownBy w1 (some g) → (g1 = g ∨ W.heap.size ≤ g1) → K (a.put o.dst (.slice (some ⟨g1, 0, none⟩) n2 cap1)) w1) :
    if Region.wanted o (yielded ops a.tmps) = true then Oper.wp Tryz.prog o a W K Q else E := by
  have hw : Region.wanted o (yielded ops a.tmps) = true := by simp [Region.wanted, hgd]
  rw [if_pos hw]
  subst hn hn2
  obtain ⟨g1, cap1, w1, hrun, h1, h2, h3⟩ := run_bb N g cap W o.type l Y L2 hL2 HO hN ad m c hm hY hl
  unfold Oper.wp
  simp [execOp, ho, resolve, invoke, builtin, hs, hx, hrun, Result.andThen]
  exact h g1 cap1 w1 h1 h2 h3
end
theorem refJoin_bad (A1 A2 : Option Addr) (n1 p1 n2 p2 : Nat) (f g c : Int) (hb : min f g < 1 ∨ 1000 < max f g ∨ c = 10) (w : World) :
    Calls Tryz.prog 22 #[.slice A1 n1 p1, .slice A2 n2 p2, .int .i64 f, .int .i64 g, .int .u8 c] w fun e w' => e = .returned (.tuple #[.slice none 0 0, .int .i64 1]) ∧ Below w.heap.size w w' := by
  by_cases h1 : f < 1
  · have d1 : decide (f < 1) = true := decide_eq_true h1
    go_enter Tryz.func22, Tryz.ntmps22
    go_wp2
    go_ret2
    exact ⟨rfl, Below.refl _ _⟩
  have d1 : decide (f < 1) = false := decide_eq_false h1
  by_cases h2 : 1000 < f
  · have d2 : decide (1000 < f) = true := decide_eq_true h2
    go_enter Tryz.func22, Tryz.ntmps22
    go_wp2
    go_ret2
    exact ⟨rfl, Below.refl _ _⟩
  have d2 : decide (1000 < f) = false := decide_eq_false h2
  by_cases h3 : g < 1
  · have d3 : decide (g < 1) = true := decide_eq_true h3
    go_enter Tryz.func22, Tryz.ntmps22
    go_wp2
    go_ret2
    exact ⟨rfl, Below.refl _ _⟩
  have d3 : decide (g < 1) = false := decide_eq_false h3
  by_cases h4 : 1000 < g
  · have d4 : decide (1000 < g) = true := decide_eq_true h4
    go_enter Tryz.func22, Tryz.ntmps22
    go_wp2
    go_ret2
    exact ⟨rfl, Below.refl _ _⟩
  have d4 : decide (1000 < g) = false := decide_eq_false h4
  obtain rfl : c = 10 := by omega
  clear hb
  go_enter Tryz.func22, Tryz.ntmps22
  go_wp2
  go_ret2
  exact ⟨rfl, Below.refl _ _⟩
/-- The bytes of a byte's own slice. -/
theorem one_cell (W : World) (b : UInt8) (n : Int) (hn : (b.toNat : Int) = n) : ∀ j (h : j < [b].length), (W.alloc (.cells #[.int .u8 n] 5)).cell? ((⟨W.heap.size, 0, none⟩ : Addr).add j) = some (.int .u8 ([b][j].toNat : Int)) := by
  subst hn
  intro j h
  obtain rfl : j = 0 := by simpa using h
  simp [Addr.add]
theorem str_cells (W : World) (y : ByteArray) : ∀ j (h : j < y.data.toList.length), (Lib.bytesWorld W 5 y).cell? ((⟨W.heap.size, 0, none⟩ : Addr).add j) = some (.int .u8 (y.data.toList[j].toNat : Int)) := by
  intro j h
  rw [add_plain, Lib.bytesWorld_cell W 5 y j (by rw [Lib.size_eq]; exact h), List.getD_eq_getElem?_getD, List.getElem?_eq_getElem h]
  rfl
theorem one_cell2 (W : World) (y : ByteArray) (b : UInt8) (n : Int) (hn : (b.toNat : Int) = n) : ∀ j (h : j < [b].length), ((Lib.bytesWorld W 5 y).alloc (.cells #[.int .u8 n] 5)).cell? ((⟨W.heap.size + 1, 0, none⟩ : Addr).add j) = some (.int .u8 ([b][j].toNat : Int)) := by
  have := one_cell (Lib.bytesWorld W 5 y) b n hn
  rwa [Lib.bytesWorld_size] at this
/-- Cells of a block lie as they lay. -/
theorem cells_same {W W' : World} {b : Nat} {Y : List UInt8} (h : ∀ j (h : j < Y.length), W.cell? ((⟨b, 0, none⟩ : Addr).add j) = some (.int .u8 (Y[j].toNat : Int))) (hb : W'.heap[b]? = W.heap[b]?) : ∀ j (h : j < Y.length), W'.cell? ((⟨b, 0, none⟩ : Addr).add j) = some (.int .u8 (Y[j].toNat : Int)) := by
  intro j hj
  have := h j hj
  rw [add_plain] at this ⊢
  simp only [World.cell?, hb] at this ⊢
  exact this
theorem str_cells3 (W : World) (o : Obj) (y : ByteArray) : ∀ j (h : j < y.data.toList.length), (Lib.bytesWorld (W.alloc o).drew 5 y).cell? ((⟨W.heap.size + 1, 0, none⟩ : Addr).add j) = some (.int .u8 (y.data.toList[j].toNat : Int)) := by
  have h := str_cells (W.alloc o).drew y
  have e : (W.alloc o).drew.heap.size = W.heap.size + 1 := by simp
  rw [e] at h
  exact h
theorem str_cells2 (W : World) (y : ByteArray) (o : Obj) : ∀ j (h : j < y.data.toList.length), ((Lib.bytesWorld W 5 y).alloc o).cell? ((⟨W.heap.size, 0, none⟩ : Addr).add j) = some (.int .u8 (y.data.toList[j].toNat : Int)) :=
  cells_same (str_cells W y) (Lib.alloc_old _ _ _ (by rw [Lib.bytesWorld_size]; exact Nat.lt_succ_self _))
/-- A line put behind the list. -/
theorem join_app {w W w5 : World} {o : Obj} {Ao : Option Addr} {no co g3 cap3 n3 c3 B3 : Nat} {A3 : Option Addr} {L L2 l : List ByteArray} {y : ByteArray} (h1 : TS w (.slice Ao no co) L W) (h2 : W.ownsRow B3 9 1 (.slice A3 n3 c3) n3 (strs l)) (hn : no = L.length)
    (hne : (Value.slice Ao no co).ownBlock = none ∨ (Value.slice Ao no co).ownBlock ≠ (Value.slice A3 n3 c3).ownBlock)
    (ho : w5.ownsRow w.heap.size 9 1 (.slice (some ⟨g3, 0, none⟩) (no + 1) cap3) (no + 1) (strs L ++ [.string y])) (hc : AppCase (W.alloc o) w5 (.slice Ao no co) no g3 cap3) (hL : L2 = L ++ [y]) :
    no + 1 = L2.length ∧ TS w (.slice (some ⟨g3, 0, none⟩) (no + 1) cap3) L2 w5 ∧ w5.ownsRow B3 9 1 (.slice A3 n3 c3) n3 (strs l) ∧ ((Value.slice (some ⟨g3, 0, none⟩) (no + 1) cap3).ownBlock = none ∨ (Value.slice (some ⟨g3, 0, none⟩) (no + 1) cap3).ownBlock ≠ (Value.slice A3 n3 c3).ownBlock) := by
  subst hL hn
  have hlow := bal h1.low o
  have h2' := World.ownsRow.alloc h2 o
  have hb3 := own_base ho g3 rfl
  refine ⟨by simp, ⟨?_, ?_⟩, ?_, ?_⟩
  · unfold Txs
    rw [strs_append, List.length_append, List.length_singleton]
    exact ho
  · rcases hc with ⟨_, hg⟩ | ⟨_, hb⟩
    · exact hlow.grown hg (by have := h1.low.size; simp; omega) (fun b hb => by injection hb with hb; omega)
    · exact bth hlow hb
  · rcases hc with ⟨he, hg⟩ | ⟨_, hb⟩
    · refine own_other h2' hg ?_
      rw [he] at hne
      rcases hne with h | h
      · cases h
      · exact .inr (Ne.symm h)
    · exact pw_own_below h2' hb
  · rcases hc with ⟨he, hg⟩ | ⟨hg, hb⟩
    · rw [he] at hne
      exact hne
    · right
      intro e
      have := own_lt h2 g3 e.symm
      have hz : (W.alloc o).heap.size = W.heap.size + 1 := by simp
      omega
set_option maxHeartbeats 40000000 in
set_option maxRecDepth 100000 in
theorem refJoin_good (A1 A2 : Option Addr) (p1 p2 : Nat) (l1 l2 : List ByteArray) (f g : Nat) (c : Int) (hf1 : 1 ≤ f) (hf2 : f ≤ 1000) (hg1 : 1 ≤ g) (hg2 : g ≤ 1000) (hc : ¬ c = 10) (hz0 : 0 ≤ c) (hz1 : c < 256) (w : World)
    (hr1 : Kd.C Kd.string w A1 l1.length l1) (hr2 : Kd.C Kd.string w A2 l2.length l2) (k1 : l1.length ≤ p1) (k2 : l2.length ≤ p2) (b1 : l1.length ≤ 300) (b2 : l2.length ≤ 300) (s1 : ∀ s ∈ l1, s.size ≤ 20000) (s2 : ∀ s ∈ l2, s.size ≤ 20000) :
    Calls Tryz.prog 22 #[.slice A1 l1.length p1, .slice A2 l2.length p2, .int .i64 (f : Int), .int .i64 (g : Int), .int .u8 c] w fun e w' => ∃ v, e = .returned (.tuple #[v, .int .i64 (ansJ c (l1.map (fieldP c f)) (l2.map (fieldP c g))).2]) ∧ TS w v (ansJ c (l1.map (fieldP c f)) (l2.map (fieldP c g))).1 w' := by
  have d1 : decide ((f : Int) < 1) = false := decide_eq_false (by omega)
  have d2 : decide ((1000 : Int) < (f : Int)) = false := decide_eq_false (by omega)
  have d3 : decide ((g : Int) < 1) = false := decide_eq_false (by omega)
  have d4 : decide ((1000 : Int) < (g : Int)) = false := decide_eq_false (by omega)
  have d5 : (c == 10) = false := by simpa using hc
  obtain ⟨ka, ha⟩ := (refInOrder_f l1 (fun s hs => Nat.le_trans (s1 s hs) (by decide)) (by omega) f hf1 hf2 c).at_
  obtain ⟨kb, hb⟩ := (refInOrder_f l2 (fun s hs => Nat.le_trans (s2 s hs) (by decide)) (by omega) g hg1 hg2 c).at_
  have eX : (l1.map (fieldP c f)).map (·.1) = l1.map fun s => (fieldP c f s).1 := by rw [List.map_map]; rfl
  have eY : (l2.map (fieldP c g)).map (·.1) = l2.map fun s => (fieldP c g s).1 := by rw [List.map_map]; rfl
  have HA := Lib.hid (fun W (h : Below w.heap.size w W) => toolchestref08_inOrder.calls ka A1 p1 l1 (f : Int) c _ W (Kd.C_below hr1 h) k1 ha)
  have HB := Lib.hid (fun W (h : Below w.heap.size w W) => toolchestref08_inOrder.calls kb A2 p2 l2 (g : Int) c _ W (Kd.C_below hr2 h) k2 hb)
  have HR := Lib.hid (And.intro hr1 (And.intro hr2 (And.intro s1 s2)))
  unfold ansJ
  rw [eX, eY]
  clear ha hb hr1 hr2 s1 s2
  cases hsa : sortedP (l1.map fun s => (fieldP c f s).1) with
  | false =>
    rw [hsa] at HA
    rw [if_pos (.inl rfl)]
    clear hsa
    go_enter Tryz.func22, Tryz.ntmps22
    go_wp2_with fail
    with_reducible refine (HA.out _ (Below.refl _ _)).mono ?_
    rintro e w1 ⟨rfl, hb1⟩
    have B1 := Lib.hid hb1
    clear hb1
    go_wp2
    go_ret2
    exact ⟨_, rfl, ⟨World.ownsRow_nil _ _ _ _, B1.out⟩⟩
  | true =>
    cases hsb : sortedP (l2.map fun s => (fieldP c g s).1) with
    | false =>
      rw [hsa] at HA
      rw [hsb] at HB
      rw [if_pos (.inr rfl)]
      clear hsa hsb
      go_enter Tryz.func22, Tryz.ntmps22
      go_wp2_with fail
      with_reducible refine (HA.out _ (Below.refl _ _)).mono ?_
      rintro e w1 ⟨rfl, hb1⟩
      have B1 := Lib.hid hb1
      clear hb1
      go_wp2_with fail
      with_reducible refine (HB.out _ B1.out).mono ?_
      rintro e w2 ⟨rfl, hb2⟩
      have B2 := Lib.hid (bth B1.out hb2)
      clear hb2
      go_wp2
      go_ret2
      exact ⟨_, rfl, ⟨World.ownsRow_nil _ _ _ _, B2.out⟩⟩
    | true =>
      rw [hsa] at HA
      rw [hsb] at HB
      rw [if_neg (by simp)]
      have hX1 : (l1.map (fieldP c f)).length = l1.length := List.length_map _
      have hY1 : (l2.map (fieldP c g)).length = l2.length := List.length_map _
      have hlin : linesJ c (l1.map (fieldP c f)) (l2.map (fieldP c g)) = pairsL (lineJ c) (l1.map (fieldP c f)) (l2.map (fieldP c g)) := pairs_lines (lineJ c) _ _ (by rw [eX]; exact down_up _ hsa) (by rw [eY]; exact down_up _ hsb)
      rw [hlin]
      obtain ⟨X, hX⟩ : ∃ X, l1.map (fieldP c f) = X := ⟨_, rfl⟩
      obtain ⟨Y, hY⟩ : ∃ Y, l2.map (fieldP c g) = Y := ⟨_, rfl⟩
      rw [hX] at hX1 ⊢
      rw [hY] at hY1 ⊢
      have HX := Lib.hid (show ∀ i (h : i < l1.length), X.getD i (⟨#[]⟩, []) = fieldP c f l1[i] from fun i h => by subst hX; simp [List.getD_eq_getElem?_getD, h])
      have HY := Lib.hid (show ∀ i (h : i < l2.length), Y.getD i (⟨#[]⟩, []) = fieldP c g l2[i] from fun i h => by subst hY; simp [List.getD_eq_getElem?_getD, h])
      obtain ⟨RL, RE, hRL⟩ : ∃ RL RE, (if 65536 < (pairsL (lineJ c) X Y).length then (([] : List ByteArray), (3 : Int)) else (pairsL (lineJ c) X Y, 0)) = (RL, RE) := ⟨_, _, rfl⟩
      rw [hRL]
      have HRL := Lib.hid hRL
      clear hRL
      have HXL := Lib.hid hX1
      have HYL := Lib.hid hY1
      clear hsa hsb hlin hX hY eX eY hX1 hY1
      have hsep := betwB_int c hz0 hz1
      have hs2 : ((c == 0) = true ∧ sepOf c = 32) ∨ ((c == 0) = false ∧ sepOf c = c) := by
        unfold sepOf
        by_cases h : c = 0
        · exact .inl ⟨by simpa using h, if_pos h⟩
        · exact .inr ⟨by simpa using h, if_neg h⟩
      obtain ⟨bs, hbs⟩ : ∃ bs, betwB c = bs := ⟨_, rfl⟩
      rw [hbs] at hsep
      have HBS := Lib.hid hbs
      clear hbs
      rcases hs2 with ⟨d6, he⟩ | ⟨d6, he⟩
      all_goals
        rw [he] at hsep
        have HSEP := Lib.hid hsep
        clear hsep he
        go_enter Tryz.func22, Tryz.ntmps22
        go_wp2_with fail
        with_reducible refine (HA.out _ (Below.refl _ _)).mono ?_
        rintro e w1 ⟨rfl, hb1⟩
        have B1 := Lib.hid hb1
        clear hb1
        go_wp2_with fail
        with_reducible refine (HB.out _ B1.out).mono ?_
        rintro e w2 ⟨rfl, hb2⟩
        have B2 := Lib.hid (bth B1.out hb2)
        clear hb2
        go_wp2
        go_loopw [10, 11, 13, 14] (fun r10 r11 vo i wr => ∃ (k : Nat) (Ao : Option Addr) (no co : Nat), k ≤ l1.length ∧ i = .int .i64 (k : Int) ∧ r10 = .slice none 0 0 ∧ r11 = .int .i64 0 ∧ vo = .slice Ao no co ∧ Hid (no = (linesTo c X Y k 0).length ∧ TS w (.slice Ao no co) (linesTo c X Y k 0) wr ∧ (linesTo c X Y k 0).length ≤ 65536)) (fun _ _ _ i _ => l1.length - (intOf i).toNat)
        case atStart => exact ⟨0, none, 0, 0, Nat.zero_le _, rfl, rfl, rfl, rfl, Lib.hid ⟨by rw [linesTo_zero]; rfl, by rw [linesTo_zero]; exact ⟨World.ownsRow_nil _ _ _ _, B2.out⟩, by rw [linesTo_zero]; exact Nat.zero_le _⟩⟩
        case round =>
          obtain ⟨i, Ao, no, co, hi, rfl, rfl, rfl, rfl, hst⟩ := hrel
          by_cases hlt : i < l1.length
          · obtain ⟨ad, rfl, hx⟩ := C_at HR.out.1 hst.out.2.1.low i hlt
            obtain ⟨kf, hkf⟩ := (refField_f l1[i] f hf1 hf2 c (Nat.le_trans (HR.out.2.2.1 _ (List.getElem_mem hlt)) (by decide))).at_
            have hxs := fieldP_short c f l1[i] (HR.out.2.2.1 _ (List.getElem_mem hlt))
            rw [← HX.out i hlt] at hkf hxs
            obtain ⟨s, hse⟩ : ∃ s, l1[i] = s := ⟨_, rfl⟩
            obtain ⟨x, hxe⟩ : ∃ x, X.getD i (⟨#[]⟩, []) = x := ⟨_, rfl⟩
            rw [hse] at hx hkf
            rw [hxe] at hkf hxs
            have HKF := Lib.hid hkf
            have HXE := Lib.hid hxe
            have HXS := Lib.hid hxs
            clear hkf hxe hxs hse
            go_wp2_with fail
            with_reducible refine (toolchestref08_Field.calls kf s (f : Int) c x.1 x.2 _ HKF.out).mono ?_
            rintro e w3 ⟨v1, rfl, hv1, hb3⟩
            have O1 := own_of_R hv1
            obtain ⟨A3, c3, rfl⟩ := Go.Proofs.YtlicjpbmlmongaaGreatDoorW.PrintWords.own_slice O1
            have HO1 := Lib.hid O1
            have HST := Lib.hid (And.intro (And.intro hst.out.1 (hst.out.2.1.below hb3)) (And.intro hst.out.2.2 (And.intro hb3.size (fun b (hb : (Value.slice Ao no co).ownBlock = some b) => own_lt hst.out.2.1.txs b hb))))
            clear hv1 hb3 O1 hst
            obtain ⟨W3, hW3⟩ : ∃ W3, wr = W3 := ⟨_, rfl⟩
            rw [hW3] at HO1 HST
            clear hW3
            go_wp2
            go_loopw [10, 11, 13, 17] (fun r10 r11 vo k wi => ∃ (m : Nat) (Ao : Option Addr) (no co : Nat), m ≤ l2.length ∧ k = .int .i64 (m : Int) ∧ r10 = .slice none 0 0 ∧ r11 = .int .i64 0 ∧ vo = .slice Ao no co ∧ Hid (no = (linesTo c X Y i m).length ∧ TS w (.slice Ao no co) (linesTo c X Y i m) wi ∧ (linesTo c X Y i m).length ≤ 65536 ∧ wi.ownsRow W3.heap.size 9 1 (.slice A3 x.2.length c3) x.2.length (strs x.2) ∧ ((Value.slice Ao no co).ownBlock = none ∨ (Value.slice Ao no co).ownBlock ≠ (Value.slice A3 x.2.length c3).ownBlock))) (fun _ _ _ k _ => l2.length - (intOf k).toNat)
            case atStart => exact ⟨0, Ao, no, co, Nat.zero_le _, rfl, rfl, rfl, rfl, Lib.hid ⟨HST.out.1.1, HST.out.1.2, HST.out.2.1, HO1.out, by
              cases hv : (Value.slice Ao no co).ownBlock with
              | none => exact .inl rfl
              | some b =>
                right
                intro e
                have h1 := HST.out.2.2.2 b hv
                have h2 := own_base HO1.out b e.symm
                omega⟩⟩
            case round =>
              obtain ⟨m, Ao, no, co, hm, rfl, rfl, rfl, rfl, hst⟩ := hrel
              by_cases hlt2 : m < l2.length
              · obtain ⟨ad2, rfl, hx2⟩ := C_at HR.out.2.1 hst.out.2.1.low m hlt2
                obtain ⟨kg, hkg⟩ := (refField_f l2[m] g hg1 hg2 c (Nat.le_trans (HR.out.2.2.2 _ (List.getElem_mem hlt2)) (by decide))).at_
                have hys := fieldP_short c g l2[m] (HR.out.2.2.2 _ (List.getElem_mem hlt2))
                rw [← HY.out m hlt2] at hkg hys
                obtain ⟨s2, hse⟩ : ∃ s, l2[m] = s := ⟨_, rfl⟩
                obtain ⟨y, hye⟩ : ∃ y, Y.getD m (⟨#[]⟩, []) = y := ⟨_, rfl⟩
                rw [hse] at hx2 hkg
                rw [hye] at hkg hys
                have HKG := Lib.hid hkg
                have HYS := Lib.hid hys
                have HLT := Lib.hid (linesTo_get c X Y i m (by rw [HXL.out]; exact hlt) (by rw [HYL.out]; exact hlt2) x y HXE.out hye)
                clear hkg hye hys hse
                go_wp2_with fail
                with_reducible refine (toolchestref08_Field.calls kg s2 (g : Int) c y.1 y.2 _ HKG.out).mono ?_
                rintro e w4 ⟨v2, rfl, hv2, hb4⟩
                have O2 := own_of_R hv2
                obtain ⟨A4, c4, rfl⟩ := Go.Proofs.YtlicjpbmlmongaaGreatDoorW.PrintWords.own_slice O2
                have HO2 := Lib.hid O2
                have HB4 := Lib.hid hb4
                clear hv2 hb4 O2
                by_cases hxy : x.1 = y.1
                · have hql : (x.1.toList == y.1.toList) = true := by rw [hxy]; simp
                  have HXY := Lib.hid hxy
                  have HW4 := Lib.hid (And.intro hst.out.1 (And.intro (hst.out.2.1.below HB4.out) (And.intro hst.out.2.2.1 (And.intro (pw_own_below hst.out.2.2.2.1 HB4.out) hst.out.2.2.2.2))))
                  have HCL := Lib.hid (show Kd.C Kd.string w4 A3 x.2.length x.2 from (Go.Proofs.YtlicjpbmlmongaaGreatDoorW.PrintWords.Kd.R_reads' (R_of_own HW4.out.2.2.2.1)).2.2)
                  have HCR := Lib.hid (show Kd.C Kd.string w4 A4 y.2.length y.2 from (Go.Proofs.YtlicjpbmlmongaaGreatDoorW.PrintWords.Kd.R_reads' (R_of_own HO2.out)).2.2)
                  have hx63 : x.2.length ≤ 9223372036854775807 := by have := HXS.out.2.1; omega
                  have hy63 : y.2.length ≤ 9223372036854775807 := by have := HYS.out.2.1; omega
                  clear hst hxy
                  have BB0 := BB.conv w4 x.1 (by have := HXS.out.1; omega)
                  have LB0 := bby (Below.refl w4.heap.size w4) 5 x.1
                  obtain ⟨Wt, hWt⟩ : ∃ Wt, Lib.bytesWorld w4 5 x.1 = Wt := ⟨_, rfl⟩
                  obtain ⟨cp, hcp⟩ : ∃ cp, grownCap w4 x.1.size 0 5 = cp := ⟨_, rfl⟩
                  rw [hWt] at BB0 LB0
                  rw [hcp] at BB0
                  have HB0 := Lib.hid (And.intro BB0 LB0)
                  have HWT := Lib.hid (And.intro hWt hcp)
                  clear BB0 LB0 hWt hcp
                  go_wp2
                  rw [HWT.out.1, HWT.out.2]
                  clear HWT
                  go_loopw [20, 21] (fun t j wj => ∃ (q gg cp nl : Nat), q ≤ x.2.length ∧ j = .int .i64 (q : Int) ∧ t = .slice (some ⟨gg, 0, none⟩) nl cp ∧ Hid (nl = (lineB c x.1 (x.2.take q)).length ∧ BB w4.heap.size gg cp (lineB c x.1 (x.2.take q)) wj ∧ Below w4.heap.size w4 wj)) (fun _ j _ => x.2.length - (intOf j).toNat)
                  case atStart => exact ⟨0, w4.heap.size, cp, x.1.size, Nat.zero_le _, rfl, rfl, Lib.hid ⟨by
                    have e : lineB c x.1 (x.2.take 0) = x.1.data.toList := by simp [lineB, Lib.joinTail]
                    rw [e]; exact Lib.size_eq _, by
                    have e : lineB c x.1 (x.2.take 0) = x.1.data.toList := by simp [lineB, Lib.joinTail]
                    rw [e]; exact HB0.out.1, HB0.out.2⟩⟩
                  case round =>
                    obtain ⟨q, gg, cp, nl, hq, rfl, rfl, hsj⟩ := hrel
                    by_cases hlt3 : q < x.2.length
                    · obtain ⟨ad3, rfl, hx3⟩ := C_at HCL.out hsj.out.2.2 q hlt3
                      obtain ⟨sq, hsq⟩ : ∃ sq, x.2[q] = sq := ⟨_, rfl⟩
                      have HSTP := Lib.hid (lineB_step c x.1 x.2 q hlt3)
                      rw [hsq, HBS.out] at HSTP
                      rw [hsq] at hx3
                      obtain ⟨B, hB⟩ : ∃ B, lineB c x.1 (x.2.take q) = B := ⟨_, rfl⟩
                      have HSJ := hsj
                      rw [hB] at HSJ HSTP
                      obtain ⟨hnl, hbb, hbl⟩ := HSJ.out
                      subst hnl
                      have HBB := Lib.hid (And.intro hbb hbl)
                      have HSQ := Lib.hid hsq
                      have HLN := Lib.hid (show (B ++ [bs]).length ≤ 140737488355328 ∧ (B ++ [bs] ++ sq.data.toList).length ≤ 140737488355328 from len_both HSTP (Nat.le_trans (lineB_len c x.1 x.2 (q + 1) HXS.out.1 HXS.out.2.1 HXS.out.2.2) (by decide)))
                      clear hbb hbl HSJ hsj hsq hB
                      have HGR := Lib.hid (show ∀ V V' : World, Below wr.heap.size wr V → V.grownBy V' (some gg) → Below w4.heap.size w4 V' from fun V V' h1 h2 => (bth HBB.out.2 h1).grown h2 (Nat.le_trans HBB.out.2.size h1.size) (fun b hb => by injection hb with hb; rw [← hb]; exact HBB.out.1.lo))
                      have HCE := Lib.hid (show ∀ V : World, Below w4.heap.size w4 V → V.cell? (ad3.add q) = some (.string sq) from fun V h => by
                        obtain ⟨a', ha', hc'⟩ := C_at HCL.out h q hlt3
                        injection ha' with ha'
                        subst ha'
                        rw [hc', HSQ.out])
                      have hxa : ∀ o : Obj, (wr.alloc o).cell? (ad3.add q) = some (.string sq) := fun o => HCE.out _ (bal HBB.out.2 o)
                      have HBO := Lib.hid (show ∀ V : World, Below wr.heap.size wr V → BB w4.heap.size gg cp B V from fun V h => HBB.out.1.same h.size (h.block gg HBB.out.1.hi))
                      have HZ := Lib.hid (show ∀ V : World, Below wr.heap.size wr V → w4.heap.size ≤ V.heap.size from fun V h => Nat.le_trans HBB.out.2.size h.size)
                      have HGL := Lib.hid HBB.out.1.hi
                      have HLEN := Lib.hid (show (B ++ [bs]).length ≤ 140737488355328 ∧ (B ++ [bs] ++ sq.data.toList).length ≤ 140737488355328 from HLN.out)
                      go_wp2
                      go_region_law? ((first
                        | (refine step_bb _ rfl (.tmp 101) (.tmp 103) rfl w4.heap.size gg cp B [bs] (B ++ [bs]) B.length (B.length + 1) rfl (by simp) rfl _ 1 1 rfl rfl rfl (by first | exact one_cell _ _ _ HSEP.out | exact cells_same (one_cell _ _ _ HSEP.out) rfl | exact cells_same (one_cell _ _ _ HSEP.out) (Lib.bytesWorld_at_old _ _ _ _ (by simp)) | exact one_cell2 _ _ _ _ HSEP.out) (HBO.out _ (by repeat (first | exact Below.refl _ _ | refine bal ?_ _ | refine bdr ?_ | refine bby ?_ _ _))) (HZ.out _ (by repeat (first | exact Below.refl _ _ | refine bal ?_ _ | refine bdr ?_ | refine bby ?_ _ _))) HLEN.out.1 ?_
                           intro g1 cap1 w9 hb9 hg9 ho9
                           have HS9 := Lib.hid hg9
                           have HL9 := Lib.hid (HGR.out _ _ (by repeat (first | exact Below.refl _ _ | refine bal ?_ _ | refine bdr ?_ | refine bby ?_ _ _)) hg9)
                           have hx9 := HCE.out _ HL9.out
                           have HB9 := Lib.hid hb9
                           clear hb9 hg9 ho9)
                        | (refine step_bb _ rfl (.tmp 104) (.tmp 109) rfl w4.heap.size _ _ (B ++ [bs]) sq.data.toList _ (B.length + 1) (B.length + 1 + sq.size) (by simp) (by rw [List.length_append, List.length_append, ← Lib.size_eq]; rfl) rfl _ _ _ rfl rfl (Lib.size_eq _).symm (by first | exact str_cells _ _ | exact cells_same (str_cells3 wr _ sq) (HS9.out.block (wr.heap.size + 1) (by simp [Lib.bytesWorld_size] <;> omega) (fun e => by injection e with e; have := HGL.out; omega)) | exact cells_same (str_cells2 wr sq _) (HS9.out.block wr.heap.size (by simp [Lib.bytesWorld_size] <;> omega) (fun e => by injection e with e; have := HGL.out; omega)) | exact cells_same (str_cells2 wr.drew sq _) (HS9.out.block wr.heap.size (by simp [Lib.bytesWorld_size] <;> omega) (fun e => by injection e with e; have := HGL.out; omega))) (by first | exact HB9.out | exact HB9.out.same (by rw [Lib.bytesWorld_size]; omega) (Lib.bytesWorld_at_old _ _ _ _ HB9.out.hi)) (by first | exact HL9.out.size | exact Nat.le_trans HL9.out.size (by rw [Lib.bytesWorld_size]; omega)) HLEN.out.2 ?_
                           intro g2 cap2 w10 hb10 hg10 ho10
                           have HF9 := Lib.hid (show BB w4.heap.size g2 cap2 (lineB c x.1 (x.2.take (q + 1))) w10 ∧ Below w4.heap.size w4 w10 from ⟨by rw [← HSTP.out]; exact hb10, (by first | exact HL9.out.grown hg10 HL9.out.size (fun b hb => by injection hb with hb; rw [← hb]; exact HB9.out.lo) | exact (bby HL9.out _ _).grown hg10 (bby HL9.out _ _).size (fun b hb => by injection hb with hb; rw [← hb]; exact HB9.out.lo))⟩)
                           clear hb10 hg10 ho10)))
                      all_goals
                        go_wp2
                        go_roundw
                        case rel => exact ⟨q + 1, _, _, _, hlt3, by go_num, rfl, Lib.hid ⟨by rw [← HSTP.out, List.length_append, List.length_append, ← Lib.size_eq]; rfl, HF9.out⟩⟩
                        case measure => simp [intOf]; omega
                    · obtain rfl : q = x.2.length := by omega
                      rw [List.take_length] at hsj
                      go_wp2
                      go_loopw [20, 22] (fun t j wj => ∃ (q gg cp nl : Nat), q ≤ y.2.length ∧ j = .int .i64 (q : Int) ∧ t = .slice (some ⟨gg, 0, none⟩) nl cp ∧ Hid (nl = (lineB c x.1 x.2 ++ Lib.joinTail [betwB c] ((y.2.take q).map (·.data.toList))).length ∧ BB w4.heap.size gg cp (lineB c x.1 x.2 ++ Lib.joinTail [betwB c] ((y.2.take q).map (·.data.toList))) wj ∧ Below w4.heap.size w4 wj)) (fun _ j _ => y.2.length - (intOf j).toNat)
                      case atStart => exact ⟨0, gg, cp, nl, Nat.zero_le _, rfl, rfl, Lib.hid (by
                        have e : lineB c x.1 x.2 ++ Lib.joinTail [betwB c] ((y.2.take 0).map (·.data.toList)) = lineB c x.1 x.2 := by simp [Lib.joinTail]
                        rw [e]; exact hsj.out)⟩
                      case round =>
                        obtain ⟨q, gg, cp, nl, hq, rfl, rfl, hsj⟩ := hrel
                        by_cases hlt3 : q < y.2.length
                        · obtain ⟨ad3, rfl, hx3⟩ := C_at HCR.out hsj.out.2.2 q hlt3
                          obtain ⟨sq, hsq⟩ : ∃ sq, y.2[q] = sq := ⟨_, rfl⟩
                          have HSTP := Lib.hid (tail_step' c bs HBS.out (lineB c x.1 x.2) y.2 q hlt3)
                          rw [hsq] at HSTP hx3
                          obtain ⟨B, hB⟩ : ∃ B, lineB c x.1 x.2 ++ Lib.joinTail [betwB c] ((y.2.take q).map (·.data.toList)) = B := ⟨_, rfl⟩
                          have HSJ := hsj
                          rw [hB] at HSJ HSTP
                          obtain ⟨hnl, hbb, hbl⟩ := HSJ.out
                          subst hnl
                          have HBB := Lib.hid (And.intro hbb hbl)
                          have HSQ := Lib.hid hsq
                          have HLN := Lib.hid (show (B ++ [bs]).length ≤ 140737488355328 ∧ (B ++ [bs] ++ sq.data.toList).length ≤ 140737488355328 from len_both HSTP (len_tail c x.1 x.2 y.2 (q + 1) HXS.out.1 HXS.out.2.1 HXS.out.2.2 HYS.out.2.1 HYS.out.2.2))
                          clear hbb hbl HSJ hsj hsq hB
                          have HGR := Lib.hid (show ∀ V V' : World, Below wr.heap.size wr V → V.grownBy V' (some gg) → Below w4.heap.size w4 V' from fun V V' h1 h2 => (bth HBB.out.2 h1).grown h2 (Nat.le_trans HBB.out.2.size h1.size) (fun b hb => by injection hb with hb; rw [← hb]; exact HBB.out.1.lo))
                          have HCE := Lib.hid (show ∀ V : World, Below w4.heap.size w4 V → V.cell? (ad3.add q) = some (.string sq) from fun V h => by
                            obtain ⟨a', ha', hc'⟩ := C_at HCR.out h q hlt3
                            injection ha' with ha'
                            subst ha'
                            rw [hc', HSQ.out])
                          have hxa : ∀ o : Obj, (wr.alloc o).cell? (ad3.add q) = some (.string sq) := fun o => HCE.out _ (bal HBB.out.2 o)
                          have HBO := Lib.hid (show ∀ V : World, Below wr.heap.size wr V → BB w4.heap.size gg cp B V from fun V h => HBB.out.1.same h.size (h.block gg HBB.out.1.hi))
                          have HZ := Lib.hid (show ∀ V : World, Below wr.heap.size wr V → w4.heap.size ≤ V.heap.size from fun V h => Nat.le_trans HBB.out.2.size h.size)
                          have HGL := Lib.hid HBB.out.1.hi
                          have HLEN := Lib.hid (show (B ++ [bs]).length ≤ 140737488355328 ∧ (B ++ [bs] ++ sq.data.toList).length ≤ 140737488355328 from HLN.out)
                          go_wp2
                          go_region_law? ((first
                            | (refine step_bb _ rfl (.tmp 117) (.tmp 119) rfl w4.heap.size gg cp B [bs] (B ++ [bs]) B.length (B.length + 1) rfl (by simp) rfl _ 1 1 rfl rfl rfl (by first | exact one_cell _ _ _ HSEP.out | exact cells_same (one_cell _ _ _ HSEP.out) rfl | exact cells_same (one_cell _ _ _ HSEP.out) (Lib.bytesWorld_at_old _ _ _ _ (by simp)) | exact one_cell2 _ _ _ _ HSEP.out) (HBO.out _ (by repeat (first | exact Below.refl _ _ | refine bal ?_ _ | refine bdr ?_ | refine bby ?_ _ _))) (HZ.out _ (by repeat (first | exact Below.refl _ _ | refine bal ?_ _ | refine bdr ?_ | refine bby ?_ _ _))) HLEN.out.1 ?_
                               intro g1 cap1 w9 hb9 hg9 ho9
                               have HS9 := Lib.hid hg9
                               have HL9 := Lib.hid (HGR.out _ _ (by repeat (first | exact Below.refl _ _ | refine bal ?_ _ | refine bdr ?_ | refine bby ?_ _ _)) hg9)
                               have hx9 := HCE.out _ HL9.out
                               have HB9 := Lib.hid hb9
                               clear hb9 hg9 ho9)
                            | (refine step_bb _ rfl (.tmp 120) (.tmp 125) rfl w4.heap.size _ _ (B ++ [bs]) sq.data.toList _ (B.length + 1) (B.length + 1 + sq.size) (by simp) (by rw [List.length_append, List.length_append, ← Lib.size_eq]; rfl) rfl _ _ _ rfl rfl (Lib.size_eq _).symm (by first | exact str_cells _ _ | exact cells_same (str_cells3 wr _ sq) (HS9.out.block (wr.heap.size + 1) (by simp [Lib.bytesWorld_size] <;> omega) (fun e => by injection e with e; have := HGL.out; omega)) | exact cells_same (str_cells2 wr sq _) (HS9.out.block wr.heap.size (by simp [Lib.bytesWorld_size] <;> omega) (fun e => by injection e with e; have := HGL.out; omega)) | exact cells_same (str_cells2 wr.drew sq _) (HS9.out.block wr.heap.size (by simp [Lib.bytesWorld_size] <;> omega) (fun e => by injection e with e; have := HGL.out; omega))) (by first | exact HB9.out | exact HB9.out.same (by rw [Lib.bytesWorld_size]; omega) (Lib.bytesWorld_at_old _ _ _ _ HB9.out.hi)) (by first | exact HL9.out.size | exact Nat.le_trans HL9.out.size (by rw [Lib.bytesWorld_size]; omega)) HLEN.out.2 ?_
                               intro g2 cap2 w10 hb10 hg10 ho10
                               have HF9 := Lib.hid (show BB w4.heap.size g2 cap2 (lineB c x.1 x.2 ++ Lib.joinTail [betwB c] ((y.2.take (q + 1)).map (·.data.toList))) w10 ∧ Below w4.heap.size w4 w10 from ⟨by rw [← HSTP.out]; exact hb10, (by first | exact HL9.out.grown hg10 HL9.out.size (fun b hb => by injection hb with hb; rw [← hb]; exact HB9.out.lo) | exact (bby HL9.out _ _).grown hg10 (bby HL9.out _ _).size (fun b hb => by injection hb with hb; rw [← hb]; exact HB9.out.lo))⟩)
                               clear hb10 hg10 ho10)))
                          all_goals
                            go_wp2
                            go_roundw
                            case rel => exact ⟨q + 1, _, _, _, hlt3, by go_num, rfl, Lib.hid ⟨by rw [← HSTP.out, List.length_append, List.length_append, ← Lib.size_eq]; rfl, HF9.out⟩⟩
                            case measure => simp [intOf]; omega
                        · obtain rfl : q = y.2.length := by omega
                          obtain ⟨hnl, hbb, hbl⟩ := hsj.out
                          have HJ := Lib.hid (lineJ_B c x y)
                          rw [List.take_length] at hbb hnl
                          obtain ⟨BF, hBF⟩ : ∃ BF, lineB c x.1 x.2 ++ Lib.joinTail [betwB c] (y.2.map (·.data.toList)) = BF := ⟨_, rfl⟩
                          rw [hBF] at hbb hnl HJ
                          subst hnl
                          have hcv := hbb.text
                          have HHW := Lib.hid (show TS w (.slice Ao no co) (linesTo c X Y i m) wr ∧ wr.ownsRow W3.heap.size 9 1 (.slice A3 x.2.length c3) x.2.length (strs x.2) from ⟨HW4.out.2.1.below hbl, pw_own_below HW4.out.2.2.2.1 hbl⟩)
                          have hnoe := HW4.out.1
                          have hnol := HW4.out.2.2.1
                          have hLLT := HLT.out
                          rw [if_pos HXY.out] at hLLT
                          have HLLT := Lib.hid hLLT
                          have hno : no ≤ 65536 := by omega
                          have HNOE := Lib.hid hnoe
                          have hwz : w.heap.size ≤ wr.heap.size := HHW.out.1.low.size
                          clear hsj hbb hbl hBF hLLT hnol hnoe
                          obtain ⟨i0, hi0, hz0, hz1, hz2⟩ := info_parts infoS
                          go_wp2_with (at_builtin; go_loud (refine wpList_append_two _ rfl _ _ 24 rfl w.heap.size 9 i0 _ 16 Tryz.underlying24 hi0 hz0 hz1 hz2 rfl _ no _ rfl (World.ownsRow.alloc (show wr.ownsRow w.heap.size 9 1 (.slice Ao no co) no (strs (linesTo c X Y i m)) from by have := HHW.out.1.txs; unfold Txs at this; rwa [← HNOE.out] at this) _) ⟨wr.heap.size, 0, none⟩ 1 (.string ⟨BF.toArray⟩) rfl (Boxed.new wr _ _).cell rfl (by unfold maxLen; omega) (by omega) (by simp; omega) ?_))
                          intro g3 cap3 w5 hown3 hcase
                          have HF := Lib.hid (show no + 1 = (linesTo c X Y i (m + 1)).length ∧ TS w (.slice (some ⟨g3, 0, none⟩) (no + 1) cap3) (linesTo c X Y i (m + 1)) w5 ∧ w5.ownsRow W3.heap.size 9 1 (.slice A3 x.2.length c3) x.2.length (strs x.2) ∧ ((Value.slice (some ⟨g3, 0, none⟩) (no + 1) cap3).ownBlock = none ∨ (Value.slice (some ⟨g3, 0, none⟩) (no + 1) cap3).ownBlock ≠ (Value.slice A3 x.2.length c3).ownBlock) from join_app HHW.out.1 HHW.out.2 HNOE.out HW4.out.2.2.2.2 hown3 hcase (by rw [HLLT.out, HJ.out]))
                          clear hown3 hcase hcv
                          by_cases hbig : 65536 < no + 1
                          · have hP : 65536 < (pairsL (lineJ c) X Y).length := by
                              have h1 := linesTo_pre c X Y i (m + 1) (by rw [HXL.out]; exact hlt)
                              have h2 := HF.out.1
                              omega
                            have HP := Lib.hid hP
                            have hb2 : (65536 : Int) < (no : Int) + 1 := by omega
                            clear hP
                            go_wp2
                            go_returns
                            have hrl := HRL.out
                            rw [if_pos HP.out] at hrl
                            obtain ⟨rfl, rfl⟩ : ([] : List ByteArray) = RL ∧ (3 : Int) = RE := ⟨congrArg Prod.fst hrl, congrArg Prod.snd hrl⟩
                            exact ⟨_, rfl, ⟨World.ownsRow_nil _ _ _ _, HF.out.2.1.low⟩⟩
                          · have hb2 : ¬ (65536 : Int) < (no : Int) + 1 := by omega
                            have hb3 : (linesTo c X Y i (m + 1)).length ≤ 65536 := by have := HF.out.1; omega
                            have HB3 := Lib.hid hb3
                            clear hb3
                            go_wp2
                            go_roundw
                            case rel => exact ⟨m + 1, _, no + 1, cap3, hlt2, by go_num, rfl, rfl, rfl, Lib.hid ⟨HF.out.1, HF.out.2.1, HB3.out, HF.out.2.2.1, HF.out.2.2.2⟩⟩
                            case measure => simp [intOf]; omega
                · have hnl : (x.1.toList == y.1.toList) = false := beq_eq_false_iff_ne.2 (fun e => hxy (by rw [ByteArray.toList_eq, ByteArray.toList_eq] at e; exact ByteArray.ext (Array.ext' e)))
                  have HLT2 := HLT.out
                  rw [if_neg hxy] at HLT2
                  have HF := Lib.hid (show no = (linesTo c X Y i (m + 1)).length ∧ TS w (.slice Ao no co) (linesTo c X Y i (m + 1)) w4 ∧ (linesTo c X Y i (m + 1)).length ≤ 65536 ∧ w4.ownsRow W3.heap.size 9 1 (.slice A3 x.2.length c3) x.2.length (strs x.2) ∧ ((Value.slice Ao no co).ownBlock = none ∨ (Value.slice Ao no co).ownBlock ≠ (Value.slice A3 x.2.length c3).ownBlock) from by
                    rw [HLT2]
                    exact ⟨hst.out.1, hst.out.2.1.below HB4.out, hst.out.2.2.1, pw_own_below hst.out.2.2.2.1 HB4.out, hst.out.2.2.2.2⟩)
                  clear HLT2 hxy
                  go_wp2
                  go_roundw
                  case rel => exact ⟨m + 1, Ao, no, co, hlt2, by go_num, rfl, rfl, rfl, HF⟩
                  case measure => simp [intOf]; omega
              · obtain rfl : m = l2.length := by omega
                have HF := Lib.hid (show no = (linesTo c X Y (i + 1) 0).length ∧ TS w (.slice Ao no co) (linesTo c X Y (i + 1) 0) wr ∧ (linesTo c X Y (i + 1) 0).length ≤ 65536 from by
                  have e : linesTo c X Y i l2.length = linesTo c X Y (i + 1) 0 := by
                    rw [linesTo_zero, ← HYL.out]
                    exact linesTo_row c X Y i (by rw [HXL.out]; exact hlt)
                  rw [← e]
                  exact ⟨hst.out.1, hst.out.2.1, hst.out.2.2.1⟩)
                clear hst
                go_wp2
                go_roundw
                case rel => exact ⟨i + 1, Ao, no, co, hlt, by go_num, rfl, rfl, rfl, HF⟩
                case measure => simp [intOf]; omega
          · obtain rfl : i = l1.length := by omega
            have HF := Lib.hid (show TS w (.slice Ao no co) (pairsL (lineJ c) X Y) wr ∧ ¬ 65536 < (pairsL (lineJ c) X Y).length from by
              have e : linesTo c X Y l1.length 0 = pairsL (lineJ c) X Y := by rw [linesTo_zero, ← HXL.out, List.take_length]
              rw [e] at hst
              exact ⟨hst.out.2.1, by have := hst.out.2.2; omega⟩)
            clear hst
            go_wp2
            go_ret2
            have hrl := HRL.out
            rw [if_neg HF.out.2] at hrl
            obtain ⟨rfl, rfl⟩ : pairsL (lineJ c) X Y = RL ∧ (0 : Int) = RE := ⟨congrArg Prod.fst hrl, congrArg Prod.snd hrl⟩
            exact ⟨_, rfl, HF.out.1⟩
end Go.Proofs.YtlicjpbmlmongaaGreatDoor.P

/- Lines sorted and just one of those that are alike: the plain part. -/
import Derived.Test.YtaekgfmcelckoaaDoorSFew
set_option linter.unusedVariables false
set_option linter.unusedSimpArgs false
namespace Go.Proofs.YtaekgfmcelckoaaDoor.P
open Go.RowKit Go.Proofs.YtaekgfmcelckoaaDoor.Q Go.Proofs.YtaekgfmcelckoaaDoor.H Go.Proofs.YtaekgfmcelckoaaDoor.K Go.Proofs.YtaekgfmcelckoaaDoor.S Go.Proofs.YtaekgfmcelckoaaDoorW.PrintWords Go.Proofs.YtaekgfmcelckoaaDoorW.PrintLast

theorem rev_ind {α : Type} {p : List α → Prop} (h0 : p []) (h1 : ∀ (P : List α) (x : α), p P → p (P ++ [x])) (l : List α) : p l := by
  have h : ∀ m : List α, p m.reverse := by
    intro m
    induction m with
    | nil => exact h0
    | cons x m ih => rw [List.reverse_cons]; exact h1 _ _ ih
  have := h l.reverse
  rwa [List.reverse_reverse] at this
section
variable {c : List UInt8 → List UInt8 → Int}
/-- Sorted, and alike ones by their places. -/
def Srt (c : List UInt8 → List UInt8 → Int) (E : List LN) : Prop := E.Pairwise (fun x y => c x.1.data.toList y.1.data.toList < 0 ∨ (c x.1.data.toList y.1.data.toList = 0 ∧ x.2 < y.2))
/-- Does no line that is alike stand ahead of it? -/
def fstB (c : List UInt8 → List UInt8 → Int) (E : List LN) (x : LN) : Bool := E.all (fun z => !(decide (z.2 < x.2) && decide (c z.1.data.toList x.1.data.toList = 0)))
theorem fstB_true {E : List LN} {x : LN} : fstB c E x = true ↔ ∀ z ∈ E, z.2 < x.2 → c z.1.data.toList x.1.data.toList ≠ 0 := by
  unfold fstB
  rw [List.all_eq_true]
  constructor
  · intro h z hz h1 h2
    have := h z hz
    simp [h1, h2] at this
  · intro h z hz
    have := h z hz
    by_cases h1 : z.2 < x.2
    · simp [h1, this h1]
    · simp [h1]
theorem fstB_perm {E F : List LN} (h : E.Perm F) (x : LN) : fstB c E x = fstB c F x := by
  rw [Bool.eq_iff_iff, fstB_true, fstB_true]
  exact ⟨fun k z hz => k z (h.mem_iff.2 hz), fun k z hz => k z (h.mem_iff.1 hz)⟩
theorem out_first (ho : Ord c) : ∀ E : List LN, Srt c E → outF true c E = (E.filter (fstB c E)).map (·.1) ∧ (∀ y, E.getLast? = some y → outF true c E ≠ [] ∧ c ((outF true c E).getLastD ⟨#[]⟩).data.toList y.1.data.toList = 0) := by
  intro E
  induction E using rev_ind with
  | h0 => intro _; exact ⟨rfl, fun y h => by simp at h⟩
  | h1 P x ih =>
    intro h
    have hp := List.pairwise_append.1 h
    obtain ⟨i1, i2⟩ := ih hp.1
    have hx : ∀ y ∈ P, c y.1.data.toList x.1.data.toList < 0 ∨ (c y.1.data.toList x.1.data.toList = 0 ∧ y.2 < x.2) := fun y hy => hp.2.2 y hy x (by simp)
    have hold : ∀ y ∈ P, fstB c (P ++ [x]) y = fstB c P y := by
      intro y hy
      rw [Bool.eq_iff_iff, fstB_true, fstB_true]
      refine ⟨fun k z hz => k z (by simp [hz]), fun k z hz h1 h2 => ?_⟩
      rcases List.mem_append.1 hz with hz | hz
      · exact k z hz h1 h2
      · obtain rfl := List.mem_singleton.1 hz
        have hb := ho.back y.1.data.toList z.1.data.toList
        rcases hx y hy with h3 | h3 <;> omega
    have hf : (P ++ [x]).filter (fstB c (P ++ [x])) = P.filter (fstB c P) ++ (if fstB c (P ++ [x]) x = true then [x] else []) := by
      rw [List.filter_append, List.filter_congr hold]
      congr 1
      simp [List.filter_cons]
    rw [outF_snoc, hf, List.map_append, ← i1]
    have hnew : ∀ s : ByteArray, c s.data.toList x.1.data.toList = 0 → ∀ y, (P ++ [x]).getLast? = some y → c s.data.toList y.1.data.toList = 0 := fun s hs y hy => by
      rw [List.getLast?_append] at hy
      simp at hy
      rw [← hy]; exact hs
    cases hl : P.getLast? with
    | none =>
      obtain rfl := List.getLast?_eq_none_iff.1 hl
      have hfx : fstB c ([] ++ [x]) x = true := fstB_true.2 (fun z hz h1 => by obtain rfl := List.mem_singleton.1 (by simpa using hz); omega)
      rw [if_pos hfx]
      refine ⟨rfl, fun y hy => ⟨by simp [outF, stepF], ?_⟩⟩
      exact hnew x.1 (ho.self _) y hy
    | some y =>
      obtain ⟨j1, j2⟩ := i2 y hl
      obtain ⟨P', rfl⟩ := List.getLast?_eq_some_iff.1 hl
      have hyP : y ∈ P' ++ [y] := by simp
      have hal := (ho.alike j2 x.1.data.toList).1
      rcases hx y hyP with h3 | ⟨h3, h4⟩
      · have hfx : fstB c ((P' ++ [y]) ++ [x]) x = true := fstB_true.2 (fun z hz h1 h2 => by
          rcases List.mem_append.1 hz with hz | hz
          · rcases List.mem_append.1 hz with hz | hz
            · have h5 := (List.pairwise_append.1 hp.1).2.2 z hz y (by simp)
              have := (ho.go z.1.data.toList y.1.data.toList x.1.data.toList (by rcases h5 with h5 | h5 <;> omega) (by omega)).2 h2
              omega
            · obtain rfl := List.mem_singleton.1 hz
              omega
          · obtain rfl := List.mem_singleton.1 hz
            omega)
        rw [if_pos hfx]
        have hst : stepF true c (outF true c (P' ++ [y])) x.1 = outF true c (P' ++ [y]) ++ [x.1] := by
          unfold stepF
          rw [if_pos (.inr (.inr (by rw [hal]; omega)))]
        rw [hst]
        refine ⟨rfl, fun z hz => ⟨by simp, ?_⟩⟩
        rw [List.getLastD_concat]
        exact hnew x.1 (ho.self _) z hz
      · have hfx : ¬ fstB c ((P' ++ [y]) ++ [x]) x = true := fun hh => fstB_true.1 hh y (by simp) h4 h3
        rw [if_neg hfx]
        have hst : stepF true c (outF true c (P' ++ [y])) x.1 = outF true c (P' ++ [y]) := by
          unfold stepF
          rw [if_neg]
          rintro (h5 | h5 | h5)
          · cases h5
          · exact j1 h5
          · rw [hal] at h5; exact h5 h3
        rw [hst]
        refine ⟨by simp, fun z hz => ⟨j1, ?_⟩⟩
        exact hnew _ (by rw [hal]; exact h3) z hz
/-- Strictly in order. -/
def Strict (c : List UInt8 → List UInt8 → Int) (l : List ByteArray) : Prop := l.Pairwise (fun x y => c x.data.toList y.data.toList < 0)
theorem out_strict (ho : Ord c) (E : List LN) (h : Srt c E) : Strict c (outF true c E) := by
  rw [(out_first ho E h).1]
  unfold Strict
  rw [List.pairwise_map]
  refine (h.filter (fstB c E)).imp_of_mem (fun {x y} hx hy hxy => ?_)
  rcases hxy with h1 | ⟨h1, h2⟩
  · exact h1
  · have := fstB_true.1 (List.mem_filter.1 hy).2 x (List.mem_filter.1 hx).1 h2
    exact absurd h1 this
theorem strict_count (ho : Ord c) (s : ByteArray) : ∀ l : List ByteArray, Strict c l → s ∈ l → l.countP (fun x => decide (x.toList = s.toList)) = 1
  | x :: l, h, hs => by
    obtain ⟨h1, h2⟩ := List.pairwise_cons.1 h
    rw [List.countP_cons]
    by_cases e : x.toList = s.toList
    · have h0 : l.countP (fun x => decide (x.toList = s.toList)) = 0 := by
        rw [List.countP_eq_zero]
        intro y hy hc
        have hc := of_decide_eq_true hc
        have h3 := h1 y hy
        rw [ByteArray.toList_eq, ByteArray.toList_eq] at e hc
        rw [e, ← hc, ho.self] at h3
        omega
      rw [h0, if_pos (by simpa using e)]
    · rcases List.mem_cons.1 hs with rfl | hs
      · exact absurd rfl e
      · rw [strict_count ho s l h2 hs, if_neg (by simpa using e)]
end
theorem cmpI_nn (a b : Nat) (h : ¬ cmpI (a : Int) (b : Int) < 0) : b ≤ a := by
  unfold cmpI at h
  split at h
  · omega
  · omega
theorem order_srt (nu fo bl re : Bool) (f t : Int) (c : UInt8) (l : List ByteArray) : Srt (cmpO nu fo bl re f t c) (orderL true nu fo bl re f t c l) := by
  have ho : Ord (cmpO nu fo bl re f t c) := byC_ord true nu fo bl re f t c
  have hs := order_sorted true nu fo bl re f t c l
  have hn : (orderL true nu fo bl re f t c l).Pairwise (fun x y => x.2 ≠ y.2) := by
    have h1 : ((tagL l).map (·.2)).Nodup := by
      unfold tagL
      rw [List.zipIdx_map_snd]
      exact List.nodup_range'
    have h2 := ((order_perm true nu fo bl re f t c l).map (·.2)).nodup_iff.2 h1
    exact List.pairwise_map.1 h2
  refine (hs.and hn).imp (fun {x y} h => ?_)
  obtain ⟨h1, h2⟩ := h
  unfold ltC lineC orC at h1
  have h1 := of_decide_eq_false h1
  have e : byC true nu fo bl re f t c = cmpO nu fo bl re f t c := rfl
  rw [e] at h1
  have hb := ho.back y.1.data.toList x.1.data.toList
  split at h1
  · have := cmpI_nn _ _ h1
    exact .inr ⟨by omega, by omega⟩
  · exact .inl (by omega)
theorem chk_strict (nu fo bl re : Bool) (f t : Int) (c : UInt8) : ∀ (l : List ByteArray) (i : Nat), Strict (cmpO nu fo bl re f t c) l → chkL true nu fo bl re f t c l i = -1
  | [], _, _ => rfl
  | [_], _, _ => rfl
  | x :: y :: l, i, h => by
    have h1 := List.rel_of_pairwise_cons h (List.mem_cons_self (a := y) (l := l))
    have hb : badO true nu fo bl re f t c x.data.toList y.data.toList = false := by
      unfold badO wholeO orC
      rw [if_neg (by omega)]
      simp
      omega
    simp only [chkL]
    rw [if_neg (by rw [hb]; decide)]
    exact chk_strict nu fo bl re f t c (y :: l) (i + 1) (List.pairwise_cons.1 h).2
/-- How many of the first k lines have none alike ahead. -/
def firstsN (c : List UInt8 → List UInt8 → Int) (l : List ByteArray) (k : Nat) : Nat := ((tagL l).take k).countP (fstB c (tagL l))
def aloneB (c : List UInt8 → List UInt8 → Int) (l : List ByteArray) (s : ByteArray) (k : Nat) : Bool := (l.take k).all (fun y => !(c y.data.toList s.data.toList == 0))
theorem aloneB_zero (c : List UInt8 → List UInt8 → Int) (l : List ByteArray) (s : ByteArray) : aloneB c l s 0 = true := rfl
theorem aloneB_succ (c : List UInt8 → List UInt8 → Int) (l : List ByteArray) (s : ByteArray) (k : Nat) (h : k < l.length) : aloneB c l s (k + 1) = (aloneB c l s k && !(c l[k].data.toList s.data.toList == 0)) := by
  unfold aloneB
  rw [List.take_succ_eq_append_getElem h, List.all_append]
  simp
theorem tag_at (l : List ByteArray) (k : Nat) (h : k < l.length) : (l[k], k) ∈ tagL l := by
  unfold tagL
  rw [List.mem_zipIdx_iff_getElem?]
  simp [h]
theorem fst_alone (c : List UInt8 → List UInt8 → Int) (l : List ByteArray) (k : Nat) (h : k < l.length) : fstB c (tagL l) (l[k], k) = aloneB c l l[k] k := by
  rw [Bool.eq_iff_iff, fstB_true]
  unfold aloneB
  rw [List.all_eq_true]
  constructor
  · intro hh y hy
    obtain ⟨j, hj, rfl⟩ := List.mem_iff_getElem.1 hy
    rw [List.length_take] at hj
    have := hh (l[j], j) (tag_at l j (by omega)) (by show j < k; omega)
    simpa using this
  · intro hh z hz h1 h2
    obtain ⟨z1, z2⟩ := z
    obtain ⟨hl, rfl⟩ : ∃ h : z2 < l.length, l[z2] = z1 := by
      unfold tagL at hz
      rw [List.mem_zipIdx_iff_getElem?] at hz
      exact List.getElem?_eq_some_iff.1 hz
    have := hh l[z2] (by rw [List.mem_iff_getElem]; exact ⟨z2, by rw [List.length_take]; simp at h1; omega, by simp⟩)
    simp at this
    exact this h2
theorem firstsN_zero (c : List UInt8 → List UInt8 → Int) (l : List ByteArray) : firstsN c l 0 = 0 := rfl
theorem firstsN_succ (c : List UInt8 → List UInt8 → Int) (l : List ByteArray) (k : Nat) (h : k < l.length) : firstsN c l (k + 1) = firstsN c l k + (if aloneB c l l[k] k = true then 1 else 0) := by
  unfold firstsN
  have hk : k < (tagL l).length := by rw [tag_len]; exact h
  have e : (tagL l)[k] = (l[k], k) := by simp [tagL]
  rw [List.take_succ_eq_append_getElem hk, List.countP_append, e, ← fst_alone c l k h]
  simp [List.countP_cons]
theorem firstsN_le (c : List UInt8 → List UInt8 → Int) (l : List ByteArray) (k : Nat) : firstsN c l k ≤ k := Nat.le_trans List.countP_le_length (by rw [List.length_take]; omega)
theorem uniq_all (nu fo bl re : Bool) (f t : Int) (c : UInt8) (l : List ByteArray) : firstsN (cmpO nu fo bl re f t c) l l.length = (sortL true nu fo bl re f t c l).length := by
  unfold firstsN sortL
  rw [(out_first (show Ord (cmpO nu fo bl re f t c) from byC_ord true nu fo bl re f t c) _ (order_srt nu fo bl re f t c l)).1, List.length_map, List.take_of_length_le (by rw [tag_len]; omega), List.countP_eq_length_filter]
  have hp := order_perm true nu fo bl re f t c l
  rw [List.filter_congr (fun x _ => fstB_perm hp.symm x)]
  exact (hp.symm.filter _).length_eq
theorem uniq_count (nu fo bl re : Bool) (f t : Int) (c : UInt8) (l : List ByteArray) (k : Nat) (h : k < l.length) (ha : aloneB (cmpO nu fo bl re f t c) l l[k] k = true) : (sortL true nu fo bl re f t c l).countP (fun x => decide (x.toList = l[k].toList)) = 1 := by
  have ho : Ord (cmpO nu fo bl re f t c) := byC_ord true nu fo bl re f t c
  have hs := order_srt nu fo bl re f t c l
  refine strict_count ho _ _ (out_strict ho _ hs) ?_
  unfold sortL
  rw [(out_first ho _ hs).1]
  have hp := order_perm true nu fo bl re f t c l
  refine List.mem_map.2 ⟨(l[k], k), List.mem_filter.2 ⟨hp.mem_iff.2 (tag_at l k h), ?_⟩, rfl⟩
  rw [fstB_perm hp, fst_alone _ l k h]
  exact ha
theorem uniq_check (nu fo bl re : Bool) (f t : Int) (c : UInt8) (l : List ByteArray) : checkL true nu fo bl re f t c (sortL true nu fo bl re f t c l) = -1 := by
  unfold checkL
  split
  · exact chk_strict nu fo bl re f t c _ 1 (out_strict (byC_ord true nu fo bl re f t c) _ (order_srt nu fo bl re f t c l))
  · rfl
theorem uniq_mem (nu fo bl re : Bool) (f t : Int) (c : UInt8) (l : List ByteArray) : ∀ s ∈ sortL true nu fo bl re f t c l, s ∈ l := by
  intro s hs
  unfold sortL at hs
  rw [(out_first (show Ord (cmpO nu fo bl re f t c) from byC_ord true nu fo bl re f t c) _ (order_srt nu fo bl re f t c l)).1] at hs
  obtain ⟨x, hx, rfl⟩ := List.mem_map.1 hs
  exact (tag_mem l x ((order_perm true nu fo bl re f t c l).mem_iff.1 (List.mem_filter.1 hx).1)).1
theorem uniq_len (nu fo bl re : Bool) (f t : Int) (c : UInt8) (l : List ByteArray) : (sortL true nu fo bl re f t c l).length ≤ l.length := by
  have h := outF_len true (cmpO nu fo bl re f t c) (orderL true nu fo bl re f t c l)
  have h2 := (order_perm true nu fo bl re f t c l).length_eq
  rw [tag_len] at h2
  unfold sortL
  omega
end Go.Proofs.YtaekgfmcelckoaaDoor.P

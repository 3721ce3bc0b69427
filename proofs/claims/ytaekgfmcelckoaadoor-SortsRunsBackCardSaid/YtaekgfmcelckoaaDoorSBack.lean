/- Runs of lines: what is told of them, plain. -/
import Derived.Test.YtaekgfmcelckoaaDoorSFew
set_option linter.unusedVariables false
set_option linter.unusedSimpArgs false
namespace Go.Proofs.YtaekgfmcelckoaaDoor.P
open Go.RowKit Go.Proofs.YtaekgfmcelckoaaDoor.Q Go.Proofs.YtaekgfmcelckoaaDoor.H Go.Proofs.YtaekgfmcelckoaaDoor.K Go.Proofs.YtaekgfmcelckoaaDoor.S Go.Proofs.YtaekgfmcelckoaaDoorW.PrintWords Go.Proofs.YtaekgfmcelckoaaDoorW.PrintLast

theorem left_zero (t : List UInt8) : leftL 0 0 t = t := by
  unfold leftL
  have e : skipF (0 : Int).toNat t = t := rfl
  rw [e]
  have : (max 0 (min 0 ((t.length : Nat) : Int))).toNat = 0 := by omega
  rw [this]; rfl
theorem same_zero (x y : ByteArray) : sameP 0 0 x y = true ↔ x = y := by
  unfold sameP
  rw [left_zero, left_zero, S.bs_of, S.bs_of, beq_iff_eq, ByteArray.toList_eq, ByteArray.toList_eq]
  exact ⟨fun h => K.ext_bytes h, fun h => by rw [h]⟩
theorem same_refl (f b : Int) (x : ByteArray) : sameP f b x x = true := by unfold sameP; simp
theorem runs_len (f b : Int) (l : List ByteArray) : ∀ k, (runsN f b l k).length ≤ (runsN 0 0 l k).length
  | 0 => Nat.le_refl _
  | k + 1 => by
    have ih := runs_len f b l k
    simp only [runsN]
    by_cases h : 0 < k ∧ sameP 0 0 (l.getD (k - 1) ⟨#[]⟩) (l.getD k ⟨#[]⟩) = true
    · rw [if_pos h, if_pos ⟨h.1, by rw [(same_zero _ _).1 h.2]; exact same_refl _ _ _⟩, bump_len, bump_len]
      exact ih
    · rw [if_neg h, List.length_append]
      split
      · rw [bump_len]; omega
      · rw [List.length_append]; simp; exact ih
def totR (R : List RN) : Nat := (R.map (·.2)).sum
theorem tot_app (L M : List RN) : totR (L ++ M) = totR L + totR M := by simp [totR]
def startsAt (l : List ByteArray) : Nat → List RN → Prop
  | _, [] => True
  | p, r :: R => l[p]? = some r.1 ∧ startsAt l (p + r.2) R
theorem starts_app (l : List ByteArray) : ∀ (L M : List RN) (p : Nat), startsAt l p (L ++ M) ↔ startsAt l p L ∧ startsAt l (p + totR L) M
  | [], M, p => by simp [startsAt, totR]
  | r :: L, M, p => by
    have e : totR (r :: L) = r.2 + totR L := by simp [totR]
    rw [List.cons_append, startsAt, startsAt, starts_app l L M, e, Nat.add_assoc, and_assoc]
theorem last_of {α : Type} (R : List α) (h : R ≠ []) : ∃ L x, R = L ++ [x] := by
  rcases List.eq_nil_or_concat R with e | ⟨L, x, e⟩
  · exact absurd e h
  · exact ⟨L, x, by rw [e, List.concat_eq_append]⟩
theorem getD_at (l : List ByteArray) (k : Nat) (h : k < l.length) : l.getD k ⟨#[]⟩ = l[k] := by simp [List.getD_eq_getElem?_getD, h]
theorem runs_starts (f b : Int) (l : List ByteArray) : ∀ k, k ≤ l.length → totR (runsN f b l k) = k ∧ startsAt l 0 (runsN f b l k)
  | 0, _ => ⟨rfl, trivial⟩
  | k + 1, hk => by
    obtain ⟨i1, i2⟩ := runs_starts f b l k (by omega)
    simp only [runsN]
    split
    · rename_i h
      obtain ⟨L, x, e⟩ := last_of _ (runsN_ne f b l k h.1)
      rw [e] at i1 i2 ⊢
      rw [bump_snoc]
      rw [tot_app] at i1 ⊢
      rw [starts_app] at i2 ⊢
      refine ⟨?_, i2.1, i2.2.1, trivial⟩
      simp [totR] at i1 ⊢
      omega
    · rw [tot_app, starts_app, i1]
      refine ⟨by simp [totR], i2, ?_, trivial⟩
      rw [getD_at l k (by omega)]
      simp
def adjB : List ByteArray → Prop
  | x :: y :: l => y ≠ x ∧ adjB (y :: l)
  | _ => True
theorem adj_snoc (x y : ByteArray) (h : y ≠ x) : ∀ L : List ByteArray, adjB (L ++ [x]) → adjB (L ++ [x] ++ [y])
  | [], _ => ⟨h, trivial⟩
  | [z], h2 => ⟨h2.1, h, trivial⟩
  | z :: t :: L, h2 => ⟨h2.1, adj_snoc x y h (t :: L) h2.2⟩
theorem adj_at : ∀ (L : List ByteArray) (i : Nat) (h : i + 1 < L.length), adjB L → L[i + 1] ≠ L[i]
  | x :: y :: L, 0, _, h => h.1
  | x :: y :: L, i + 1, hi, h => adj_at (y :: L) i (by simpa using hi) h.2
  | [x], i, hi, _ => by simp at hi
def expandR (R : List RN) : List ByteArray := R.flatMap (fun r => List.replicate r.2 r.1)
theorem expand_app (L M : List RN) : expandR (L ++ M) = expandR L ++ expandR M := List.flatMap_append
theorem expand_one (x : RN) : expandR [x] = List.replicate x.2 x.1 := by simp [expandR]
theorem runs_back (l : List ByteArray) : ∀ k, k ≤ l.length → expandR (runsN 0 0 l k) = l.take k ∧ adjB ((runsN 0 0 l k).map (·.1)) ∧ (∀ L x, runsN 0 0 l k = L ++ [x] → 0 < k ∧ l.getD (k - 1) ⟨#[]⟩ = x.1)
  | 0, _ => ⟨rfl, trivial, fun L x h => by simp [runsN] at h⟩
  | k + 1, hk => by
    obtain ⟨i1, i2, i3⟩ := runs_back l k (by omega)
    have hlt : k < l.length := by omega
    simp only [runsN]
    split
    · rename_i h
      obtain ⟨L, x, e⟩ := last_of _ (runsN_ne 0 0 l k h.1)
      have hx := (i3 L x e).2
      have hy := (same_zero _ _).1 h.2
      rw [e] at i1 i2 ⊢
      rw [bump_snoc]
      refine ⟨?_, ?_, fun L' x' h' => ?_⟩
      · rw [expand_app, expand_one] at i1 ⊢
        rw [List.replicate_succ', ← List.append_assoc, i1, List.take_succ_eq_append_getElem hlt, ← hx, hy, getD_at l k hlt]
      · simpa using i2
      · obtain ⟨-, h2⟩ := List.append_inj' h' rfl
        have h2 := List.singleton_inj.1 h2
        refine ⟨by omega, ?_⟩
        rw [← h2, Nat.add_sub_cancel, ← hy]
        exact hx
    · rename_i h
      refine ⟨?_, ?_, fun L' x' h' => ?_⟩
      · rw [expand_app, expand_one, i1, List.take_succ_eq_append_getElem hlt, getD_at l k hlt]
        rfl
      · by_cases hk0 : 0 < k
        · obtain ⟨L, x, e⟩ := last_of _ (runsN_ne 0 0 l k hk0)
          have hx := (i3 L x e).2
          rw [e] at i2 ⊢
          rw [List.map_append, List.map_append] at *
          refine adj_snoc _ _ (fun h3 => h ⟨hk0, (same_zero _ _).2 ?_⟩) _ i2
          rw [hx]
          exact h3.symm
        · obtain rfl : k = 0 := by omega
          exact trivial
      · obtain ⟨-, h2⟩ := List.append_inj' h' rfl
        have h2 := List.singleton_inj.1 h2
        refine ⟨by omega, ?_⟩
        rw [← h2, Nat.add_sub_cancel]
/-- What the law asks of the runs without skipping. -/
theorem back_at (l : List ByteArray) (i : Nat) (h : i + 1 < (runsN 0 0 l l.length).length) : (runsN 0 0 l l.length)[i + 1].1 ≠ (runsN 0 0 l l.length)[i].1 := by
  have := adj_at _ i (by rw [List.length_map]; exact h) (runs_back l l.length (Nat.le_refl _)).2.1
  simpa using this
theorem back_all (l : List ByteArray) : expandR (runsN 0 0 l l.length) = l := by
  have := (runs_back l l.length (Nat.le_refl _)).1
  rwa [List.take_length] at this
theorem expand_take (R : List RN) (i : Nat) (h : i < R.length) : expandR (R.take (i + 1)) = expandR (R.take i) ++ List.replicate R[i].2 R[i].1 := by
  rw [List.take_succ_eq_append_getElem h, expand_app, expand_one]
theorem tot_take (R : List RN) (i : Nat) (h : i < R.length) : totR (R.take (i + 1)) = totR (R.take i) + R[i].2 := by
  rw [List.take_succ_eq_append_getElem h, tot_app]; simp [totR]
theorem start_at (f b : Int) (l : List ByteArray) (i : Nat) (h : i < (runsN f b l l.length).length) : ∃ hp : totR ((runsN f b l l.length).take i) < l.length, l[totR ((runsN f b l l.length).take i)] = (runsN f b l l.length)[i].1 := by
  have hs := (runs_starts f b l l.length (Nat.le_refl _)).2
  have e : runsN f b l l.length = (runsN f b l l.length).take i ++ (runsN f b l l.length)[i] :: (runsN f b l l.length).drop (i + 1) := by
    rw [← List.drop_eq_getElem_cons h, List.take_append_drop]
  generalize hR : runsN f b l l.length = R at *
  rw [e, starts_app] at hs
  have h2 := hs.2.1
  rw [Nat.zero_add] at h2
  exact List.getElem?_eq_some_iff.1 h2
theorem tot_all (f b : Int) (l : List ByteArray) : totR (runsN f b l l.length) = l.length := (runs_starts f b l l.length (Nat.le_refl _)).1
end Go.Proofs.YtaekgfmcelckoaaDoor.P

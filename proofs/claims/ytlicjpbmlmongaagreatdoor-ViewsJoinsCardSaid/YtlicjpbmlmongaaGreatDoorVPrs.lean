/- Pairs of lines whose fields are the same: by places, or each with all; no program in sight. -/
import Derived.Test.YtlicjpbmlmongaaGreatDoorVJoin
import Derived.Test.YtlicjpbmlmongaaGreatDoorKPlain
set_option linter.unusedVariables false
set_option linter.unusedSimpArgs false
namespace Go.Proofs.YtlicjpbmlmongaaGreatDoor.C
open Go.RowKit Go.Proofs Go.Proofs.YtlicjpbmlmongaaGreatDoor.H Go.Proofs.YtlicjpbmlmongaaGreatDoor.S Go.Proofs.YtlicjpbmlmongaaGreatDoor.K

theorem ltB_self (x : ByteArray) : ltB x x = false := less_irrefl _
theorem ltB_trans {x y z : ByteArray} (h : ltB x y = true) (k : ltB y z = true) : ltB x z = true := less_trans _ _ _ h k
theorem ltB_tot {x y : ByteArray} (h : ltB x y = false) (k : ltB y x = false) : x = y := by
  have e := less_total _ _ h k
  rw [ByteArray.toList_eq, ByteArray.toList_eq] at e
  exact ByteArray.ext (Array.ext' e)
theorem ltB_mid {x y z : ByteArray} (h : ltB y x = false) (k : ltB z y = false) : ltB z x = false := by
  cases e : ltB z x with
  | false => rfl
  | true =>
    cases e2 : ltB x y with
    | true => rw [ltB_trans e e2] at k; cases k
    | false =>
      have := ltB_tot h e2
      subst this
      rw [e] at k; cases k
/-- In order: none is ahead of one that stands before it. -/
def Up (d : List ByteArray) : Prop := d.Pairwise (fun a b => ltB b a = false)
theorem down_up (d : List ByteArray) (h : sortedP d = true) : Up d := by
  have h1 : ∀ n, downP d n = true → ∀ i, i < n → ltB (d.getD (i + 1) ⟨#[]⟩) (d.getD i ⟨#[]⟩) = false := by
    intro n
    induction n with
    | zero => intro _ i hi; omega
    | succ n ih =>
      intro hn i hi
      simp only [downP, Bool.and_eq_true, Bool.not_eq_true'] at hn
      rcases Nat.lt_or_ge i n with h | h
      · exact ih hn.2 i h
      · obtain rfl : i = n := by omega
        exact hn.1
  have h2 := h1 _ h
  have h3 : ∀ k i, i + k < d.length → ltB (d.getD (i + k) ⟨#[]⟩) (d.getD i ⟨#[]⟩) = false := by
    intro k
    induction k with
    | zero => intro i _; exact ltB_self _
    | succ k ih =>
      intro i hi
      exact ltB_mid (ih i (by omega)) (h2 (i + k) (by omega))
  unfold Up
  rw [List.pairwise_iff_getElem]
  intro i j hi hj hij
  have := h3 (j - i) i (by omega)
  rw [show i + (j - i) = j by omega] at this
  simpa [List.getD_eq_getElem?_getD, List.getElem?_eq_getElem hi, List.getElem?_eq_getElem hj] using this
theorem up_down (d : List ByteArray) (h : Up d) : sortedP d = true := by
  unfold Up at h
  rw [List.pairwise_iff_getElem] at h
  have h1 : ∀ n, n < d.length ∨ n = 0 → downP d n = true := by
    intro n
    induction n with
    | zero => intro _; rfl
    | succ n ih =>
      intro hn
      have hn' : n + 1 < d.length := by omega
      have := h n (n + 1) (by omega) hn' (by omega)
      simp only [downP, Bool.and_eq_true, Bool.not_eq_true']
      refine ⟨?_, ih (by omega)⟩
      simpa [List.getD_eq_getElem?_getD, List.getElem?_eq_getElem hn', List.getElem?_eq_getElem (show n < d.length by omega)] using this
  exact h1 _ (by omega)
/-- How many are ahead of x. -/
def less (E : List ByteArray) (x : ByteArray) : Nat := (E.takeWhile (fun y => ltB y x)).length
theorem tw_drop {α : Type} (p : α → Bool) : ∀ (l : List α) (f : Nat), f ≤ (l.takeWhile p).length → f + ((l.drop f).takeWhile p).length = (l.takeWhile p).length
  | l, 0, _ => by simp
  | [], f + 1, h => by simp at h
  | x :: l, f + 1, h => by
    rw [List.takeWhile_cons] at h ⊢
    split at h
    · rename_i hp
      rw [List.length_cons] at h
      have := tw_drop p l f (by omega)
      rw [if_pos hp, List.drop_succ_cons, List.length_cons]
      omega
    · simp at h
theorem less_up {E : List ByteArray} {x y : ByteArray} (h : ltB y x = false) : less E x ≤ less E y := by
  unfold less
  induction E with
  | nil => exact Nat.zero_le _
  | cons e E ih =>
    rw [List.takeWhile_cons, List.takeWhile_cons]
    split
    · rename_i hp
      rw [if_pos]
      · rw [List.length_cons, List.length_cons]; omega
      · cases e2 : ltB e y with
        | true => rfl
        | false =>
          rw [ltB_mid h e2] at hp
          cases hp
    · exact Nat.zero_le _
theorem froms_less {D E : List ByteArray} (hD : Up D) : ∀ i, i < D.length → froms D E (i + 1) = less E (D.getD i ⟨#[]⟩) := by
  have hD' := hD
  unfold Up at hD'
  rw [List.pairwise_iff_getElem] at hD'
  intro i
  induction i with
  | zero =>
    intro hi
    show adv E _ 0 = _
    unfold adv less
    simp
  | succ i ih =>
    intro hi
    have h1 := ih (by omega)
    have h2 := hD' i (i + 1) (by omega) hi (by omega)
    show adv E (D.getD (i + 1) ⟨#[]⟩) (froms D E (i + 1)) = _
    rw [h1]
    have h3 : less E (D.getD i ⟨#[]⟩) ≤ less E (D.getD (i + 1) ⟨#[]⟩) := less_up (by simpa [List.getD_eq_getElem?_getD, List.getElem?_eq_getElem hi, List.getElem?_eq_getElem (show i < D.length by omega)] using h2)
    unfold adv
    exact tw_drop _ E _ h3
theorem filter_run {α : Type} (f : α → ByteArray) (x : ByteArray) : ∀ (Y : List α), Up (Y.map f) → Y.filter (fun y => decide (f y = x)) = (Y.drop (less (Y.map f) x)).take (same (Y.map f) x (less (Y.map f) x))
  | [], _ => by simp
  | y :: Y, h => by
    have h' := h
    unfold Up at h'
    rw [List.map_cons, List.pairwise_cons] at h'
    have ih := filter_run f x Y h'.2
    by_cases hl : ltB (f y) x = true
    · have hne : ¬ f y = x := fun e => by rw [e, ltB_self] at hl; cases hl
      have e1 : less ((y :: Y).map f) x = less (Y.map f) x + 1 := by unfold less; rw [List.map_cons, List.takeWhile_cons, if_pos hl, List.length_cons]
      have e2 : same ((y :: Y).map f) x (less (Y.map f) x + 1) = same (Y.map f) x (less (Y.map f) x) := by unfold same; rw [List.map_cons, List.drop_succ_cons]
      rw [List.filter_cons, if_neg (by simpa using hne), ih, e1, e2, List.drop_succ_cons]
    · have hl' : ltB (f y) x = false := by simpa using hl
      have e1 : less ((y :: Y).map f) x = 0 := by unfold less; rw [List.map_cons, List.takeWhile_cons, if_neg hl]; rfl
      have e0 : less (Y.map f) x = 0 := by
        unfold less
        cases Y with
        | nil => rfl
        | cons z Z =>
          have := h'.1 (f z) (by simp)
          rw [List.map_cons, List.takeWhile_cons, if_neg]
          · rfl
          · rw [ltB_mid hl' this]; decide
      rw [e1]
      rw [e0] at ih
      by_cases hx : f y = x
      · have e2 : same ((y :: Y).map f) x 0 = same (Y.map f) x 0 + 1 := by unfold same; rw [List.drop_zero, List.drop_zero, List.map_cons, List.takeWhile_cons, if_pos (by simpa using hx), List.length_cons]
        rw [List.filter_cons, if_pos (by simpa using hx), ih, e2]
        simp
      · have e2 : same ((y :: Y).map f) x 0 = 0 := by unfold same; rw [List.drop_zero, List.map_cons, List.takeWhile_cons, if_neg (by simpa using hx)]; rfl
        rw [e2, List.take_zero, List.filter_eq_nil_iff]
        intro z hz
        simp only [decide_eq_true_eq]
        intro hzx
        rcases List.mem_cons.1 hz with rfl | hz
        · exact hx hzx
        · have h3 := h'.1 (f z) (List.mem_map_of_mem hz)
          rw [hzx] at h3
          exact hx (ltB_tot hl' h3)
theorem row_lines {β : Type} (g : FR → FR → β) (X Y : List FR) (i : Nat) (hi : i < X.length) (hX : Up (X.map (·.1))) (hY : Up (Y.map (·.1))) :
    (rowI (X.map (·.1)) (Y.map (·.1)) i).map (fun p => g (X.getD p.1 (⟨#[]⟩, [])) (Y.getD p.2 (⟨#[]⟩, []))) = (Y.filter (fun y => decide (y.1 = X[i].1))).map (g X[i]) := by
  have h1 := froms_less (E := Y.map (·.1)) hX i (by simpa using hi)
  have ex : (X.map (·.1)).getD i ⟨#[]⟩ = X[i].1 := by simp [List.getD_eq_getElem?_getD, hi]
  rw [filter_run (·.1) X[i].1 Y hY]
  unfold rowI
  rw [h1, ex]
  obtain ⟨p, hp⟩ : ∃ p, less (Y.map (·.1)) X[i].1 = p := ⟨_, rfl⟩
  obtain ⟨d, hd⟩ : ∃ d, same (Y.map (·.1)) X[i].1 p = d := ⟨_, rfl⟩
  rw [hp, hd]
  have hle : p + d ≤ Y.length := by
    rw [← hd, ← hp]
    unfold same
    have h2 := (List.takeWhile_sublist (p := fun y => decide (y = X[i].1)) (l := (Y.map (·.1)).drop (less (Y.map (·.1)) X[i].1))).length_le
    have h3 : less (Y.map (·.1)) X[i].1 ≤ Y.length := by
      unfold less
      have := (List.takeWhile_sublist (p := fun y => ltB y X[i].1) (l := Y.map (·.1))).length_le
      rw [List.length_map] at this
      exact this
    rw [List.length_drop, List.length_map] at h2
    omega
  rw [List.map_map]
  apply List.ext_getElem
  · simp; omega
  · intro j h1 h2
    have hj : j < d := by simpa using h1
    simp [List.getD_eq_getElem?_getD, List.getElem?_eq_getElem (show p + j < Y.length by omega), hi]
/-- All lines of pairs whose fields are the same. -/
def pairsL {β : Type} (g : FR → FR → β) (X Y : List FR) : List β := X.flatMap fun x => (Y.filter (fun y => decide (y.1 = x.1))).map (g x)
theorem pairs_lines {β : Type} (g : FR → FR → β) (X Y : List FR) (hX : Up (X.map (·.1))) (hY : Up (Y.map (·.1))) :
    (pairsI (X.map (·.1)) (Y.map (·.1)) X.length).map (fun p => g (X.getD p.1 (⟨#[]⟩, [])) (Y.getD p.2 (⟨#[]⟩, []))) = pairsL g X Y := by
  have h : ∀ n, n ≤ X.length → (pairsI (X.map (·.1)) (Y.map (·.1)) n).map (fun p => g (X.getD p.1 (⟨#[]⟩, [])) (Y.getD p.2 (⟨#[]⟩, []))) = pairsL g (X.take n) Y := by
    intro n
    induction n with
    | zero => intro _; simp [pairsI, pairsL]
    | succ n ih =>
      intro hn
      simp only [pairsI]
      have e : pairsL g (X.take (n + 1)) Y = pairsL g (X.take n) Y ++ (Y.filter (fun y => decide (y.1 = X[n].1))).map (g X[n]) := by
        unfold pairsL
        rw [List.take_succ_eq_append_getElem (show n < X.length by omega), List.flatMap_append]
        congr 1
        exact List.append_nil _
      rw [List.map_append, ih (by omega), row_lines g X Y n (by omega) hX hY, e]
  have := h X.length (Nat.le_refl _)
  rwa [List.take_length] at this
end Go.Proofs.YtlicjpbmlmongaaGreatDoor.C

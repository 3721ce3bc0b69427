/- A text without tabs: the plain laws of cuts.Expand. -/
import Derived.Test.YtkedjlekeohpaaaDoorCExpand
set_option linter.unusedVariables false
set_option linter.unusedSimpArgs false
namespace Go.Proofs.YtkedjlekeohpaaaDoor.P
open Go.RowKit Go.Proofs.YtkedjlekeohpaaaDoor.C

/-- What is told from a column on, and the column behind it. -/
def expP (n : Nat) : Nat → List UInt8 → List UInt8
  | _, [] => []
  | col, c :: l => if c = 9 then List.replicate (n - col % n) 32 ++ expP n (col + (n - col % n)) l else if c = 10 then 10 :: expP n 0 l else c :: expP n (col + 1) l
def colP (n : Nat) : Nat → List UInt8 → Nat
  | col, [] => col
  | col, c :: l => if c = 9 then colP n (col + (n - col % n)) l else if c = 10 then colP n 0 l else colP n (col + 1) l
theorem goE_exp (n : Nat) (h1 : 1 ≤ n) (h100 : n ≤ 100) : ∀ (l out : List UInt8) (col : Nat), out.length + 100 * l.length ≤ 1048576 → goE n l out col = (out ++ expP n col l, 0)
  | [], out, col, _ => by simp [goE, expP]
  | c :: l, out, col, h => by
    have hl : (c :: l).length = l.length + 1 := rfl
    rw [hl] at h
    unfold goE
    by_cases h9 : c = 9
    · have hm : n - col % n ≤ 100 := by omega
      have e : stepE n out col c = (out ++ List.replicate (n - col % n) 32, col + (n - col % n)) := by unfold stepE; rw [if_pos h9]
      rw [e, if_neg (by rw [List.length_append, List.length_replicate]; omega)]
      simp only
      rw [goE_exp n h1 h100 l _ _ (by rw [List.length_append, List.length_replicate]; omega)]
      simp only [expP]
      rw [if_pos h9, List.append_assoc]
    · by_cases h10 : c = 10
      · have e : stepE n out col c = (out ++ [10], 0) := by unfold stepE; rw [if_neg h9, if_pos h10]
        rw [e, if_neg (by rw [List.length_append]; simp; omega)]
        simp only
        rw [goE_exp n h1 h100 l _ _ (by rw [List.length_append]; simp; omega)]
        simp only [expP]
        rw [if_neg h9, if_pos h10, List.append_assoc]; rfl
      · have e : stepE n out col c = (out ++ [c], col + 1) := by unfold stepE; rw [if_neg h9, if_neg h10]
        rw [e, if_neg (by rw [List.length_append]; simp; omega)]
        simp only
        rw [goE_exp n h1 h100 l _ _ (by rw [List.length_append]; simp; omega)]
        simp only [expP]
        rw [if_neg h9, if_neg h10, List.append_assoc]; rfl
theorem expE_exp (n : Nat) (h1 : 1 ≤ n) (h100 : n ≤ 100) (l : List UInt8) (h : l.length ≤ 10000) : expE (n : Int) l = (expP n 0 l, 0) := by
  unfold expE
  rw [if_neg (by omega), if_neg (by omega), Int.toNat_natCast, goE_exp n h1 h100 l [] 0 (by simp; omega), List.nil_append]
theorem exp_len (n : Nat) (h1 : 1 ≤ n) (h100 : n ≤ 100) : ∀ (l : List UInt8) (col : Nat), (expP n col l).length ≤ 100 * l.length
  | [], _ => by simp [expP]
  | c :: l, col => by
    have hl : (c :: l).length = l.length + 1 := rfl
    rw [hl]
    simp only [expP]
    split
    · have := exp_len n h1 h100 l (col + (n - col % n))
      rw [List.length_append, List.length_replicate]; omega
    · split
      · have := exp_len n h1 h100 l 0
        simp only [List.length_cons]; omega
      · have := exp_len n h1 h100 l (col + 1)
        simp only [List.length_cons]; omega
theorem exp_app (n : Nat) : ∀ (l r : List UInt8) (col : Nat), expP n col (l ++ r) = expP n col l ++ expP n (colP n col l) r
  | [], _, _ => rfl
  | c :: l, r, col => by
    rw [List.cons_append]
    simp only [expP, colP]
    split
    · rw [exp_app n l r, List.append_assoc]
    · split
      · rw [exp_app n l r, List.cons_append]
      · rw [exp_app n l r, List.cons_append]
theorem col_app (n : Nat) : ∀ (l r : List UInt8) (col : Nat), colP n col (l ++ r) = colP n (colP n col l) r
  | [], _, _ => rfl
  | c :: l, r, col => by
    rw [List.cons_append]
    simp only [colP]
    split
    · exact col_app n l r _
    · split
      · exact col_app n l r _
      · exact col_app n l r _
theorem exp_mod (n : Nat) : ∀ (l : List UInt8) (c1 c2 : Nat), c1 % n = c2 % n → expP n c1 l = expP n c2 l
  | [], _, _, _ => rfl
  | c :: l, c1, c2, h => by
    simp only [expP]
    split
    · rw [h, exp_mod n l (c1 + (n - c2 % n)) (c2 + (n - c2 % n)) (by rw [Nat.add_mod, h, ← Nat.add_mod])]
    · split
      · rfl
      · rw [exp_mod n l (c1 + 1) (c2 + 1) (by rw [Nat.add_mod, h, ← Nat.add_mod])]
theorem tab_mod (n col : Nat) (h1 : 1 ≤ n) : (col + (n - col % n)) % n = 0 := by
  have h := Nat.div_add_mod col n
  have hm : col % n < n := Nat.mod_lt _ h1
  have : col + (n - col % n) = n * (col / n + 1) := by rw [Nat.mul_add]; omega
  rw [this, Nat.mul_mod_right]
theorem exp_none (n : Nat) : ∀ (l : List UInt8) (col : Nat), 9 ∉ expP n col l
  | [], _ => by simp [expP]
  | c :: l, col => by
    simp only [expP]
    split
    · intro h
      rcases List.mem_append.1 h with h | h
      · have := (List.mem_replicate.1 h).2
        exact absurd this (by decide)
      · exact exp_none n l _ h
    · rename_i h9
      split
      · intro h
        rcases List.mem_cons.1 h with h | h
        · exact absurd h (by decide)
        · exact exp_none n l _ h
      · intro h
        rcases List.mem_cons.1 h with h | h
        · exact h9 h.symm
        · exact exp_none n l _ h
theorem exp_id (n : Nat) : ∀ (l : List UInt8) (col : Nat), 9 ∉ l → expP n col l = l
  | [], _, _ => rfl
  | c :: l, col, h => by
    have h9 : ¬ c = 9 := fun e => h (by simp [e])
    have hl : 9 ∉ l := fun e => h (List.mem_cons_of_mem _ e)
    simp only [expP]
    rw [if_neg h9]
    split
    · rename_i h10; rw [exp_id n l 0 hl, h10]
    · rw [exp_id n l _ hl]
theorem goE_id (n : Nat) : ∀ (l out : List UInt8) (col : Nat), 9 ∉ l → out.length + l.length ≤ 1048576 → goE n l out col = (out ++ l, 0)
  | [], out, col, _, _ => by simp [goE]
  | c :: l, out, col, h, hl => by
    have h9 : ¬ c = 9 := fun e => h (by simp [e])
    have hn : 9 ∉ l := fun e => h (List.mem_cons_of_mem _ e)
    rw [List.length_cons] at hl
    unfold goE
    by_cases h10 : c = 10
    · have e : stepE n out col c = (out ++ [10], 0) := by unfold stepE; rw [if_neg h9, if_pos h10]
      rw [e, if_neg (by rw [List.length_append]; simp; omega)]
      simp only
      rw [goE_id n l _ _ hn (by rw [List.length_append]; simp; omega), List.append_assoc, h10]; rfl
    · have e : stepE n out col c = (out ++ [c], col + 1) := by unfold stepE; rw [if_neg h9, if_neg h10]
      rw [e, if_neg (by rw [List.length_append]; simp; omega)]
      simp only
      rw [goE_id n l _ _ hn (by rw [List.length_append]; simp; omega), List.append_assoc]; rfl
theorem expE_id (n : Nat) (h1 : 1 ≤ n) (h100 : n ≤ 100) (l : List UInt8) (h : 9 ∉ l) (hl : l.length ≤ 1000000) : expE (n : Int) l = (l, 0) := by
  unfold expE
  rw [if_neg (by omega), if_neg (by omega), Int.toNat_natCast, goE_id n l [] 0 h (by simp; omega), List.nil_append]
/-- Behind the last end of a line among the first k bytes. -/
def nlTo (l : List UInt8) : Nat → Nat
  | 0 => 0
  | k + 1 => if l.getD k 0 = 10 then k + 1 else nlTo l k
theorem nl_le (l : List UInt8) : ∀ k, nlTo l k ≤ k
  | 0 => Nat.le_refl _
  | k + 1 => by
    unfold nlTo
    split
    · exact Nat.le_refl _
    · have := nl_le l k; omega
theorem nl_app (l r : List UInt8) : ∀ k, k ≤ l.length → nlTo (l ++ r) k = nlTo l k
  | 0, _ => rfl
  | k + 1, h => by
    unfold nlTo
    have e : (l ++ r).getD k 0 = l.getD k 0 := by simp only [List.getD_eq_getElem?_getD]; rw [List.getElem?_append_left (by omega)]
    rw [e, nl_app l r k (by omega)]
/-- How long the last line is. -/
def lastLen (l : List UInt8) : Nat := l.length - nlTo l l.length
theorem last_snoc (l : List UInt8) (c : UInt8) : lastLen (l ++ [c]) = if c = 10 then 0 else lastLen l + 1 := by
  unfold lastLen
  have h := nl_le l l.length
  have e : nlTo (l ++ [c]) (l.length + 1) = if c = 10 then l.length + 1 else nlTo l l.length := by
    show (if (l ++ [c]).getD l.length 0 = 10 then l.length + 1 else nlTo (l ++ [c]) l.length) = _
    have g : (l ++ [c]).getD l.length 0 = c := by simp [List.getD_eq_getElem?_getD]
    rw [g, nl_app l [c] l.length (Nat.le_refl _)]
  rw [List.length_append, List.length_singleton, e]
  split
  · omega
  · omega
theorem last_rep (l : List UInt8) : ∀ m, lastLen (l ++ List.replicate m 32) = lastLen l + m
  | 0 => by simp
  | m + 1 => by
    rw [List.replicate_succ', ← List.append_assoc, last_snoc, if_neg (by decide), last_rep l m]; omega
theorem last_exp (n : Nat) : ∀ (l out : List UInt8) (col : Nat), lastLen out = col → lastLen (out ++ expP n col l) = colP n col l
  | [], out, col, h => by simpa [expP, colP] using h
  | c :: l, out, col, h => by
    simp only [expP, colP]
    split
    · rw [← List.append_assoc]
      exact last_exp n l _ _ (by rw [last_rep, h])
    · split
      · rw [show out ++ 10 :: expP n 0 l = (out ++ [10]) ++ expP n 0 l by simp]
        exact last_exp n l _ _ (by rw [last_snoc, if_pos rfl])
      · rename_i h10
        rw [show out ++ c :: expP n (col + 1) l = (out ++ [c]) ++ expP n (col + 1) l by simp]
        exact last_exp n l _ _ (by rw [last_snoc, if_neg h10, h])
/-- The law: a text, a tab, and a text behind it. -/
theorem tabs_law (n : Nat) (h1 : 1 ≤ n) (s t : List UInt8) :
    expP n 0 (s ++ 9 :: t) = expP n 0 (s ++ [9]) ++ expP n 0 t ∧ lastLen (expP n 0 (s ++ [9])) % n = 0 := by
  have hc : colP n 0 (s ++ [9]) % n = 0 := by
    rw [col_app]
    simp only [colP, if_true]
    exact tab_mod n _ h1
  refine ⟨?_, ?_⟩
  · rw [show s ++ 9 :: t = (s ++ [9]) ++ t by simp, exp_app, exp_mod n t _ 0 (by rw [hc, Nat.zero_mod])]
  · have := last_exp n (s ++ [9]) [] 0 rfl
    rw [List.nil_append] at this
    rw [this, hc]
end Go.Proofs.YtkedjlekeohpaaaDoor.P

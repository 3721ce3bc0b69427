/- Numbers with the same whole part: the digits behind the point decide. -/
import Derived.Test.YtbndinaiclkajaaDoorKTold
set_option linter.unusedVariables false
namespace Go.Proofs.YtbndinaiclkajaaDoor.K
open Go.RowKit Go.Proofs.YtbndinaiclkajaaDoor.H Go.Proofs.YtbndinaiclkajaaDoorW.PrintWords
theorem take_digits : ∀ p : List UInt8, (∀ c ∈ p, digitC c = true) → p.takeWhile digitC = p
  | [], _ => rfl
  | x :: p, h => by rw [List.takeWhile_cons, if_pos (h x (by simp)), take_digits p (fun c hc => h c (by simp [hc]))]
theorem part_num (neg : Bool) (D p : List UInt8) (hD : ∀ c ∈ D, digitC c = true) (hne : D ≠ []) (hp : ∀ c ∈ p, digitC c = true) :
    numL ((if neg = true then [45] else []) ++ (D ++ 46 :: p)) = ⟨if D.dropWhile (· == 48) = [] ∧ trimR (· == 48) p = [] then 0 else if neg = true then -1 else 1, D.dropWhile (· == 48), trimR (· == 48) p⟩ := by
  have h := num_told [] neg D (46 :: p) (fun c hc => by cases hc) hD hne (fun c hc => by injection hc with hc; rw [← hc]; decide)
  have ht : tailPart (46 :: p) = trimR (· == 48) p := by show trimR (· == 48) (p.takeWhile digitC) = _; rw [take_digits p hp]
  rw [ht] at h
  exact h
theorem parted_cmp (neg : Bool) (D p q P Q : List UInt8) (hD : ∀ c ∈ D, digitC c = true) (hne : D ≠ []) (hp : ∀ c ∈ p, digitC c = true) (hq : ∀ c ∈ q, digitC c = true)
    (hP : trimR (· == 48) p = trimR (· == 48) P) (hQ : trimR (· == 48) q = trimR (· == 48) Q) (hl : P.length = Q.length) (h1 : ∀ c ∈ P, (48 : UInt8) ≤ c) (h2 : ∀ c ∈ Q, (48 : UInt8) ≤ c) :
    numC ((if neg = true then [45] else []) ++ (D ++ 46 :: p)) ((if neg = true then [45] else []) ++ (D ++ 46 :: q)) = if neg = true then - cmpB P Q else cmpB P Q := by
  unfold numC
  rw [part_num neg D p hD hne hp, part_num neg D q hD hne hq, hP, hQ, cmp_parted neg (D.dropWhile (· == 48)) (trimR (· == 48) P) (trimR (· == 48) Q), cmp_trim P.length P Q rfl hl.symm h1 h2]
theorem cmpB_snoc : ∀ (p q : List UInt8) (x y : UInt8), p.length = q.length → cmpB (p ++ [x]) (q ++ [y]) = if cmpB p q = 0 then (if x < y then -1 else if y < x then 1 else 0) else cmpB p q := by
  intro p
  induction p with
  | nil =>
    intro q x y h
    obtain rfl : q = [] := List.eq_nil_of_length_eq_zero h.symm
    have e : cmpB ([] : List UInt8) [] = 0 := rfl
    rw [e, if_pos rfl]
    unfold cmpB
    simp [Op.bytesLess]
  | cons a p ih =>
    intro q x y h
    cases q with
    | nil => simp at h
    | cons b q =>
      have hl : p.length = q.length := by simpa using h
      have i := ih q x y hl
      have step : ∀ (u v : List UInt8), cmpB (a :: u) (b :: v) = if a < b then -1 else if b < a then 1 else cmpB u v := by
        intro u v
        unfold cmpB
        simp only [Op.bytesLess, Bool.or_eq_true, decide_eq_true_eq, Bool.and_eq_true, beq_iff_eq]
        by_cases h1 : a < b
        · simp [h1]
        · by_cases h2 : b < a
          · have h3 : ¬ a = b := fun e => by rw [e] at h2; exact UInt8.lt_irrefl _ h2
            simp [h1, h2, h3]
          · have h3 : a = b := UInt8.le_antisymm (UInt8.not_lt.1 h2) (UInt8.not_lt.1 h1)
            subst h3
            simp [h1]
      rw [List.cons_append, List.cons_append, step, step, i]
      by_cases h1 : a < b
      · simp [h1]
      · by_cases h2 : b < a
        · simp [h1, h2]
        · simp [h1, h2]
end Go.Proofs.YtbndinaiclkajaaDoor.K

/- Orders that are told by -1, 0, 1: of bytes, of whole numbers, one behind the other. -/
import Derived.Lib.Small
import Derived.Laws.Strings
set_option linter.unusedVariables false
set_option linter.unusedSimpArgs false
namespace Go.Proofs.YtbndinaiclkajaaDoor.K
variable {α β : Type}

theorem less_irrefl : ∀ a : List UInt8, Op.bytesLess a a = false
  | [] => rfl
  | a :: x => by
    have := less_irrefl x
    simp [Op.bytesLess, this]
theorem less_asymm : ∀ a b : List UInt8, Op.bytesLess a b = true → Op.bytesLess b a = false
  | _, [] => fun h => by simp [Op.bytesLess] at h
  | [], _ :: _ => fun _ => by simp [Op.bytesLess]
  | a :: x, b :: y => fun h => by
    simp only [Op.bytesLess, Bool.or_eq_true, decide_eq_true_eq, Bool.and_eq_true, beq_iff_eq] at h
    simp only [Op.bytesLess, Bool.or_eq_false_iff, decide_eq_false_iff_not, Bool.and_eq_false_iff, beq_eq_false_iff_ne]
    rcases h with h | ⟨rfl, h⟩
    · exact ⟨fun k => UInt8.lt_asymm h k, .inl fun e => by subst e; exact UInt8.lt_irrefl _ h⟩
    · exact ⟨UInt8.lt_irrefl _, .inr (less_asymm x y h)⟩
theorem less_total : ∀ a b : List UInt8, Op.bytesLess a b = false → Op.bytesLess b a = false → a = b
  | [], [] => fun _ _ => rfl
  | _ :: _, [] => fun _ h => by simp [Op.bytesLess] at h
  | [], _ :: _ => fun h _ => by simp [Op.bytesLess] at h
  | a :: x, b :: y => fun h k => by
    simp only [Op.bytesLess, Bool.or_eq_false_iff, decide_eq_false_iff_not, Bool.and_eq_false_iff, beq_eq_false_iff_ne] at h k
    have e : a = b := by
      rcases UInt8.lt_or_eq_of_le (UInt8.not_lt.1 h.1) with h' | h'
      · exact absurd h' k.1
      · exact h'.symm
    subst e
    rcases h.2 with h2 | h2
    · exact absurd rfl h2
    · rcases k.2 with k2 | k2
      · exact absurd rfl k2
      · rw [less_total x y h2 k2]
theorem less_trans : ∀ a b c : List UInt8, Op.bytesLess a b = true → Op.bytesLess b c = true → Op.bytesLess a c = true
  | _, [], _ => fun h _ => by simp [Op.bytesLess] at h
  | _, _ :: _, [] => fun _ h => by simp [Op.bytesLess] at h
  | [], _ :: _, _ :: _ => fun _ _ => by simp [Op.bytesLess]
  | a :: x, b :: y, c :: z => fun h k => by
    simp only [Op.bytesLess, Bool.or_eq_true, decide_eq_true_eq, Bool.and_eq_true, beq_iff_eq] at h k ⊢
    rcases h with h | ⟨rfl, h⟩
    · rcases k with k | ⟨rfl, k⟩
      · exact .inl (UInt8.lt_trans h k)
      · exact .inl h
    · rcases k with k | ⟨rfl, k⟩
      · exact .inl k
      · exact .inr ⟨rfl, less_trans x y z h k⟩

/-- Two texts as bytes: -1, 0, 1. -/
def cmpB (a b : List UInt8) : Int := if Op.bytesLess a b = true then -1 else if Op.bytesLess b a = true then 1 else 0

/-- c tells an order: -1, 0, 1; the other way about; and through a third. -/
structure Ord {α : Type} (c : α → α → Int) : Prop where
  one : ∀ a b, c a b = -1 ∨ c a b = 0 ∨ c a b = 1
  back : ∀ a b, c b a = - c a b
  go : ∀ a b d, c a b ≤ 0 → c b d ≤ 0 → c a d ≤ 0 ∧ (c a d = 0 → c a b = 0 ∧ c b d = 0)

theorem Ord.self {c : α → α → Int} (h : Ord c) (a : α) : c a a = 0 := by have := h.back a a; omega
theorem Ord.alike {c : α → α → Int} (h : Ord c) {a b : α} (e : c a b = 0) (d : α) : c a d = c b d ∧ c d a = c d b := by
  have e2 : c b a = 0 := by have := h.back a b; omega
  have x : c a d = c b d := by
    rcases h.one a d with k | k | k <;> rcases h.one b d with m | m | m <;> try omega
    · have := h.go a b d (by omega) (by have := h.go b a d (by omega) (by omega); omega); have := h.go b a d (by omega) (by omega); omega
    · have := (h.go b a d (by omega) (by omega)); omega
    · have := (h.go a b d (by omega) (by omega)); omega
    · have := (h.go b a d (by omega) (by omega)); omega
    · have := (h.go a b d (by omega) (by omega)); omega
    · have := (h.go a b d (by omega) (by omega)); omega
  exact ⟨x, by have := h.back a d; have := h.back b d; omega⟩
theorem Ord.rev {c : α → α → Int} (h : Ord c) : Ord (fun a b => - c a b) where
  one a b := by have := h.one a b; omega
  back a b := by have := h.back a b; omega
  go a b d k m := by
    have h1 := h.back a b; have h2 := h.back b d; have h3 := h.back a d
    have := h.go d b a (by omega) (by omega)
    omega
theorem Ord.zero : Ord (fun (_ _ : α) => (0 : Int)) where
  one _ _ := .inr (.inl rfl)
  back _ _ := rfl
  go _ _ _ _ _ := ⟨Int.le_refl _, fun _ => ⟨rfl, rfl⟩⟩
theorem Ord.map {c : α → α → Int} (h : Ord c) (f : β → α) : Ord (fun a b => c (f a) (f b)) where
  one a b := h.one _ _
  back a b := h.back _ _
  go a b d k m := h.go _ _ _ k m
/-- The first that tells more than 0. -/
def orC (x y : Int) : Int := if x = 0 then y else x
theorem Ord.or {c d : α → α → Int} (h : Ord c) (k : Ord d) : Ord (fun a b => orC (c a b) (d a b)) where
  one a b := by unfold orC; split; exact k.one a b; exact h.one a b
  back a b := by
    have := h.back a b; have := k.back a b
    simp only [orC]
    split <;> split <;> omega
  go a b e x y := by
    simp only [orC] at x y ⊢
    by_cases h1 : c a b = 0
    · rw [if_pos h1] at x
      have ha := h.alike h1 e
      by_cases h2 : c b e = 0
      · rw [if_pos h2] at y
        have h3 : c a e = 0 := by omega
        rw [if_pos h1, if_pos h2, if_pos h3]
        exact k.go a b e x y
      · rw [if_neg h2] at y
        have h3 : ¬ c a e = 0 := by omega
        rw [if_pos h1, if_neg h2, if_neg h3]
        exact ⟨by omega, fun h' => absurd h' h3⟩
    · rw [if_neg h1] at x
      by_cases h2 : c b e = 0
      · rw [if_pos h2] at y
        have hb : c e b = 0 := by have := h.back b e; omega
        have h3 : ¬ c a e = 0 := fun h' => by
          have := (h.alike hb a).2; have := h.back a e; have := h.back e a; have := h.back a b
          omega
        have h4 := h.go a b e x (by omega)
        rw [if_neg h1, if_neg h3]
        exact ⟨h4.1, fun h' => absurd h' h3⟩
      · rw [if_neg h2] at y
        have h4 := h.go a b e x y
        have h3 : ¬ c a e = 0 := fun h' => h1 (h4.2 h').1
        rw [if_neg h1, if_neg h2, if_neg h3]
        exact ⟨h4.1, fun h' => absurd h' h3⟩
theorem Ord.bytes : Ord cmpB where
  one a b := by unfold cmpB; split; simp; split <;> simp
  back a b := by
    unfold cmpB
    cases h : Op.bytesLess a b
    · cases k : Op.bytesLess b a <;> simp
    · rw [less_asymm a b h]; simp
  go a b d x y := by
    have le : ∀ p q, cmpB p q ≤ 0 → Op.bytesLess p q = true ∨ p = q := by
      intro p q h
      unfold cmpB at h
      cases h1 : Op.bytesLess p q
      · cases h2 : Op.bytesLess q p
        · exact .inr (less_total p q h1 h2)
        · simp [h1, h2] at h
      · exact .inl rfl
    have self : ∀ p, cmpB p p = 0 := by intro p; unfold cmpB; rw [less_irrefl]; simp
    have lt : ∀ p q, Op.bytesLess p q = true → cmpB p q = -1 := by intro p q h; unfold cmpB; rw [if_pos h]
    rcases le a b x with h | rfl
    · rcases le b d y with k | rfl
      · have := lt a d (less_trans a b d h k)
        omega
      · have := lt a b h
        omega
    · rcases le a d y with k | rfl
      · have := lt a d k
        omega
      · rw [self]; exact ⟨Int.le_refl _, fun _ => ⟨rfl, rfl⟩⟩
theorem cmpB_zero (a b : List UInt8) : cmpB a b = 0 ↔ a = b := by
  unfold cmpB
  constructor
  · intro h
    cases h1 : Op.bytesLess a b
    · cases h2 : Op.bytesLess b a
      · exact less_total a b h1 h2
      · simp [h1, h2] at h
    · simp [h1] at h
  · rintro rfl; rw [less_irrefl]; simp
/-- Two whole numbers: -1, 0, 1. -/
def cmpI (x y : Int) : Int := if x < y then -1 else if x > y then 1 else 0
theorem Ord.ints : Ord cmpI where
  one a b := by unfold cmpI; split; simp; split <;> simp
  back a b := by unfold cmpI; split <;> split <;> (try split) <;> omega
  go a b d x y := by
    unfold cmpI at x y ⊢
    split at x <;> split at y <;> (try split at x) <;> (try split at y) <;> (first | omega | (split <;> (try split) <;> omega))
/-- The same, times a sign that is alike where it counts. -/
theorem Ord.signed {c : α → α → Int} (h : Ord c) (s : α → Int) (hs : ∀ a, s a = -1 ∨ s a = 0 ∨ s a = 1) : Ord (fun a b => orC (cmpI (s a) (s b)) (s a * c a b)) where
  one a b := by
    unfold orC
    split
    · rcases hs a with e | e | e <;> rw [e] <;> have := h.one a b <;> omega
    · exact Ord.ints.one _ _
  back a b := by
    simp only [orC]
    have h1 := Ord.ints.back (s a) (s b)
    have h2 := h.back a b
    by_cases e : cmpI (s a) (s b) = 0
    · have e2 : s a = s b := by unfold cmpI at e; split at e; simp at e; split at e; simp at e; omega
      rw [if_pos e, if_pos (by omega), h2, ← e2, Int.mul_neg]
    · rw [if_neg e, if_neg (by omega)]; exact h1
  go a b d x y := by
    simp only [orC] at x y ⊢
    have eq : ∀ p q, cmpI p q = 0 → p = q := by intro p q e; unfold cmpI at e; split at e; simp at e; split at e; simp at e; omega
    have lt : ∀ p q, cmpI p q ≤ 0 → ¬ cmpI p q = 0 → p < q := by intro p q e n; unfold cmpI at e n; split at e; assumption; split at e; simp at e; rename_i h1 h2; simp [h1, h2] at n
    have mk : ∀ p q : Int, p < q → cmpI p q = -1 := by intro p q e; unfold cmpI; rw [if_pos e]
    have mk0 : ∀ p : Int, cmpI p p = 0 := by intro p; unfold cmpI; simp
    by_cases h1 : cmpI (s a) (s b) = 0
    · rw [if_pos h1] at x
      have e1 := eq _ _ h1
      by_cases h2 : cmpI (s b) (s d) = 0
      · rw [if_pos h2] at y
        have e2 := eq _ _ h2
        have h3 : cmpI (s a) (s d) = 0 := by rw [e1, e2]; exact mk0 _
        rw [if_pos h1, if_pos h2, if_pos h3]
        rw [← e1] at y ⊢
        rcases hs a with e | e | e
        · rw [e] at x y ⊢
          have := h.rev.go a b d (by omega) (by omega)
          omega
        · rw [e]; simp
        · rw [e] at x y ⊢
          have := h.go a b d (by omega) (by omega)
          omega
      · rw [if_neg h2] at y
        have := lt _ _ y h2
        have := mk _ _ (show s a < s d by omega)
        rw [if_neg (by omega), if_neg h2]
        omega
    · rw [if_neg h1] at x
      have l1 := lt _ _ x h1
      by_cases h2 : cmpI (s b) (s d) = 0
      · have e2 := eq _ _ h2
        have := mk _ _ (show s a < s d by omega)
        rw [if_neg h1, if_neg (by omega)]
        omega
      · rw [if_neg h2] at y
        have l2 := lt _ _ y h2
        have := mk _ _ (show s a < s d by omega)
        rw [if_neg h1, if_neg (by omega)]
        omega
end Go.Proofs.YtbndinaiclkajaaDoor.K

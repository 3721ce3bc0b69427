/- How lines compare, over lists of bytes. -/
import Derived.Test.YtbndinaiclkajaaDoorKKeys
set_option linter.unusedVariables false
set_option linter.unusedSimpArgs false
namespace Go.Proofs.YtbndinaiclkajaaDoor.K

def checkO (f t : Int) (c : UInt8) : Bool := decide (0 ≤ f ∧ f ≤ 1000 ∧ c ≠ 10 ∧ (t = 0 ∨ (0 < f ∧ f ≤ t ∧ t ≤ 1000)))
def keyO (f t : Int) (c : UInt8) (l : List UInt8) : List UInt8 := if checkO f t c = true then (if f = 0 then l else keyP (endsOf c l) f t l) else []
def upL (l : List UInt8) : List UInt8 := l.map upC
def fitL (bl fo : Bool) (l : List UInt8) : List UInt8 := if fo = true then upL (if bl = true then l.dropWhile blankC else l) else (if bl = true then l.dropWhile blankC else l)
def byO (nu fo bl : Bool) (x y : List UInt8) : Int := if nu = true then numC x y else cmpB (fitL bl fo x) (fitL bl fo y)
def cmpO (nu fo bl re : Bool) (f t : Int) (c : UInt8) (a b : List UInt8) : Int :=
  if checkO f t c = true then (if re = true then - byO nu fo bl (keyO f t c a) (keyO f t c b) else byO nu fo bl (keyO f t c a) (keyO f t c b)) else 0
theorem Ord.byO (nu fo bl : Bool) : Ord (byO nu fo bl) := by
  unfold K.byO
  cases nu
  · exact Ord.bytes.map (fitL bl fo)
  · exact Ord.num
theorem Ord.cmpO (nu fo bl re : Bool) (f t : Int) (c : UInt8) : Ord (cmpO nu fo bl re f t c) := by
  have h := (Ord.byO nu fo bl).map (keyO f t c)
  unfold K.cmpO
  cases checkO f t c
  · exact Ord.zero
  · cases re
    · exact h
    · exact h.rev
theorem cmpO_turn (nu fo bl re : Bool) (f t : Int) (c : UInt8) (a b : List UInt8) : cmpO nu fo bl (!re) f t c a b = - cmpO nu fo bl re f t c a b := by
  unfold cmpO
  cases checkO f t c
  · rfl
  · cases re
    · rfl
    · simp

/-! ### letters -/
theorem upC_cases (x : UInt8) : upC x = x ∨ (97 ≤ x ∧ x ≤ 122 ∧ 65 ≤ upC x ∧ upC x ≤ 90) := by
  unfold upC
  split
  · rename_i h
    refine .inr ⟨h.1, h.2, ?_, ?_⟩
    all_goals
      have h1 := UInt8.le_iff_toNat_le.1 h.1
      have h2 := UInt8.le_iff_toNat_le.1 h.2
      rw [UInt8.le_iff_toNat_le, UInt8.toNat_sub_of_le _ _ (UInt8.le_iff_toNat_le.2 (Nat.le_trans (by decide) h1))]
      simp at h1 h2 ⊢
      omega
  · exact .inl rfl
theorem upC_eq (x d : UInt8) (h1 : ¬ (65 ≤ d ∧ d ≤ 90)) (h2 : ¬ (97 ≤ d ∧ d ≤ 122)) : (upC x = d) ↔ x = d := by
  rcases upC_cases x with e | ⟨a, b, p, q⟩
  · rw [e]
  · exact ⟨fun e => absurd (e ▸ ⟨p, q⟩) h1, fun e => absurd (e ▸ ⟨a, b⟩) h2⟩
theorem upC_beq (x d : UInt8) (h1 : ¬ (65 ≤ d ∧ d ≤ 90)) (h2 : ¬ (97 ≤ d ∧ d ≤ 122)) : (upC x == d) = (x == d) := by
  rw [Bool.eq_iff_iff, beq_iff_eq, beq_iff_eq, upC_eq x d h1 h2]
theorem upC_blank (x : UInt8) : blankC (upC x) = blankC x := by
  unfold blankC
  rw [upC_beq x 32 (by decide) (by decide), upC_beq x 9 (by decide) (by decide)]
theorem upC_digit (x : UInt8) : digitC (upC x) = digitC x := by
  rcases upC_cases x with e | ⟨a, b, p, q⟩
  · rw [e]
  · have h1 : digitC x = false := by
      unfold digitC
      have : ¬ x ≤ 57 := fun k => absurd (UInt8.le_trans a k) (by decide)
      simp [this]
    have h2 : digitC (upC x) = false := by
      unfold digitC
      have : ¬ upC x ≤ 57 := fun k => absurd (UInt8.le_trans p k) (by decide)
      simp [this]
    rw [h1, h2]
theorem upC_of_digit (x : UInt8) (h : digitC x = true) : upC x = x := by
  rcases upC_cases x with e | ⟨a, b, p, q⟩
  · exact e
  · unfold digitC at h
    have : ¬ x ≤ 57 := fun k => absurd (UInt8.le_trans a k) (by decide)
    simp [this] at h
theorem upC_up (x : UInt8) : upC (upC x) = upC x := by
  rcases upC_cases x with e | ⟨a, b, p, q⟩
  · rw [e, e]
  · rcases upC_cases (upC x) with e | ⟨a', b', _, _⟩
    · exact e
    · exact absurd (UInt8.le_trans a' q) (by decide)
theorem upL_up (l : List UInt8) : upL (upL l) = upL l := by
  unfold upL
  rw [List.map_map]
  exact List.map_congr_left fun x _ => upC_up x
theorem upL_len (l : List UInt8) : (upL l).length = l.length := by simp [upL]
theorem dropBlank_up (l : List UInt8) : (upL l).dropWhile blankC = upL (l.dropWhile blankC) := by
  unfold upL
  rw [List.dropWhile_map]
  congr 1
  exact congrArg (fun p => List.dropWhile p l) (funext fun x => upC_blank x)
theorem takeDigit_up (l : List UInt8) : (upL l).takeWhile digitC = l.takeWhile digitC := by
  unfold upL
  rw [List.takeWhile_map]
  have : l.takeWhile (digitC ∘ upC) = l.takeWhile digitC := congrArg (fun p => List.takeWhile p l) (funext fun x => upC_digit x)
  rw [this]
  have h : ∀ x ∈ l.takeWhile digitC, upC x = x := fun x hx => upC_of_digit x (by
    have := List.all_takeWhile (p := digitC) (l := l)
    rw [List.all_eq_true] at this
    exact this x hx)
  rw [List.map_congr_left h, List.map_id']
theorem dropDigit_up (l : List UInt8) : (upL l).dropWhile digitC = upL (l.dropWhile digitC) := by
  unfold upL
  rw [List.dropWhile_map]
  congr 1
  exact congrArg (fun p => List.dropWhile p l) (funext fun x => upC_digit x)
theorem whole_up (l : List UInt8) : wholeOf (upL l) = wholeOf l := by unfold wholeOf; rw [takeDigit_up]
theorem part_up (l : List UInt8) : partOf (upL l) = partOf l := by
  unfold partOf
  rw [dropDigit_up]
  cases h : l.dropWhile digitC with
  | nil => rfl
  | cons x r =>
    by_cases hx : x = 46
    · subst hx
      show trimR _ ((upL r).takeWhile digitC) = _
      rw [takeDigit_up]; rfl
    · have : ¬ upC x = 46 := fun e => hx ((upC_eq x 46 (by decide) (by decide)).1 e)
      show (match upC x :: upL r with | 46 :: r => trimR (· == 48) (r.takeWhile digitC) | _ => []) = _
      split
      · rename_i e; injection e with e1 e2; exact absurd e1 this
      · split
        · rename_i e; injection e with e1 e2; exact absurd e1 hx
        · rfl
theorem minus_up (l : List UInt8) : (minusOf (upL l)).1 = (minusOf l).1 ∧ (minusOf (upL l)).2 = upL (minusOf l).2 := by
  cases l with
  | nil => exact ⟨rfl, rfl⟩
  | cons x r =>
    by_cases hx : x = 45
    · subst hx; exact ⟨rfl, rfl⟩
    · have h1 : ¬ upC x = 45 := fun e => hx ((upC_eq x 45 (by decide) (by decide)).1 e)
      have e1 : minusOf (x :: r) = (false, x :: r) := by
        unfold minusOf; split
        · rename_i e; injection e with e1 e2; exact absurd e1 hx
        · rfl
      have e2 : minusOf (upL (x :: r)) = (false, upL (x :: r)) := by
        show minusOf (upC x :: upL r) = _
        unfold minusOf; split
        · rename_i e; injection e with e1 e2; exact absurd e1 h1
        · rfl
      rw [e1, e2]; exact ⟨rfl, rfl⟩
theorem num_up (l : List UInt8) : numL (upL l) = numL l := by
  obtain ⟨h1, h2⟩ := minus_up (l.dropWhile blankC)
  unfold numL
  simp only
  rw [dropBlank_up, h1, h2, whole_up, part_up]
theorem ends_up (c : UInt8) (h1 : ¬ (65 ≤ c ∧ c ≤ 90)) (h2 : ¬ (97 ≤ c ∧ c ≤ 122)) (l : List UInt8) : endsOf c (upL l) = endsOf c l := by
  have sep : ∀ l a p, endsSep c (upL l) a p = endsSep c l a p := by
    intro l
    induction l with
    | nil => intro a p; rfl
    | cons x r ih =>
      intro a p
      show endsSep c (upC x :: upL r) a p = _
      simp only [endsSep]
      rw [ih, ih]
      by_cases hx : x = c
      · rw [if_pos hx, if_pos ((upC_eq x c h1 h2).2 hx)]
      · rw [if_neg hx, if_neg (fun e => hx ((upC_eq x c h1 h2).1 e))]
  have bl : ∀ l a p b, endsBl (upL l) a p b = endsBl l a p b := by
    intro l
    induction l with
    | nil => intro a p b; rfl
    | cons x r ih =>
      intro a p b
      show endsBl (upC x :: upL r) a p b = _
      cases b
      · simp only [endsBl]; rw [upC_blank, ih]
      · simp only [endsBl]; rw [upC_blank, ih, ih]
  unfold endsOf
  rw [sep, bl]
theorem key_up (f t : Int) (c : UInt8) (h1 : ¬ (65 ≤ c ∧ c ≤ 90)) (h2 : ¬ (97 ≤ c ∧ c ≤ 122)) (l : List UInt8) : keyO f t c (upL l) = upL (keyO f t c l) := by
  unfold keyO
  cases checkO f t c
  · rfl
  · simp only [if_true]
    split
    · rfl
    · rw [ends_up c h1 h2]
      unfold keyP
      rw [upL_len]
      unfold cutL upL
      rw [← List.map_drop, ← List.map_take]
theorem fit_up (bl : Bool) (l : List UInt8) : fitL bl true (upL l) = fitL bl true l ∧ fitL bl false (upL l) = fitL bl true l := by
  unfold fitL
  cases bl
  · simp [upL_up]
  · simp [dropBlank_up, upL_up]
/-- Letters great and small alike: as the same lines in great letters. -/
theorem cmpO_folds (nu bl re : Bool) (f t : Int) (c : UInt8) (h1 : ¬ (65 ≤ c ∧ c ≤ 90)) (h2 : ¬ (97 ≤ c ∧ c ≤ 122)) (a b : List UInt8) :
    cmpO nu true bl re f t c (upL a) (upL b) = cmpO nu true bl re f t c a b ∧ cmpO nu false bl re f t c (upL a) (upL b) = cmpO nu true bl re f t c a b := by
  have e : ∀ fo x y, byO nu fo bl (upL x) (upL y) = byO nu true bl x y := by
    intro fo x y
    unfold byO numC
    rw [num_up, num_up]
    cases fo
    · rw [(fit_up bl x).2, (fit_up bl y).2]
    · rw [(fit_up bl x).1, (fit_up bl y).1]
  unfold cmpO
  rw [key_up f t c h1 h2, key_up f t c h1 h2, e, e]
  exact ⟨rfl, rfl⟩

/-! ### where a key begins -/
theorem ends_first (c : UInt8) (l : List UInt8) : ∀ q, (endsOf c l)[0]? = some q → q.1 = 0 := by
  have sep : ∀ (l : List UInt8) a p q, (endsSep c l a p)[0]? = some q → q.1 = a := by
    intro l
    induction l with
    | nil => intro a p q h; simp [endsSep] at h; rw [← h]
    | cons x r ih =>
      intro a p q h
      simp only [endsSep] at h
      split at h
      · simp at h; rw [← h]
      · exact ih _ _ _ h
  have bl : ∀ (l : List UInt8) a p b q, (endsBl l a p b)[0]? = some q → q.1 = a := by
    intro l
    induction l with
    | nil => intro a p b q h; simp only [endsBl] at h; split at h <;> simp at h; rw [← h]
    | cons x r ih =>
      intro a p b q h
      cases b
      · exact ih _ _ _ _ h
      · simp only [endsBl] at h
        split at h
        · simp at h; rw [← h]
        · exact ih _ _ _ _ h
  intro q h
  unfold endsOf at h
  split at h
  · exact bl _ _ _ _ _ h
  · exact sep _ _ _ _ h
theorem ends_some (c : UInt8) (l : List UInt8) (h : l ≠ []) : endsOf c l ≠ [] := by
  have sep : ∀ (l : List UInt8) a p, endsSep c l a p ≠ [] := by
    intro l
    induction l with
    | nil => intro a p; simp [endsSep]
    | cons x r ih => intro a p; simp only [endsSep]; split; simp; exact ih _ _
  have bl : ∀ (l : List UInt8) a p b, (a < p ∨ l ≠ []) → endsBl l a p b ≠ [] ∨ ¬ a ≤ p := by
    intro l
    induction l with
    | nil => intro a p b h; simp only [endsBl]; rcases h with h | h; rw [if_pos h]; simp; exact absurd rfl h
    | cons x r ih =>
      intro a p b h
      by_cases hap : a ≤ p
      · left
        have h2 : a < p + 1 := by omega
        cases b
        · rcases ih a (p + 1) (!blankC x) (.inl h2) with k | k
          · exact k
          · omega
        · simp only [endsBl]
          split
          · simp
          · rcases ih a (p + 1) true (.inl h2) with k | k
            · exact k
            · omega
      · exact .inr hap
  unfold endsOf
  split
  · rcases bl l 0 0 false (.inr h) with k | k
    · exact k
    · omega
  · exact sep _ _ _
/-- The key up to a field begins the key to the end; this is the end of the line; that of the whole line is the line. -/
theorem key_begin (f t : Int) (c : UInt8) (l : List UInt8) (h0 : checkO f 0 c = true) :
    keyO f t c l <+: keyO f 0 c l ∧ (∃ a, keyO f 0 c l = l.drop a) ∧ (f ≤ 1 → keyO f 0 c l = l) := by
  have ha : ∀ f', 1 ≤ f' → keyP (endsOf c l) f' 0 l = l.drop (beginOf (endsOf c l) f' l.length) := by
    intro f' hf
    have he : endOf (endsOf c l) 0 l.length = l.length := by unfold endOf nth; rw [if_neg (by decide)]; rfl
    unfold keyP cutL
    rw [he, List.take_of_length_le]
    rw [List.length_drop]
    omega
  have hp : 0 ≤ f := by unfold checkO at h0; simp at h0; exact h0.1
  have hall : keyO f 0 c l = if f = 0 then l else keyP (endsOf c l) f 0 l := by unfold keyO; rw [if_pos h0]
  refine ⟨?_, ?_, ?_⟩
  · unfold keyO
    cases ht : checkO f t c
    · exact List.nil_prefix
    · rw [if_pos rfl, if_pos h0]
      split
      · exact List.prefix_refl _
      · rw [ha f (by omega)]
        unfold keyP cutL
        exact List.take_prefix _ _
  · rw [hall]
    split
    · exact ⟨0, rfl⟩
    · exact ⟨_, ha f (by omega)⟩
  · intro hf
    rw [hall]
    split
    · rfl
    · have e : f = 1 := by omega
      rw [ha f (by omega), e]
      unfold beginOf nth
      rw [if_pos (by decide)]
      show l.drop (((endsOf c l)[0]?.map (·.1)).getD l.length) = l
      cases h : (endsOf c l)[0]? with
      | none =>
        have h2 : endsOf c l = [] := by
          cases h3 : endsOf c l with
          | nil => rfl
          | cons a b => rw [h3] at h; cases h
        have : l = [] := by
          rcases Decidable.em (l = []) with k | k
          · exact k
          · exact absurd h2 (ends_some c l k)
        rw [this]; rfl
      | some q => rw [Option.map_some, Option.getD_some, ends_first c l q h]; rfl
end Go.Proofs.YtbndinaiclkajaaDoor.K

import Derived.Lib.Small
import Derived.Laws.Strings
import Derived.Laws.RangeAny
import Derived.Lib.IndexAny
import Derived.Lib.SlTrimSet
import Derived.Lib.Builder
set_option linter.unusedVariables false
set_option linter.unusedSimpArgs false
/- Orders that are told by -1, 0, 1: of bytes, of whole numbers, one behind the other. -/
namespace Go.Proofs.YtlicjpbmlmongaaGreatDoor.K
variable {α β : Type}

theorem less_irrefl : ∀ a : List UInt8, Op.bytesLess a a = false
  | [] => rfl
  | a :: x => by
    have := less_irrefl x
    simp [Op.bytesLess, this]
theorem less_asymm : ∀ a b : List UInt8, Op.bytesLess a b = true → Op.bytesLess b a = false
  | _, [] => fun h => by simp [Op.bytesLess] at h
  | [], _ :: _ => fun _ => by simp [Op.bytesLess]
  | a :: x, b :: y => fun h => by
    simp only [Op.bytesLess, Bool.or_eq_true, decide_eq_true_eq, Bool.and_eq_true, beq_iff_eq] at h
    simp only [Op.bytesLess, Bool.or_eq_false_iff, decide_eq_false_iff_not, Bool.and_eq_false_iff, beq_eq_false_iff_ne]
    rcases h with h | ⟨rfl, h⟩
    · exact ⟨fun k => UInt8.lt_asymm h k, .inl fun e => by subst e; exact UInt8.lt_irrefl _ h⟩
    · exact ⟨UInt8.lt_irrefl _, .inr (less_asymm x y h)⟩
theorem less_total : ∀ a b : List UInt8, Op.bytesLess a b = false → Op.bytesLess b a = false → a = b
  | [], [] => fun _ _ => rfl
  | _ :: _, [] => fun _ h => by simp [Op.bytesLess] at h
  | [], _ :: _ => fun h _ => by simp [Op.bytesLess] at h
  | a :: x, b :: y => fun h k => by
    simp only [Op.bytesLess, Bool.or_eq_false_iff, decide_eq_false_iff_not, Bool.and_eq_false_iff, beq_eq_false_iff_ne] at h k
    have e : a = b := by
      rcases UInt8.lt_or_eq_of_le (UInt8.not_lt.1 h.1) with h' | h'
      · exact absurd h' k.1
      · exact h'.symm
    subst e
    rcases h.2 with h2 | h2
    · exact absurd rfl h2
    · rcases k.2 with k2 | k2
      · exact absurd rfl k2
      · rw [less_total x y h2 k2]
theorem less_trans : ∀ a b c : List UInt8, Op.bytesLess a b = true → Op.bytesLess b c = true → Op.bytesLess a c = true
  | _, [], _ => fun h _ => by simp [Op.bytesLess] at h
  | _, _ :: _, [] => fun _ h => by simp [Op.bytesLess] at h
  | [], _ :: _, _ :: _ => fun _ _ => by simp [Op.bytesLess]
  | a :: x, b :: y, c :: z => fun h k => by
    simp only [Op.bytesLess, Bool.or_eq_true, decide_eq_true_eq, Bool.and_eq_true, beq_iff_eq] at h k ⊢
    rcases h with h | ⟨rfl, h⟩
    · rcases k with k | ⟨rfl, k⟩
      · exact .inl (UInt8.lt_trans h k)
      · exact .inl h
    · rcases k with k | ⟨rfl, k⟩
      · exact .inl k
      · exact .inr ⟨rfl, less_trans x y z h k⟩

/-- Two texts as bytes: -1, 0, 1. -/
def cmpB (a b : List UInt8) : Int := if Op.bytesLess a b = true then -1 else if Op.bytesLess b a = true then 1 else 0

/-- c tells an order: -1, 0, 1; the other way about; and through a third. -/
structure Ord {α : Type} (c : α → α → Int) : Prop where
  one : ∀ a b, c a b = -1 ∨ c a b = 0 ∨ c a b = 1
  back : ∀ a b, c b a = - c a b
  go : ∀ a b d, c a b ≤ 0 → c b d ≤ 0 → c a d ≤ 0 ∧ (c a d = 0 → c a b = 0 ∧ c b d = 0)

theorem Ord.self {c : α → α → Int} (h : Ord c) (a : α) : c a a = 0 := by have := h.back a a; omega
theorem Ord.alike {c : α → α → Int} (h : Ord c) {a b : α} (e : c a b = 0) (d : α) : c a d = c b d ∧ c d a = c d b := by
  have e2 : c b a = 0 := by have := h.back a b; omega
  have x : c a d = c b d := by
    rcases h.one a d with k | k | k <;> rcases h.one b d with m | m | m <;> try omega
    · have := h.go a b d (by omega) (by have := h.go b a d (by omega) (by omega); omega); have := h.go b a d (by omega) (by omega); omega
    · have := (h.go b a d (by omega) (by omega)); omega
    · have := (h.go a b d (by omega) (by omega)); omega
    · have := (h.go b a d (by omega) (by omega)); omega
    · have := (h.go a b d (by omega) (by omega)); omega
    · have := (h.go a b d (by omega) (by omega)); omega
  exact ⟨x, by have := h.back a d; have := h.back b d; omega⟩
theorem Ord.rev {c : α → α → Int} (h : Ord c) : Ord (fun a b => - c a b) where
  one a b := by have := h.one a b; omega
  back a b := by have := h.back a b; omega
  go a b d k m := by
    have h1 := h.back a b; have h2 := h.back b d; have h3 := h.back a d
    have := h.go d b a (by omega) (by omega)
    omega
theorem Ord.zero : Ord (fun (_ _ : α) => (0 : Int)) where
  one _ _ := .inr (.inl rfl)
  back _ _ := rfl
  go _ _ _ _ _ := ⟨Int.le_refl _, fun _ => ⟨rfl, rfl⟩⟩
theorem Ord.map {c : α → α → Int} (h : Ord c) (f : β → α) : Ord (fun a b => c (f a) (f b)) where
  one a b := h.one _ _
  back a b := h.back _ _
  go a b d k m := h.go _ _ _ k m
/-- The first that tells more than 0. -/
def orC (x y : Int) : Int := if x = 0 then y else x
theorem Ord.or {c d : α → α → Int} (h : Ord c) (k : Ord d) : Ord (fun a b => orC (c a b) (d a b)) where
  one a b := by unfold orC; split; exact k.one a b; exact h.one a b
  back a b := by
    have := h.back a b; have := k.back a b
    simp only [orC]
    split <;> split <;> omega
  go a b e x y := by
    simp only [orC] at x y ⊢
    by_cases h1 : c a b = 0
    · rw [if_pos h1] at x
      have ha := h.alike h1 e
      by_cases h2 : c b e = 0
      · rw [if_pos h2] at y
        have h3 : c a e = 0 := by omega
        rw [if_pos h1, if_pos h2, if_pos h3]
        exact k.go a b e x y
      · rw [if_neg h2] at y
        have h3 : ¬ c a e = 0 := by omega
        rw [if_pos h1, if_neg h2, if_neg h3]
        exact ⟨by omega, fun h' => absurd h' h3⟩
    · rw [if_neg h1] at x
      by_cases h2 : c b e = 0
      · rw [if_pos h2] at y
        have hb : c e b = 0 := by have := h.back b e; omega
        have h3 : ¬ c a e = 0 := fun h' => by
          have := (h.alike hb a).2; have := h.back a e; have := h.back e a; have := h.back a b
          omega
        have h4 := h.go a b e x (by omega)
        rw [if_neg h1, if_neg h3]
        exact ⟨h4.1, fun h' => absurd h' h3⟩
      · rw [if_neg h2] at y
        have h4 := h.go a b e x y
        have h3 : ¬ c a e = 0 := fun h' => h1 (h4.2 h').1
        rw [if_neg h1, if_neg h2, if_neg h3]
        exact ⟨h4.1, fun h' => absurd h' h3⟩
theorem Ord.bytes : Ord cmpB where
  one a b := by unfold cmpB; split; simp; split <;> simp
  back a b := by
    unfold cmpB
    cases h : Op.bytesLess a b
    · cases k : Op.bytesLess b a <;> simp
    · rw [less_asymm a b h]; simp
  go a b d x y := by
    have le : ∀ p q, cmpB p q ≤ 0 → Op.bytesLess p q = true ∨ p = q := by
      intro p q h
      unfold cmpB at h
      cases h1 : Op.bytesLess p q
      · cases h2 : Op.bytesLess q p
        · exact .inr (less_total p q h1 h2)
        · simp [h1, h2] at h
      · exact .inl rfl
    have self : ∀ p, cmpB p p = 0 := by intro p; unfold cmpB; rw [less_irrefl]; simp
    have lt : ∀ p q, Op.bytesLess p q = true → cmpB p q = -1 := by intro p q h; unfold cmpB; rw [if_pos h]
    rcases le a b x with h | rfl
    · rcases le b d y with k | rfl
      · have := lt a d (less_trans a b d h k)
        omega
      · have := lt a b h
        omega
    · rcases le a d y with k | rfl
      · have := lt a d k
        omega
      · rw [self]; exact ⟨Int.le_refl _, fun _ => ⟨rfl, rfl⟩⟩
theorem cmpB_zero (a b : List UInt8) : cmpB a b = 0 ↔ a = b := by
  unfold cmpB
  constructor
  · intro h
    cases h1 : Op.bytesLess a b
    · cases h2 : Op.bytesLess b a
      · exact less_total a b h1 h2
      · simp [h1, h2] at h
    · simp [h1] at h
  · rintro rfl; rw [less_irrefl]; simp
/-- Two whole numbers: -1, 0, 1. -/
def cmpI (x y : Int) : Int := if x < y then -1 else if x > y then 1 else 0
theorem Ord.ints : Ord cmpI where
  one a b := by unfold cmpI; split; simp; split <;> simp
  back a b := by unfold cmpI; split <;> split <;> (try split) <;> omega
  go a b d x y := by
    unfold cmpI at x y ⊢
    split at x <;> split at y <;> (try split at x) <;> (try split at y) <;> (first | omega | (split <;> (try split) <;> omega))
/-- The same, times a sign that is alike where it counts. -/
theorem Ord.signed {c : α → α → Int} (h : Ord c) (s : α → Int) (hs : ∀ a, s a = -1 ∨ s a = 0 ∨ s a = 1) : Ord (fun a b => orC (cmpI (s a) (s b)) (s a * c a b)) where
  one a b := by
    unfold orC
    split
    · rcases hs a with e | e | e <;> rw [e] <;> have := h.one a b <;> omega
    · exact Ord.ints.one _ _
  back a b := by
    simp only [orC]
    have h1 := Ord.ints.back (s a) (s b)
    have h2 := h.back a b
    by_cases e : cmpI (s a) (s b) = 0
    · have e2 : s a = s b := by unfold cmpI at e; split at e; simp at e; split at e; simp at e; omega
      rw [if_pos e, if_pos (by omega), h2, ← e2, Int.mul_neg]
    · rw [if_neg e, if_neg (by omega)]; exact h1
  go a b d x y := by
    simp only [orC] at x y ⊢
    have eq : ∀ p q, cmpI p q = 0 → p = q := by intro p q e; unfold cmpI at e; split at e; simp at e; split at e; simp at e; omega
    have lt : ∀ p q, cmpI p q ≤ 0 → ¬ cmpI p q = 0 → p < q := by intro p q e n; unfold cmpI at e n; split at e; assumption; split at e; simp at e; rename_i h1 h2; simp [h1, h2] at n
    have mk : ∀ p q : Int, p < q → cmpI p q = -1 := by intro p q e; unfold cmpI; rw [if_pos e]
    have mk0 : ∀ p : Int, cmpI p p = 0 := by intro p; unfold cmpI; simp
    by_cases h1 : cmpI (s a) (s b) = 0
    · rw [if_pos h1] at x
      have e1 := eq _ _ h1
      by_cases h2 : cmpI (s b) (s d) = 0
      · rw [if_pos h2] at y
        have e2 := eq _ _ h2
        have h3 : cmpI (s a) (s d) = 0 := by rw [e1, e2]; exact mk0 _
        rw [if_pos h1, if_pos h2, if_pos h3]
        rw [← e1] at y ⊢
        rcases hs a with e | e | e
        · rw [e] at x y ⊢
          have := h.rev.go a b d (by omega) (by omega)
          omega
        · rw [e]; simp
        · rw [e] at x y ⊢
          have := h.go a b d (by omega) (by omega)
          omega
      · rw [if_neg h2] at y
        have := lt _ _ y h2
        have := mk _ _ (show s a < s d by omega)
        rw [if_neg (by omega), if_neg h2]
        omega
    · rw [if_neg h1] at x
      have l1 := lt _ _ x h1
      by_cases h2 : cmpI (s b) (s d) = 0
      · have e2 := eq _ _ h2
        have := mk _ _ (show s a < s d by omega)
        rw [if_neg h1, if_neg (by omega)]
        omega
      · rw [if_neg h2] at y
        have l2 := lt _ _ y h2
        have := mk _ _ (show s a < s d by omega)
        rw [if_neg h1, if_neg (by omega)]
        omega
end Go.Proofs.YtlicjpbmlmongaaGreatDoor.K
/- Keys of lines, over lists of bytes: where fields begin and end, the part by which a line compares, its number. -/
namespace Go.Proofs.YtlicjpbmlmongaaGreatDoor.K

def blankC (c : UInt8) : Bool := c == 32 || c == 9
def digitC (c : UInt8) : Bool := decide (48 ≤ c) && decide (c ≤ 57)
def upC (c : UInt8) : UInt8 := if 97 ≤ c ∧ c ≤ 122 then c - 32 else c

/-! ### where fields begin and end -/
def endsSep (c : UInt8) : List UInt8 → Nat → Nat → List (Nat × Nat)
  | [], a, p => [(a, p)]
  | x :: r, a, p => if x = c then (a, p) :: endsSep c r (p + 1) (p + 1) else endsSep c r a (p + 1)
def endsBl : List UInt8 → Nat → Nat → Bool → List (Nat × Nat)
  | [], a, p, _ => if a < p then [(a, p)] else []
  | x :: r, a, p, false => endsBl r a (p + 1) (!blankC x)
  | x :: r, a, p, true => if blankC x = true then (a, p) :: endsBl r p (p + 1) false else endsBl r a (p + 1) true
def endsOf (c : UInt8) (l : List UInt8) : List (Nat × Nat) := if c = 0 then endsBl l 0 0 false else endsSep c l 0 0
def shift (o : Nat) (ps : List (Nat × Nat)) : List (Nat × Nat) := ps.map fun q => (q.1 + o, q.2 + o)
theorem endsSep_shift (c : UInt8) (l : List UInt8) : ∀ a p o, endsSep c l (a + o) (p + o) = shift o (endsSep c l a p) := by
  induction l with
  | nil => intro a p o; simp [endsSep, shift]
  | cons x r ih =>
    intro a p o
    simp only [endsSep]
    have e : p + o + 1 = p + 1 + o := by omega
    split
    · rw [e, ih]; simp [shift]
    · rw [e, ih]
theorem endsBl_shift (l : List UInt8) : ∀ a p b o, endsBl l (a + o) (p + o) b = shift o (endsBl l a p b) := by
  induction l with
  | nil => intro a p b o; simp only [endsBl]; by_cases h : a < p <;> simp [shift, h]
  | cons x r ih =>
    intro a p b o
    have e : p + o + 1 = p + 1 + o := by omega
    cases b
    · simp only [endsBl]; rw [e, ih]
    · simp only [endsBl]
      split
      · rw [e, ih]; simp [shift]
      · rw [e, ih]
theorem endsSep_run (c : UInt8) (x r : List UInt8) (hx : ∀ d ∈ x, d ≠ c) : ∀ a p, endsSep c (x ++ r) a p = endsSep c r a (p + x.length) := by
  induction x with
  | nil => intro a p; rfl
  | cons d x ih =>
    intro a p
    simp only [List.cons_append, endsSep]
    rw [if_neg (hx d (by simp)), ih (fun e he => hx e (by simp [he]))]
    congr 1; simp; omega
theorem endsBl_blanks (b r : List UInt8) (hb : ∀ d ∈ b, blankC d = true) : ∀ a p, endsBl (b ++ r) a p false = endsBl r a (p + b.length) false := by
  induction b with
  | nil => intro a p; rfl
  | cons d b ih =>
    intro a p
    simp only [List.cons_append, endsBl]
    rw [hb d (by simp)]
    show endsBl (b ++ r) a (p + 1) false = _
    rw [ih (fun e he => hb e (by simp [he]))]
    congr 1; simp; omega
theorem endsBl_field (f r : List UInt8) (hf : ∀ d ∈ f, blankC d = false) : ∀ a p, endsBl (f ++ r) a p true = endsBl r a (p + f.length) true := by
  induction f with
  | nil => intro a p; rfl
  | cons d f ih =>
    intro a p
    simp only [List.cons_append, endsBl]
    rw [hf d (by simp)]
    show endsBl (f ++ r) a (p + 1) true = _
    rw [ih (fun e he => hf e (by simp [he]))]
    congr 1; simp; omega

/-! ### tiles: the fields of a line, with a gap between -/
def joinG (gap : List UInt8) : List (List UInt8) → List UInt8
  | [] => []
  | [x] => x
  | x :: y :: l => x ++ gap ++ joinG gap (y :: l)
def Tile (gap : List UInt8) : List (List UInt8) → List UInt8 → List (Nat × Nat) → Prop
  | [], l, ps => l = [] ∧ ps = []
  | [x], l, ps => l = x ∧ ps = [(0, x.length)]
  | x :: y :: fs, l, ps => ∃ r qs, l = x ++ gap ++ r ∧ ps = (0, x.length) :: shift (x.length + gap.length) qs ∧ Tile gap (y :: fs) r qs
theorem Tile.join {gap : List UInt8} : ∀ {fs : List (List UInt8)} {l : List UInt8} {ps : List (Nat × Nat)}, Tile gap fs l ps → l = joinG gap fs
  | [], _, _, h => h.1
  | [_], _, _, h => h.1
  | x :: y :: fs, _, _, ⟨r, qs, h1, _, h3⟩ => by rw [h1, h3.join]; rfl
theorem Tile.len {gap : List UInt8} : ∀ {fs : List (List UInt8)} {l : List UInt8} {ps : List (Nat × Nat)}, Tile gap fs l ps → ps.length = fs.length
  | [], _, _, h => by rw [h.2]; rfl
  | [_], _, _, h => by rw [h.2]; rfl
  | x :: y :: fs, _, _, ⟨r, qs, _, h2, h3⟩ => by rw [h2, List.length_cons, shift, List.length_map, h3.len]; rfl
theorem Tile.first {gap : List UInt8} : ∀ {fs : List (List UInt8)} {l : List UInt8} {ps : List (Nat × Nat)}, Tile gap fs l ps → ∀ q, ps[0]? = some q → q.1 = 0
  | [], _, _, h, q, e => by rw [h.2] at e; cases e
  | [_], _, _, h, q, e => by rw [h.2] at e; simp at e; rw [← e]
  | x :: y :: fs, _, _, ⟨r, qs, _, h2, h3⟩, q, e => by rw [h2] at e; simp at e; rw [← e]
theorem Tile.last {gap : List UInt8} : ∀ {fs : List (List UInt8)} {l : List UInt8} {ps : List (Nat × Nat)}, Tile gap fs l ps → ∀ q, ps[fs.length - 1]? = some q → q.2 = l.length
  | [], _, _, h, q, e => by rw [h.2] at e; cases e
  | [_], _, _, h, q, e => by rw [h.2] at e; simp at e; rw [← e, h.1]
  | x :: y :: fs, _, _, ⟨r, qs, h1, h2, h3⟩, q, e => by
    rw [h2] at e
    have e1 : (x :: y :: fs).length - 1 = ((y :: fs).length - 1) + 1 := by simp
    rw [e1, List.getElem?_cons_succ, shift, List.getElem?_map, Option.map_eq_some_iff] at e
    obtain ⟨q', hq, rfl⟩ := e
    have := h3.last q' hq
    rw [h1]; simp; omega
theorem Tile.cut {gap : List UInt8} : ∀ {fs : List (List UInt8)} {l : List UInt8} {ps : List (Nat × Nat)}, Tile gap fs l ps → ∀ k m, k ≤ m → m < fs.length →
    ∃ a b e f, ps[k]? = some (a, b) ∧ ps[m]? = some (e, f) ∧ a ≤ f ∧ f ≤ l.length ∧ (l.drop a).take (f - a) = joinG gap ((fs.drop k).take (m + 1 - k))
  | [], _, _, _, k, m, _, hm => absurd hm (Nat.not_lt_zero _)
  | [x], l, ps, h, k, m, hk, hm => by
    obtain ⟨h1, h2⟩ := h
    have hm0 : m = 0 := by simp at hm; exact hm
    subst hm0
    have hk0 : k = 0 := by omega
    subst hk0
    subst h1 h2
    exact ⟨0, l.length, 0, l.length, rfl, rfl, Nat.zero_le _, Nat.le_refl _, by simp [joinG]⟩
  | x :: y :: fs, l, ps, ⟨r, qs, h1, h2, h3⟩, k, m, hk, hm => by
    subst h1 h2
    have hl : (x ++ gap ++ r).length = x.length + gap.length + r.length := by simp; omega
    cases k with
    | zero =>
      cases m with
      | zero =>
        refine ⟨0, x.length, 0, x.length, rfl, rfl, Nat.zero_le _, by rw [hl]; omega, ?_⟩
        simp [joinG]
      | succ m =>
        obtain ⟨a, b, e, f, g1, g2, g3, g4, g5⟩ := h3.cut 0 m (Nat.zero_le _) (by simp at hm; simpa using hm)
        have ha := h3.first _ g1
        simp only at ha
        subst ha
        refine ⟨0, x.length, e + (x.length + gap.length), f + (x.length + gap.length), rfl, ?_, Nat.zero_le _, by rw [hl]; omega, ?_⟩
        · rw [List.getElem?_cons_succ, shift, List.getElem?_map, g2]; rfl
        · simp only [List.drop_zero, Nat.sub_zero] at g5 ⊢
          have e1 : f + (x.length + gap.length) = (x ++ gap).length + f := by simp; omega
          rw [e1, List.take_length_add_append, g5, List.take_succ_cons]
          rfl
    | succ k =>
      cases m with
      | zero => omega
      | succ m =>
        obtain ⟨a, b, e, f, g1, g2, g3, g4, g5⟩ := h3.cut k m (by omega) (by simp at hm; simpa using hm)
        refine ⟨a + (x.length + gap.length), b + (x.length + gap.length), e + (x.length + gap.length), f + (x.length + gap.length), ?_, ?_, by omega, by rw [hl]; omega, ?_⟩
        · rw [List.getElem?_cons_succ, shift, List.getElem?_map, g1]; rfl
        · rw [List.getElem?_cons_succ, shift, List.getElem?_map, g2]; rfl
        · have e1 : a + (x.length + gap.length) = (x ++ gap).length + a := by simp; omega
          have e2 : f + (x.length + gap.length) - ((x ++ gap).length + a) = f - a := by simp; omega
          have e3 : m + 1 + 1 - (k + 1) = m + 1 - k := by omega
          rw [e1, List.drop_length_add_append, e2, List.drop_succ_cons, e3, g5]

/-- The part of a line by which it compares. -/
def nth (ps : List (Nat × Nat)) (k : Int) : Option (Nat × Nat) := if 1 ≤ k then ps[(k - 1).toNat]? else none
def beginOf (ps : List (Nat × Nat)) (f : Int) (z : Nat) : Nat := ((nth ps f).map (·.1)).getD z
def endOf (ps : List (Nat × Nat)) (t : Int) (z : Nat) : Nat := ((nth ps t).map (·.2)).getD z
def cutL (b e : Nat) (l : List UInt8) : List UInt8 := (l.drop b).take (max b e - b)
def keyP (ps : List (Nat × Nat)) (f t : Int) (l : List UInt8) : List UInt8 := cutL (beginOf ps f l.length) (endOf ps t l.length) l

/-- Of fields, those from f on up to t, with the gap between. -/
theorem Tile.key {gap : List UInt8} {fs : List (List UInt8)} {l : List UInt8} {ps : List (Nat × Nat)} (h : Tile gap fs l ps) (f t : Int) (hf : 1 ≤ f) (ht : t = 0 ∨ f ≤ t) :
    keyP ps f t l = joinG gap ((fs.drop (f - 1).toNat).take ((if t = 0 then fs.length else min t.toNat fs.length) - (f - 1).toNat)) := by
  have hlen := h.len
  unfold keyP beginOf endOf nth
  rw [if_pos hf]
  by_cases hk : (f - 1).toNat < fs.length
  · have hm0 : fs.length - 1 < fs.length := by omega
    by_cases ht2 : t = 0 ∨ fs.length < t.toNat
    · have hn : (if 1 ≤ t then ps[(t - 1).toNat]? else none) = none := by
        rcases ht2 with e | e
        · rw [if_neg (by omega)]
        · rw [if_pos (by omega), List.getElem?_eq_none (by omega)]
      have hz : (if t = 0 then fs.length else min t.toNat fs.length) = fs.length := by split <;> omega
      obtain ⟨a, b, e, g, g1, g2, g3, g4, g5⟩ := h.cut (f - 1).toNat (fs.length - 1) (by omega) hm0
      have hla := h.last _ g2
      simp only at hla
      subst hla
      rw [g1, hn, hz]
      simp only [Option.map_some, Option.map_none, Option.getD_some, Option.getD_none, cutL]
      rw [Nat.max_eq_right g3, g5]
      congr 2; omega
    · have ht3 : 1 ≤ t ∧ t.toNat ≤ fs.length ∧ ¬ t = 0 := by omega
      obtain ⟨a, b, e, g, g1, g2, g3, g4, g5⟩ := h.cut (f - 1).toNat (t - 1).toNat (by omega) (by omega)
      rw [g1, if_pos ht3.1, g2, if_neg ht3.2.2]
      simp only [Option.map_some, Option.getD_some, cutL]
      rw [Nat.max_eq_right g3, g5]
      congr 2; omega
  · rw [List.getElem?_eq_none (by omega), List.drop_eq_nil_of_le (by omega)]
    simp only [Option.map_none, Option.getD_none, cutL, List.drop_length, List.take_nil]
    rfl

/-! ### numbers -/
structure Num where
  sign : Int
  whole : List UInt8
  part : List UInt8
def trimR (p : UInt8 → Bool) (l : List UInt8) : List UInt8 := (l.reverse.dropWhile p).reverse
def wholeOf (l : List UInt8) : List UInt8 := (l.takeWhile digitC).dropWhile (· == 48)
def partOf (l : List UInt8) : List UInt8 := match l.dropWhile digitC with | 46 :: r => trimR (· == 48) (r.takeWhile digitC) | _ => []
def minusOf : List UInt8 → Bool × List UInt8
  | 45 :: r => (true, r)
  | l => (false, l)
def numL (l : List UInt8) : Num :=
  let m := minusOf (l.dropWhile blankC)
  ⟨if wholeOf m.2 = [] ∧ partOf m.2 = [] then 0 else if m.1 = true then -1 else 1, wholeOf m.2, partOf m.2⟩
theorem numL_sign (l : List UInt8) : (numL l).sign = -1 ∨ (numL l).sign = 0 ∨ (numL l).sign = 1 := by
  unfold numL; simp only; split; simp; split <;> simp
def cmpW (x y : Num) : Int := orC (cmpI x.whole.length y.whole.length) (orC (cmpB x.whole y.whole) (cmpB x.part y.part))
def cmpN (x y : Num) : Int := orC (cmpI x.sign y.sign) (x.sign * cmpW x y)
def numC (a b : List UInt8) : Int := cmpN (numL a) (numL b)
theorem Ord.num : Ord numC :=
  (Ord.signed (((Ord.ints.map (fun x : Num => (x.whole.length : Int))).or ((Ord.bytes.map Num.whole).or (Ord.bytes.map Num.part))).map numL) (fun l => (numL l).sign) numL_sign)
end Go.Proofs.YtlicjpbmlmongaaGreatDoor.K
/- How lines compare, over lists of bytes. -/
namespace Go.Proofs.YtlicjpbmlmongaaGreatDoor.K

def checkO (f t : Int) (c : UInt8) : Bool := decide (0 ≤ f ∧ f ≤ 1000 ∧ c ≠ 10 ∧ (t = 0 ∨ (0 < f ∧ f ≤ t ∧ t ≤ 1000)))
def keyO (f t : Int) (c : UInt8) (l : List UInt8) : List UInt8 := if checkO f t c = true then (if f = 0 then l else keyP (endsOf c l) f t l) else []
def upL (l : List UInt8) : List UInt8 := l.map upC
def fitL (bl fo : Bool) (l : List UInt8) : List UInt8 := if fo = true then upL (if bl = true then l.dropWhile blankC else l) else (if bl = true then l.dropWhile blankC else l)
def byO (nu fo bl : Bool) (x y : List UInt8) : Int := if nu = true then numC x y else cmpB (fitL bl fo x) (fitL bl fo y)
def cmpO (nu fo bl re : Bool) (f t : Int) (c : UInt8) (a b : List UInt8) : Int :=
  if checkO f t c = true then (if re = true then - byO nu fo bl (keyO f t c a) (keyO f t c b) else byO nu fo bl (keyO f t c a) (keyO f t c b)) else 0
theorem Ord.byO (nu fo bl : Bool) : Ord (byO nu fo bl) := by
  unfold K.byO
  cases nu
  · exact Ord.bytes.map (fitL bl fo)
  · exact Ord.num
theorem Ord.cmpO (nu fo bl re : Bool) (f t : Int) (c : UInt8) : Ord (cmpO nu fo bl re f t c) := by
  have h := (Ord.byO nu fo bl).map (keyO f t c)
  unfold K.cmpO
  cases checkO f t c
  · exact Ord.zero
  · cases re
    · exact h
    · exact h.rev
theorem cmpO_turn (nu fo bl re : Bool) (f t : Int) (c : UInt8) (a b : List UInt8) : cmpO nu fo bl (!re) f t c a b = - cmpO nu fo bl re f t c a b := by
  unfold cmpO
  cases checkO f t c
  · rfl
  · cases re
    · rfl
    · simp

/-! ### letters -/
theorem upC_cases (x : UInt8) : upC x = x ∨ (97 ≤ x ∧ x ≤ 122 ∧ 65 ≤ upC x ∧ upC x ≤ 90) := by
  unfold upC
  split
  · rename_i h
    refine .inr ⟨h.1, h.2, ?_, ?_⟩
    all_goals
      have h1 := UInt8.le_iff_toNat_le.1 h.1
      have h2 := UInt8.le_iff_toNat_le.1 h.2
      rw [UInt8.le_iff_toNat_le, UInt8.toNat_sub_of_le _ _ (UInt8.le_iff_toNat_le.2 (Nat.le_trans (by decide) h1))]
      simp at h1 h2 ⊢
      omega
  · exact .inl rfl
theorem upC_eq (x d : UInt8) (h1 : ¬ (65 ≤ d ∧ d ≤ 90)) (h2 : ¬ (97 ≤ d ∧ d ≤ 122)) : (upC x = d) ↔ x = d := by
  rcases upC_cases x with e | ⟨a, b, p, q⟩
  · rw [e]
  · exact ⟨fun e => absurd (e ▸ ⟨p, q⟩) h1, fun e => absurd (e ▸ ⟨a, b⟩) h2⟩
theorem upC_beq (x d : UInt8) (h1 : ¬ (65 ≤ d ∧ d ≤ 90)) (h2 : ¬ (97 ≤ d ∧ d ≤ 122)) : (upC x == d) = (x == d) := by
  rw [Bool.eq_iff_iff, beq_iff_eq, beq_iff_eq, upC_eq x d h1 h2]
theorem upC_blank (x : UInt8) : blankC (upC x) = blankC x := by
  unfold blankC
  rw [upC_beq x 32 (by decide) (by decide), upC_beq x 9 (by decide) (by decide)]
theorem upC_digit (x : UInt8) : digitC (upC x) = digitC x := by
  rcases upC_cases x with e | ⟨a, b, p, q⟩
  · rw [e]
  · have h1 : digitC x = false := by
      unfold digitC
      have : ¬ x ≤ 57 := fun k => absurd (UInt8.le_trans a k) (by decide)
      simp [this]
    have h2 : digitC (upC x) = false := by
      unfold digitC
      have : ¬ upC x ≤ 57 := fun k => absurd (UInt8.le_trans p k) (by decide)
      simp [this]
    rw [h1, h2]
theorem upC_of_digit (x : UInt8) (h : digitC x = true) : upC x = x := by
  rcases upC_cases x with e | ⟨a, b, p, q⟩
  · exact e
  · unfold digitC at h
    have : ¬ x ≤ 57 := fun k => absurd (UInt8.le_trans a k) (by decide)
    simp [this] at h
theorem upC_up (x : UInt8) : upC (upC x) = upC x := by
  rcases upC_cases x with e | ⟨a, b, p, q⟩
  · rw [e, e]
  · rcases upC_cases (upC x) with e | ⟨a', b', _, _⟩
    · exact e
    · exact absurd (UInt8.le_trans a' q) (by decide)
theorem upL_up (l : List UInt8) : upL (upL l) = upL l := by
  unfold upL
  rw [List.map_map]
  exact List.map_congr_left fun x _ => upC_up x
theorem upL_len (l : List UInt8) : (upL l).length = l.length := by simp [upL]
theorem dropBlank_up (l : List UInt8) : (upL l).dropWhile blankC = upL (l.dropWhile blankC) := by
  unfold upL
  rw [List.dropWhile_map]
  congr 1
  exact congrArg (fun p => List.dropWhile p l) (funext fun x => upC_blank x)
theorem takeDigit_up (l : List UInt8) : (upL l).takeWhile digitC = l.takeWhile digitC := by
  unfold upL
  rw [List.takeWhile_map]
  have : l.takeWhile (digitC ∘ upC) = l.takeWhile digitC := congrArg (fun p => List.takeWhile p l) (funext fun x => upC_digit x)
  rw [this]
  have h : ∀ x ∈ l.takeWhile digitC, upC x = x := fun x hx => upC_of_digit x (by
    have := List.all_takeWhile (p := digitC) (l := l)
    rw [List.all_eq_true] at this
    exact this x hx)
  rw [List.map_congr_left h, List.map_id']
theorem dropDigit_up (l : List UInt8) : (upL l).dropWhile digitC = upL (l.dropWhile digitC) := by
  unfold upL
  rw [List.dropWhile_map]
  congr 1
  exact congrArg (fun p => List.dropWhile p l) (funext fun x => upC_digit x)
theorem whole_up (l : List UInt8) : wholeOf (upL l) = wholeOf l := by unfold wholeOf; rw [takeDigit_up]
theorem part_up (l : List UInt8) : partOf (upL l) = partOf l := by
  unfold partOf
  rw [dropDigit_up]
  cases h : l.dropWhile digitC with
  | nil => rfl
  | cons x r =>
    by_cases hx : x = 46
    · subst hx
      show trimR _ ((upL r).takeWhile digitC) = _
      rw [takeDigit_up]; rfl
    · have : ¬ upC x = 46 := fun e => hx ((upC_eq x 46 (by decide) (by decide)).1 e)
      show (match upC x :: upL r with | 46 :: r => trimR (· == 48) (r.takeWhile digitC) | _ => []) = _
      split
      · rename_i e; injection e with e1 e2; exact absurd e1 this
      · split
        · rename_i e; injection e with e1 e2; exact absurd e1 hx
        · rfl
theorem minus_up (l : List UInt8) : (minusOf (upL l)).1 = (minusOf l).1 ∧ (minusOf (upL l)).2 = upL (minusOf l).2 := by
  cases l with
  | nil => exact ⟨rfl, rfl⟩
  | cons x r =>
    by_cases hx : x = 45
    · subst hx; exact ⟨rfl, rfl⟩
    · have h1 : ¬ upC x = 45 := fun e => hx ((upC_eq x 45 (by decide) (by decide)).1 e)
      have e1 : minusOf (x :: r) = (false, x :: r) := by
        unfold minusOf; split
        · rename_i e; injection e with e1 e2; exact absurd e1 hx
        · rfl
      have e2 : minusOf (upL (x :: r)) = (false, upL (x :: r)) := by
        show minusOf (upC x :: upL r) = _
        unfold minusOf; split
        · rename_i e; injection e with e1 e2; exact absurd e1 h1
        · rfl
      rw [e1, e2]; exact ⟨rfl, rfl⟩
theorem num_up (l : List UInt8) : numL (upL l) = numL l := by
  obtain ⟨h1, h2⟩ := minus_up (l.dropWhile blankC)
  unfold numL
  simp only
  rw [dropBlank_up, h1, h2, whole_up, part_up]
theorem ends_up (c : UInt8) (h1 : ¬ (65 ≤ c ∧ c ≤ 90)) (h2 : ¬ (97 ≤ c ∧ c ≤ 122)) (l : List UInt8) : endsOf c (upL l) = endsOf c l := by
  have sep : ∀ l a p, endsSep c (upL l) a p = endsSep c l a p := by
    intro l
    induction l with
    | nil => intro a p; rfl
    | cons x r ih =>
      intro a p
      show endsSep c (upC x :: upL r) a p = _
      simp only [endsSep]
      rw [ih, ih]
      by_cases hx : x = c
      · rw [if_pos hx, if_pos ((upC_eq x c h1 h2).2 hx)]
      · rw [if_neg hx, if_neg (fun e => hx ((upC_eq x c h1 h2).1 e))]
  have bl : ∀ l a p b, endsBl (upL l) a p b = endsBl l a p b := by
    intro l
    induction l with
    | nil => intro a p b; rfl
    | cons x r ih =>
      intro a p b
      show endsBl (upC x :: upL r) a p b = _
      cases b
      · simp only [endsBl]; rw [upC_blank, ih]
      · simp only [endsBl]; rw [upC_blank, ih, ih]
  unfold endsOf
  rw [sep, bl]
theorem key_up (f t : Int) (c : UInt8) (h1 : ¬ (65 ≤ c ∧ c ≤ 90)) (h2 : ¬ (97 ≤ c ∧ c ≤ 122)) (l : List UInt8) : keyO f t c (upL l) = upL (keyO f t c l) := by
  unfold keyO
  cases checkO f t c
  · rfl
  · simp only [if_true]
    split
    · rfl
    · rw [ends_up c h1 h2]
      unfold keyP
      rw [upL_len]
      unfold cutL upL
      rw [← List.map_drop, ← List.map_take]
theorem fit_up (bl : Bool) (l : List UInt8) : fitL bl true (upL l) = fitL bl true l ∧ fitL bl false (upL l) = fitL bl true l := by
  unfold fitL
  cases bl
  · simp [upL_up]
  · simp [dropBlank_up, upL_up]
/-- Letters great and small alike: as the same lines in great letters. -/
theorem cmpO_folds (nu bl re : Bool) (f t : Int) (c : UInt8) (h1 : ¬ (65 ≤ c ∧ c ≤ 90)) (h2 : ¬ (97 ≤ c ∧ c ≤ 122)) (a b : List UInt8) :
    cmpO nu true bl re f t c (upL a) (upL b) = cmpO nu true bl re f t c a b ∧ cmpO nu false bl re f t c (upL a) (upL b) = cmpO nu true bl re f t c a b := by
  have e : ∀ fo x y, byO nu fo bl (upL x) (upL y) = byO nu true bl x y := by
    intro fo x y
    unfold byO numC
    rw [num_up, num_up]
    cases fo
    · rw [(fit_up bl x).2, (fit_up bl y).2]
    · rw [(fit_up bl x).1, (fit_up bl y).1]
  unfold cmpO
  rw [key_up f t c h1 h2, key_up f t c h1 h2, e, e]
  exact ⟨rfl, rfl⟩

/-! ### where a key begins -/
theorem ends_first (c : UInt8) (l : List UInt8) : ∀ q, (endsOf c l)[0]? = some q → q.1 = 0 := by
  have sep : ∀ (l : List UInt8) a p q, (endsSep c l a p)[0]? = some q → q.1 = a := by
    intro l
    induction l with
    | nil => intro a p q h; simp [endsSep] at h; rw [← h]
    | cons x r ih =>
      intro a p q h
      simp only [endsSep] at h
      split at h
      · simp at h; rw [← h]
      · exact ih _ _ _ h
  have bl : ∀ (l : List UInt8) a p b q, (endsBl l a p b)[0]? = some q → q.1 = a := by
    intro l
    induction l with
    | nil => intro a p b q h; simp only [endsBl] at h; split at h <;> simp at h; rw [← h]
    | cons x r ih =>
      intro a p b q h
      cases b
      · exact ih _ _ _ _ h
      · simp only [endsBl] at h
        split at h
        · simp at h; rw [← h]
        · exact ih _ _ _ _ h
  intro q h
  unfold endsOf at h
  split at h
  · exact bl _ _ _ _ _ h
  · exact sep _ _ _ _ h
theorem ends_some (c : UInt8) (l : List UInt8) (h : l ≠ []) : endsOf c l ≠ [] := by
  have sep : ∀ (l : List UInt8) a p, endsSep c l a p ≠ [] := by
    intro l
    induction l with
    | nil => intro a p; simp [endsSep]
    | cons x r ih => intro a p; simp only [endsSep]; split; simp; exact ih _ _
  have bl : ∀ (l : List UInt8) a p b, (a < p ∨ l ≠ []) → endsBl l a p b ≠ [] ∨ ¬ a ≤ p := by
    intro l
    induction l with
    | nil => intro a p b h; simp only [endsBl]; rcases h with h | h; rw [if_pos h]; simp; exact absurd rfl h
    | cons x r ih =>
      intro a p b h
      by_cases hap : a ≤ p
      · left
        have h2 : a < p + 1 := by omega
        cases b
        · rcases ih a (p + 1) (!blankC x) (.inl h2) with k | k
          · exact k
          · omega
        · simp only [endsBl]
          split
          · simp
          · rcases ih a (p + 1) true (.inl h2) with k | k
            · exact k
            · omega
      · exact .inr hap
  unfold endsOf
  split
  · rcases bl l 0 0 false (.inr h) with k | k
    · exact k
    · omega
  · exact sep _ _ _
/-- The key up to a field begins the key to the end; this is the end of the line; that of the whole line is the line. -/
theorem key_begin (f t : Int) (c : UInt8) (l : List UInt8) (h0 : checkO f 0 c = true) :
    keyO f t c l <+: keyO f 0 c l ∧ (∃ a, keyO f 0 c l = l.drop a) ∧ (f ≤ 1 → keyO f 0 c l = l) := by
  have ha : ∀ f', 1 ≤ f' → keyP (endsOf c l) f' 0 l = l.drop (beginOf (endsOf c l) f' l.length) := by
    intro f' hf
    have he : endOf (endsOf c l) 0 l.length = l.length := by unfold endOf nth; rw [if_neg (by decide)]; rfl
    unfold keyP cutL
    rw [he, List.take_of_length_le]
    rw [List.length_drop]
    omega
  have hp : 0 ≤ f := by unfold checkO at h0; simp at h0; exact h0.1
  have hall : keyO f 0 c l = if f = 0 then l else keyP (endsOf c l) f 0 l := by unfold keyO; rw [if_pos h0]
  refine ⟨?_, ?_, ?_⟩
  · unfold keyO
    cases ht : checkO f t c
    · exact List.nil_prefix
    · rw [if_pos rfl, if_pos h0]
      split
      · exact List.prefix_refl _
      · rw [ha f (by omega)]
        unfold keyP cutL
        exact List.take_prefix _ _
  · rw [hall]
    split
    · exact ⟨0, rfl⟩
    · exact ⟨_, ha f (by omega)⟩
  · intro hf
    rw [hall]
    split
    · rfl
    · have e : f = 1 := by omega
      rw [ha f (by omega), e]
      unfold beginOf nth
      rw [if_pos (by decide)]
      show l.drop (((endsOf c l)[0]?.map (·.1)).getD l.length) = l
      cases h : (endsOf c l)[0]? with
      | none =>
        have h2 : endsOf c l = [] := by
          cases h3 : endsOf c l with
          | nil => rfl
          | cons a b => rw [h3] at h; cases h
        have : l = [] := by
          rcases Decidable.em (l = []) with k | k
          · exact k
          · exact absurd h2 (ends_some c l k)
        rw [this]; rfl
      | some q => rw [Option.map_some, Option.getD_some, ends_first c l q h]; rfl
end Go.Proofs.YtlicjpbmlmongaaGreatDoor.K
/- What a rune that is no ASCII one has read: bytes from 128 on. -/
namespace Go.Proofs.YtlicjpbmlmongaaGreatDoor.K

theorem get_pos (s : ByteArray) (j : Nat) (h : j < s.size) : s.get! j = s[j]'h := by
  simp [ByteArray.get!, getElem!_pos, h]
  rfl
theorem decode_bytes (s : ByteArray) (pos : Nat) (h : pos < s.size) (ha : 128 ≤ (s[pos]'h).toNat) :
    pos + (Utf8.decode s pos).2 ≤ s.size ∧ ∀ j, pos ≤ j → j < pos + (Utf8.decode s pos).2 → 128 ≤ (s.get! j).toNat := by
  have hn : ¬ (s[pos]'h).toNat < 128 := by omega
  have h0 : 128 ≤ (s.get! pos).toNat := by rw [get_pos s pos h]; exact ha
  have one : pos + 1 ≤ s.size ∧ ∀ j, pos ≤ j → j < pos + 1 → 128 ≤ (s.get! j).toNat := by
    refine ⟨by omega, fun j h1 h2 => ?_⟩
    obtain rfl : j = pos := by omega
    exact h0
  have cont : ∀ k, (decide (pos + k < s.size) && (s.get! (pos + k)).toNat / 64 == 2) = true → pos + k < s.size ∧ 128 ≤ (s.get! (pos + k)).toNat := by
    intro k hk
    simp only [Bool.and_eq_true, decide_eq_true_eq, beq_iff_eq] at hk
    omega
  simp only [Utf8.decode, get_at s pos h, hn, if_false]
  split
  · rename_i h1
    rw [Bool.and_eq_true] at h1
    have c1 := cont 1 h1.2
    split
    · refine ⟨by show pos + 2 ≤ _; omega, fun j h2 h3 => ?_⟩
      have h3' : j < pos + 2 := h3
      rcases (show j = pos ∨ j = pos + 1 by omega) with rfl | rfl
      · exact h0
      · exact c1.2
    · exact one
  · split
    · rename_i h1
      simp only [Bool.and_eq_true] at h1
      have c1 := cont 1 (by simpa only [Bool.and_eq_true] using h1.1.2)
      have c2 := cont 2 (by simpa only [Bool.and_eq_true] using h1.2)
      split
      · refine ⟨by show pos + 3 ≤ _; omega, fun j h2 h3 => ?_⟩
        have h3' : j < pos + 3 := h3
        rcases (show j = pos ∨ j = pos + 1 ∨ j = pos + 2 by omega) with rfl | rfl | rfl
        · exact h0
        · exact c1.2
        · exact c2.2
      · exact one
    · split
      · rename_i h1
        simp only [Bool.and_eq_true] at h1
        have c1 := cont 1 (by simpa only [Bool.and_eq_true] using h1.1.1.2)
        have c2 := cont 2 (by simpa only [Bool.and_eq_true] using h1.1.2)
        have c3 := cont 3 (by simpa only [Bool.and_eq_true] using h1.2)
        split
        · refine ⟨by show pos + 4 ≤ _; omega, fun j h2 h3 => ?_⟩
          have h3' : j < pos + 4 := h3
          rcases (show j = pos ∨ j = pos + 1 ∨ j = pos + 2 ∨ j = pos + 3 by omega) with rfl | rfl | rfl | rfl
          · exact h0
          · exact c1.2
          · exact c2.2
          · exact c3.2
        · exact one
      · exact one
/-- None of the bytes of such a rune is an ASCII one that is looked for. -/
theorem noAny_rune (s : ByteArray) (chars : List UInt8) (hc : ∀ c ∈ chars, c.toNat < 128) (pos : Nat) (h : pos < s.size) (ha : 128 ≤ (s[pos]'h).toNat) (hn : Lib.NoAny s.data.toList chars pos) :
    Lib.NoAny s.data.toList chars (pos + (Utf8.decode s pos).2) := by
  intro j b hj hb
  by_cases h1 : j < pos
  · exact hn j b h1 hb
  · have hlt := (List.getElem?_eq_some_iff.1 hb).1
    have hjs : j < s.size := by rw [Array.length_toList] at hlt; exact hlt
    have h2 := (decode_bytes s pos h ha).2 j (by omega) hj
    rw [get_pos s j hjs] at h2
    have e : s[j] = b := (List.getElem?_eq_some_iff.1 hb).2
    rw [e] at h2
    cases hcb : chars.contains b
    · rfl
    · have := hc b (List.contains_iff_mem.1 hcb)
      omega
end Go.Proofs.YtlicjpbmlmongaaGreatDoor.K
/- One step along a line: where the next field ends, as the library tells it. -/
namespace Go.Proofs.YtlicjpbmlmongaaGreatDoor.K

theorem find_split (l : List UInt8) (c : UInt8) : (Lib.indexByte l c < 0 ∧ ∀ d ∈ l, d ≠ c) ∨ (∃ x r, l = x ++ c :: r ∧ (∀ d ∈ x, d ≠ c) ∧ Lib.indexByte l c = (x.length : Int)) := by
  induction l with
  | nil => left; exact ⟨by simp [Lib.indexByte], fun d hd => by cases hd⟩
  | cons b l ih =>
    by_cases hb : b = c
    · right; subst hb; exact ⟨[], l, rfl, (fun d hd => by cases hd), by simp [Lib.indexByte]⟩
    · have hbb : (b == c) = false := by simpa using hb
      rcases ih with ⟨h1, h2⟩ | ⟨x, r, rfl, h2, h3⟩
      · left
        have h3 : Lib.indexByte l c = -1 := by have := Lib.indexByte_ge l c; omega
        refine ⟨by simp [Lib.indexByte, hbb, h3], fun d hd => ?_⟩
        rcases List.mem_cons.1 hd with rfl | h
        · exact hb
        · exact h2 d h
      · right
        refine ⟨b :: x, r, rfl, fun d hd => ?_, ?_⟩
        · rcases List.mem_cons.1 hd with rfl | h
          · exact hb
          · exact h2 d h
        · simp only [Lib.indexByte, hbb, h3, Bool.false_eq_true, if_false]
          rw [if_neg (by simp)]
          simp
theorem sep_last (l : List UInt8) (c : UInt8) (h : Lib.indexByte l c < 0) (a : Nat) : endsSep c l a a = [(a, a + l.length)] := by
  rcases find_split l c with ⟨_, h2⟩ | ⟨x, r, _, _, h3⟩
  · have := endsSep_run c l [] h2 a a
    rw [List.append_nil] at this
    rw [this]; rfl
  · omega
theorem sep_next (l : List UInt8) (c : UInt8) (k : Nat) (h : Lib.indexByte l c = (k : Int)) (a : Nat) : endsSep c l a a = (a, a + k) :: endsSep c (l.drop (k + 1)) (a + (k + 1)) (a + (k + 1)) ∧ k < l.length := by
  rcases find_split l c with ⟨h1, _⟩ | ⟨x, r, rfl, h2, h3⟩
  · omega
  · have hk : x.length = k := by omega
    subst hk
    refine ⟨?_, by simp⟩
    rw [endsSep_run c x (c :: r) h2]
    have e : (x ++ c :: r).drop (x.length + 1) = r := by rw [List.drop_length_add_append]; rfl
    rw [e]
    simp only [endsSep, if_true]
    rfl
theorem idxAny_split (l : List UInt8) : (Lib.indexAny l [32, 9] < 0 ∧ ∀ d ∈ l, blankC d = false) ∨ (∃ x b r, l = x ++ b :: r ∧ (∀ d ∈ x, blankC d = false) ∧ blankC b = true ∧ Lib.indexAny l [32, 9] = (x.length : Int)) := by
  have hc : ∀ d : UInt8, ([32, 9] : List UInt8).contains d = blankC d := by
    intro d
    unfold blankC
    rw [Bool.eq_iff_iff]
    simp
  induction l with
  | nil => left; exact ⟨by simp [Lib.indexAny], fun d hd => by cases hd⟩
  | cons b l ih =>
    cases hb : blankC b with
    | true => right; exact ⟨[], b, l, rfl, (fun d hd => by cases hd), hb, by rw [Lib.indexAny, hc, hb]; rfl⟩
    | false =>
      have hcb := hc b
      rw [hb] at hcb
      rcases ih with ⟨h1, h2⟩ | ⟨x, b', r, rfl, h2, hb', h3⟩
      · left
        have h3 : Lib.indexAny l [32, 9] = -1 := by have := Lib.indexAny_ge [32, 9] l; omega
        refine ⟨by rw [Lib.indexAny, hcb, h3]; simp, fun d hd => ?_⟩
        rcases List.mem_cons.1 hd with rfl | h
        · exact hb
        · exact h2 d h
      · right
        refine ⟨b :: x, b', r, rfl, fun d hd => ?_, hb', ?_⟩
        · rcases List.mem_cons.1 hd with rfl | h
          · exact hb
          · exact h2 d h
        · rw [Lib.indexAny, hcb, h3, if_neg (by decide), if_neg (by simp)]
          simp
theorem trim_blanks (l : List UInt8) : Lib.trimLeftS l [32, 9] = l.dropWhile blankC := by
  unfold Lib.trimLeftS
  congr 1
  funext d
  unfold blankC
  rw [Bool.eq_iff_iff]
  simp
/-- How many bytes the first field by blanks has, with the blanks ahead of it. -/
def stepB (l : List UInt8) : Nat := (l.length - (l.dropWhile blankC).length) + (if Lib.indexAny (l.dropWhile blankC) [32, 9] < 0 then (l.dropWhile blankC).length else (Lib.indexAny (l.dropWhile blankC) [32, 9]).toNat)
theorem bl_step (l : List UInt8) (hl : l ≠ []) (a : Nat) : endsBl l a a false = (a, a + stepB l) :: endsBl (l.drop (stepB l)) (a + stepB l) (a + stepB l) false ∧ 1 ≤ stepB l ∧ stepB l ≤ l.length := by
  obtain ⟨b, y, rfl, hb, hy, hh⟩ : ∃ b y, l = b ++ y ∧ (∀ d ∈ b, blankC d = true) ∧ (b ++ y).dropWhile blankC = y ∧ ∀ c, y.head? = some c → blankC c = false := by
    refine ⟨l.takeWhile blankC, l.dropWhile blankC, List.takeWhile_append_dropWhile.symm, ?_, ?_, ?_⟩
    · have := List.all_takeWhile (p := blankC) (l := l)
      rw [List.all_eq_true] at this
      exact this
    · rw [List.takeWhile_append_dropWhile]
    · intro c hc
      have := List.head?_dropWhile_not (p := blankC) (l := l)
      rw [hc] at this
      simpa using this
  have hs : stepB (b ++ y) = b.length + (if Lib.indexAny y [32, 9] < 0 then y.length else (Lib.indexAny y [32, 9]).toNat) := by
    unfold stepB
    rw [hy]; simp
  have hstart : ∀ (f r : List UInt8), y = f ++ r → (∀ d ∈ f, blankC d = false) → f ≠ [] → endsBl (b ++ y) a a false = endsBl r a (a + b.length + f.length) true := by
    intro f r e hf hne
    rw [endsBl_blanks b y hb]
    obtain ⟨d, f', rfl⟩ : ∃ d f', f = d :: f' := by cases f with | nil => exact absurd rfl hne | cons d f' => exact ⟨d, f', rfl⟩
    rw [e]
    show endsBl (d :: (f' ++ r)) a _ false = _
    simp only [endsBl]
    rw [hf d (by simp)]
    show endsBl (f' ++ r) a _ true = _
    rw [endsBl_field f' r (fun x hx => hf x (by simp [hx]))]
    congr 1; simp; omega
  rcases idxAny_split y with ⟨h1, h2⟩ | ⟨x, c, r, e, h2, hc, h3⟩
  · rw [hs, if_pos h1]
    have hd : (b ++ y).drop (b.length + y.length) = [] := List.drop_eq_nil_of_le (by simp)
    rw [hd]
    have hz : endsBl [] (a + (b.length + y.length)) (a + (b.length + y.length)) false = [] := by simp [endsBl]
    rw [hz]
    have hpos : 0 < (b ++ y).length := List.length_pos_iff.2 hl
    simp only [List.length_append] at hpos
    refine ⟨?_, by omega, by simp⟩
    by_cases hyn : y = []
    · subst hyn
      rw [endsBl_blanks b [] hb]
      simp only [endsBl, List.length_nil, Nat.add_zero]
      simp only [List.length_nil, Nat.add_zero] at hpos
      rw [if_pos (by omega)]
    · rw [hstart y [] (by simp) h2 hyn]
      have hyp := List.length_pos_iff.2 hyn
      simp only [endsBl]
      rw [if_pos (by omega), Nat.add_assoc]
  · have hx : x ≠ [] := by
      rintro rfl
      rw [e] at hh
      have := hh c rfl
      rw [hc] at this; cases this
    have hxp := List.length_pos_iff.2 hx
    rw [hs, if_neg (by omega), h3, Int.toNat_natCast, hstart x (c :: r) e h2 hx]
    have hd : (b ++ y).drop (b.length + x.length) = c :: r := by
      rw [e, ← List.append_assoc, List.drop_append_of_le_length (by simp), List.drop_eq_nil_of_le (by simp)]; rfl
    rw [hd]
    refine ⟨?_, by omega, by rw [e]; simp⟩
    simp only [endsBl]
    rw [hc]
    simp [Nat.add_assoc]
theorem ends_len (c : UInt8) (l : List UInt8) : (endsOf c l).length ≤ l.length + 1 := by
  have sep : ∀ (l : List UInt8) a p, (endsSep c l a p).length ≤ l.length + 1 := by
    intro l
    induction l with
    | nil => intro a p; simp [endsSep]
    | cons x r ih => intro a p; simp only [endsSep]; split <;> simp only [List.length_cons] <;> have := ih (p + 1) (p + 1) <;> have := ih a (p + 1) <;> omega
  have bl : ∀ (l : List UInt8) a p b, (endsBl l a p b).length ≤ l.length + 1 := by
    intro l
    induction l with
    | nil => intro a p b; simp only [endsBl]; split <;> simp
    | cons x r ih =>
      intro a p b
      cases b
      · simp only [endsBl, List.length_cons]; have := ih a (p + 1) (!blankC x); omega
      · simp only [endsBl]; split <;> simp only [List.length_cons] <;> have := ih p (p + 1) false <;> have := ih a (p + 1) true <;> omega
  unfold endsOf
  split
  · exact bl _ _ _ _
  · exact sep _ _ _
end Go.Proofs.YtlicjpbmlmongaaGreatDoor.K
/- Whole numbers and parts behind a point, told as texts: how they compare. -/
namespace Go.Proofs.YtlicjpbmlmongaaGreatDoor.K

theorem less_app_same (u v : List UInt8) : ∀ x y : List UInt8, x.length = y.length → Op.bytesLess x y = true → Op.bytesLess (x ++ u) (y ++ v) = true
  | [], [] => fun _ h => by simp [Op.bytesLess] at h
  | [], _ :: _ => fun h _ => by simp at h
  | _ :: _, [] => fun h _ => by simp at h
  | a :: x, b :: y => fun hl h => by
    simp only [Op.bytesLess, Bool.or_eq_true, decide_eq_true_eq, Bool.and_eq_true, beq_iff_eq] at h
    simp only [List.cons_append, Op.bytesLess, Bool.or_eq_true, decide_eq_true_eq, Bool.and_eq_true, beq_iff_eq]
    rcases h with h | ⟨rfl, h⟩
    · exact .inl h
    · exact .inr ⟨rfl, less_app_same u v x y (by simpa using hl) h⟩
theorem less_prefix (u v : List UInt8) : ∀ x : List UInt8, Op.bytesLess (x ++ u) (x ++ v) = Op.bytesLess u v
  | [] => rfl
  | a :: x => by simp [Op.bytesLess, less_prefix u v x, UInt8.lt_irrefl]

/-- The digit of a number below ten. -/
def dg (n : Nat) : UInt8 := UInt8.ofNat (48 + n % 10)
theorem dg_nat (n : Nat) : (dg n).toNat = 48 + n % 10 := by
  unfold dg
  rw [UInt8.toNat_ofNat_of_lt' (by show 48 + n % 10 < 256; omega)]
theorem dg_digit (n : Nat) : digitC (dg n) = true := by
  have := dg_nat n
  unfold digitC
  simp only [Bool.and_eq_true, decide_eq_true_eq, UInt8.le_iff_toNat_le]
  rw [this]
  exact ⟨by show 48 ≤ _; omega, by show _ ≤ 57; omega⟩
theorem dg_lt (a b : Nat) (h : a % 10 < b % 10) : dg a < dg b := by rw [UInt8.lt_iff_toNat_lt, dg_nat, dg_nat]; omega
theorem dg_zero (n : Nat) : dg n = 48 ↔ n % 10 = 0 := by
  rw [← UInt8.toNat_inj, dg_nat]
  show 48 + n % 10 = 48 ↔ _
  omega
/-- The digits of a number, without noughts ahead. -/
def wz (n : Nat) : List UInt8 := if h : n = 0 then [] else wz (n / 10) ++ [dg n]
decreasing_by omega
theorem wz_zero : wz 0 = [] := by rw [wz]; rfl
theorem wz_pos (n : Nat) (h : 0 < n) : wz n = wz (n / 10) ++ [dg n] := by rw [wz, dif_neg (by omega)]
theorem wz_len (n : Nat) (h : 0 < n) : (wz n).length = (wz (n / 10)).length + 1 := by rw [wz_pos n h]; simp
theorem wz_lt (n : Nat) : ∀ a b, a < b → b ≤ n → (wz a).length < (wz b).length ∨ ((wz a).length = (wz b).length ∧ Op.bytesLess (wz a) (wz b) = true) := by
  induction n with
  | zero => intro a b h k; omega
  | succ n ih =>
    intro a b h k
    have hb : 0 < b := by omega
    by_cases ha : a = 0
    · subst ha
      left
      rw [wz_zero, wz_len b hb]; simp
    · have ha' : 0 < a := by omega
      by_cases hd : a / 10 < b / 10
      · rcases ih (a / 10) (b / 10) hd (by omega) with h1 | ⟨h1, h2⟩
        · left; rw [wz_len a ha', wz_len b hb]; omega
        · right
          refine ⟨by rw [wz_len a ha', wz_len b hb]; omega, ?_⟩
          rw [wz_pos a ha', wz_pos b hb]
          exact less_app_same _ _ _ _ h1 h2
      · have e : a / 10 = b / 10 := by omega
        right
        refine ⟨by rw [wz_len a ha', wz_len b hb, e], ?_⟩
        rw [wz_pos a ha', wz_pos b hb, e, less_prefix]
        have := dg_lt a b (by omega)
        simp [Op.bytesLess, this]
theorem cmp_wz (a b : Nat) : orC (cmpI (wz a).length (wz b).length) (cmpB (wz a) (wz b)) = cmpI a b := by
  have lt : ∀ a b, a < b → orC (cmpI (wz a).length (wz b).length) (cmpB (wz a) (wz b)) = -1 := by
    intro a b h
    rcases wz_lt b a b h (Nat.le_refl _) with k | ⟨k, m⟩
    · have : cmpI (wz a).length (wz b).length = -1 := by unfold cmpI; rw [if_pos (by omega)]
      rw [this]; rfl
    · have : cmpI (wz a).length (wz b).length = 0 := by rw [k]; exact Ord.ints.self _
      rw [this]
      show cmpB _ _ = _
      unfold cmpB; rw [if_pos m]
  rcases Nat.lt_trichotomy a b with h | h | h
  · rw [lt a b h]; unfold cmpI; rw [if_pos (by omega)]
  · subst h
    rw [Ord.ints.self, Ord.ints.self]
    exact Ord.bytes.self _
  · have h1 := lt b a h
    have h2 := Ord.ints.back (wz a).length (wz b).length
    have h3 := Ord.bytes.back (wz a) (wz b)
    have h4 : cmpI (a : Int) b = 1 := by unfold cmpI; rw [if_neg (by omega), if_pos (by omega)]
    rw [h4]
    unfold orC at h1 ⊢
    split at h1 <;> split <;> omega
theorem wz_digits (n : Nat) : ∀ c ∈ wz n, digitC c = true := by
  induction n using Nat.strongRecOn with
  | _ n ih =>
    by_cases h : n = 0
    · subst h; rw [wz_zero]; intro c hc; cases hc
    · rw [wz_pos n (by omega)]
      intro c hc
      rcases List.mem_append.1 hc with k | k
      · exact ih (n / 10) (by omega) c k
      · simp at k; rw [k]; exact dg_digit n
theorem wz_head (n : Nat) : ∀ c, (wz n).head? = some c → c ≠ 48 := by
  induction n using Nat.strongRecOn with
  | _ n ih =>
    by_cases h : n = 0
    · subst h; rw [wz_zero]; intro c hc; cases hc
    · rw [wz_pos n (by omega)]
      intro c hc
      by_cases h0 : n / 10 = 0
      · rw [h0, wz_zero] at hc
        simp at hc
        rw [← hc]
        intro e
        have := (dg_zero n).1 e
        omega
      · have := wz_len (n / 10) (by omega)
        rw [List.head?_append, Option.or_of_isSome (by rw [Option.isSome_iff_ne_none]; intro e; rw [List.head?_eq_none_iff] at e; rw [e] at this; simp at this)] at hc
        exact ih (n / 10) (by omega) c hc
theorem drop_head (l : List UInt8) (p : UInt8 → Bool) (h : ∀ c, l.head? = some c → p c = false) : l.dropWhile p = l := by
  cases l with
  | nil => rfl
  | cons c l => rw [List.dropWhile_cons_of_neg]; rw [h c rfl]; decide
theorem take_all_app (p : UInt8 → Bool) (x r : List UInt8) (hx : ∀ c ∈ x, p c = true) (hr : ∀ c, r.head? = some c → p c = false) : (x ++ r).takeWhile p = x ∧ (x ++ r).dropWhile p = r := by
  induction x with
  | nil =>
    cases r with
    | nil => exact ⟨rfl, rfl⟩
    | cons c r =>
      have := hr c rfl
      exact ⟨by rw [List.nil_append, List.takeWhile_cons_of_neg (by rw [this]; decide)], by rw [List.nil_append, List.dropWhile_cons_of_neg (by rw [this]; decide)]⟩
  | cons a x ih =>
    obtain ⟨h1, h2⟩ := ih (fun c hc => hx c (by simp [hc]))
    have := hx a (by simp)
    exact ⟨by rw [List.cons_append, List.takeWhile_cons_of_pos this, h1], by rw [List.cons_append, List.dropWhile_cons_of_pos this, h2]⟩
theorem noughts_wz (k n : Nat) : (List.replicate k (48 : UInt8) ++ wz n).dropWhile (· == 48) = wz n :=
  (take_all_app (· == 48) (List.replicate k 48) (wz n) (fun c hc => by rw [(List.mem_replicate.1 hc).2]; rfl) (fun c hc => by rw [beq_eq_false_iff_ne]; exact wz_head n c hc)).2

/-- The digits behind a point. -/
def tailPart : List UInt8 → List UInt8
  | 46 :: t => trimR (· == 48) (t.takeWhile digitC)
  | _ => []
theorem partOf_tail (l : List UInt8) : partOf l = tailPart (l.dropWhile digitC) := by unfold partOf tailPart; rfl
/-- What stands behind a whole number: no digit, and no part but noughts. -/
def TailOK (r : List UInt8) : Prop := (∀ c, r.head? = some c → digitC c = false) ∧ tailPart r = []
/-- The number of a text: blanks, a sign, digits, and what is behind. -/
theorem num_told (b : List UInt8) (neg : Bool) (ds r : List UInt8) (hb : ∀ c ∈ b, blankC c = true) (hd : ∀ c ∈ ds, digitC c = true) (hne : ds ≠ []) (hr : ∀ c, r.head? = some c → digitC c = false) :
    numL (b ++ ((if neg = true then [45] else []) ++ (ds ++ r))) =
      ⟨if ds.dropWhile (· == 48) = [] ∧ tailPart r = [] then 0 else if neg = true then -1 else 1,
       ds.dropWhile (· == 48), tailPart r⟩ := by
  obtain ⟨d, ds', rfl⟩ : ∃ d ds', ds = d :: ds' := by cases ds with | nil => exact absurd rfl hne | cons d l => exact ⟨d, l, rfl⟩
  have hdd := hd d (by simp)
  have hnb : blankC d = false := by
    unfold digitC at hdd
    simp only [Bool.and_eq_true, decide_eq_true_eq] at hdd
    unfold blankC
    rw [Bool.or_eq_false_iff, beq_eq_false_iff_ne, beq_eq_false_iff_ne]
    refine ⟨fun e => ?_, fun e => ?_⟩ <;> subst e <;> exact absurd hdd.1 (by decide)
  have hn45 : d ≠ 45 := by
    intro e; subst e; revert hdd; decide
  have h1 : (b ++ ((if neg = true then [45] else []) ++ ((d :: ds') ++ r))).dropWhile blankC = (if neg = true then [45] else []) ++ ((d :: ds') ++ r) := by
    refine (take_all_app blankC b _ hb ?_).2
    intro c hc
    cases neg
    · simp at hc; rw [← hc]; exact hnb
    · simp at hc; rw [← hc]; rfl
  have h2 : minusOf ((if neg = true then [45] else []) ++ ((d :: ds') ++ r)) = (neg, (d :: ds') ++ r) := by
    cases neg
    · show minusOf (d :: (ds' ++ r)) = _
      unfold minusOf; split
      · rename_i e; injection e with e1 e2; exact absurd e1 hn45
      · rfl
    · rfl
  obtain ⟨h3, h4⟩ := take_all_app digitC (d :: ds') r hd hr
  unfold numL
  simp only
  rw [h1, h2]
  rw [partOf_tail]
  unfold wholeOf
  rw [h3, h4]
theorem cmpW_whole (a b : Nat) (s t : Int) : cmpW ⟨s, wz a, []⟩ ⟨t, wz b, []⟩ = cmpI a b := by
  unfold cmpW
  show orC (cmpI _ _) (orC (cmpB (wz a) (wz b)) (cmpB [] [])) = _
  have : orC (cmpB (wz a) (wz b)) (cmpB [] []) = cmpB (wz a) (wz b) := by
    unfold orC; split
    · rename_i h; rw [h]; rfl
    · rfl
  rw [this, cmp_wz]
def sgn (n : Int) : Int := if n = 0 then 0 else if n < 0 then -1 else 1
def numOf (n : Int) : Num := ⟨sgn n, wz n.natAbs, []⟩
theorem cmpN_whole (n m : Int) : cmpN (numOf n) (numOf m) = cmpI n m := by
  unfold cmpN numOf
  rw [cmpW_whole]
  show orC (cmpI (sgn n) (sgn m)) (sgn n * cmpI (n.natAbs : Int) (m.natAbs : Int)) = _
  unfold sgn
  by_cases h1 : n = 0
  · subst h1
    by_cases h2 : m = 0
    · subst h2; rfl
    · rw [if_pos rfl, if_neg h2]
      by_cases h3 : m < 0
      · rw [if_pos h3]; unfold cmpI orC; simp; omega
      · rw [if_neg h3]; unfold cmpI orC; simp; omega
  · rw [if_neg h1]
    by_cases h2 : m = 0
    · subst h2
      rw [if_pos rfl]
      by_cases h3 : n < 0
      · rw [if_pos h3]; unfold cmpI orC; simp; omega
      · rw [if_neg h3]; unfold cmpI orC; simp; omega
    · rw [if_neg h2]
      by_cases h3 : n < 0 <;> by_cases h4 : m < 0
      · rw [if_pos h3, if_pos h4, Ord.ints.self]
        show -1 * cmpI _ _ = _
        unfold cmpI
        split <;> split <;> (try split) <;> (try split) <;> omega
      · rw [if_pos h3, if_neg h4]; unfold cmpI orC; simp; omega
      · rw [if_neg h3, if_pos h4]; unfold cmpI orC; simp; omega
      · rw [if_neg h3, if_neg h4, Ord.ints.self]
        show 1 * cmpI _ _ = _
        unfold cmpI
        split <;> split <;> (try split) <;> (try split) <;> omega
theorem wz_nil (n : Nat) : wz n = [] ↔ n = 0 := by
  constructor
  · intro h
    rcases Nat.eq_zero_or_pos n with k | k
    · exact k
    · have := wz_len n k; rw [h] at this; simp at this
  · rintro rfl; exact wz_zero
/-- A whole number, however it is told. -/
theorem num_whole (b : List UInt8) (n : Int) (k : Nat) (ds r : List UInt8) (hb : ∀ c ∈ b, blankC c = true) (hds : ds = List.replicate k 48 ++ (if n = 0 then [48] else wz n.natAbs)) (hr : TailOK r) :
    numL (b ++ ((if decide (n < 0) = true then [45] else []) ++ (ds ++ r))) = numOf n := by
  have hd : ∀ c ∈ ds, digitC c = true := by
    intro c hc
    rw [hds] at hc
    rcases List.mem_append.1 hc with h | h
    · rw [(List.mem_replicate.1 h).2]; rfl
    · split at h
      · simp at h; rw [h]; rfl
      · exact wz_digits _ c h
  have hne : ds ≠ [] := by
    rw [hds]
    split
    · simp
    · rename_i h
      intro e
      have := (List.append_eq_nil_iff.1 e).2
      rw [wz_nil] at this
      omega
  have hs : ds.dropWhile (· == 48) = wz n.natAbs := by
    rw [hds]
    split
    · rename_i h
      subst h
      have : List.replicate k (48 : UInt8) ++ [48] = List.replicate (k + 1) 48 ++ wz 0 := by rw [wz_zero, List.append_nil, List.replicate_succ']
      rw [this]; exact noughts_wz (k + 1) 0
    · exact noughts_wz k _
  rw [num_told b (decide (n < 0)) ds r hb hd hne hr.1, hs, hr.2]
  unfold numOf sgn
  congr 1
  by_cases h : n = 0
  · subst h; rw [if_pos ⟨(wz_nil _).2 rfl, rfl⟩, if_pos rfl]
  · rw [if_neg (fun e => h (by have := (wz_nil _).1 e.1; omega)), if_neg h]
    simp

/-! ### parts behind the point -/
theorem trimR_snoc (x : List UInt8) (c : UInt8) : trimR (· == 48) (x ++ [c]) = if c = 48 then trimR (· == 48) x else x ++ [c] := by
  unfold trimR
  rw [List.reverse_append]
  show ((c :: x.reverse).dropWhile _).reverse = _
  by_cases h : c = 48
  · rw [if_pos h, List.dropWhile_cons_of_pos (by simp [h])]
  · rw [if_neg h, List.dropWhile_cons_of_neg (by simpa using h)]
    simp
/-- Noughts behind turn nothing, of parts as long. -/
theorem cmp_trim (n : Nat) : ∀ x y : List UInt8, x.length = n → y.length = n → (∀ c ∈ x, 48 ≤ c) → (∀ c ∈ y, 48 ≤ c) → cmpB (trimR (· == 48) x) (trimR (· == 48) y) = cmpB x y := by
  have pre : ∀ (a b : UInt8) (x y : List UInt8), trimR (· == 48) (a :: x) = (if a = 48 ∧ trimR (· == 48) x = [] then [] else a :: trimR (· == 48) x) := by
    intro a _ x _
    unfold trimR
    rw [List.reverse_cons, List.dropWhile_append]
    by_cases h : x.reverse.dropWhile (· == 48) = []
    · rw [h]
      simp only [List.isEmpty_nil, if_true, List.reverse_nil]
      by_cases ha : a = 48
      · subst ha; simp
      · rw [List.dropWhile_cons_of_neg (by simpa using ha)]; simp [ha]
    · have : (x.reverse.dropWhile (· == 48)).isEmpty = false := by simpa using h
      rw [this]
      simp only [Bool.false_eq_true, if_false, List.reverse_append, List.reverse_cons, List.reverse_nil, List.nil_append]
      rw [if_neg]
      · rfl
      · rintro ⟨_, e⟩; exact h (List.reverse_eq_nil_iff.1 e)
  have cons : ∀ (a : UInt8) (x y : List UInt8), cmpB (a :: x) (a :: y) = cmpB x y := by
    intro a x y
    unfold cmpB
    have e : ∀ u v : List UInt8, Op.bytesLess (a :: u) (a :: v) = Op.bytesLess u v := fun u v => less_prefix u v [a]
    rw [e, e]
  have ne : ∀ (a b : UInt8) (x y : List UInt8), a < b → cmpB (a :: x) (b :: y) = -1 := by
    intro a b x y h
    unfold cmpB
    rw [if_pos (by simp [Op.bytesLess, h])]
  have nil : ∀ (a : UInt8) (x : List UInt8), cmpB [] (a :: x) = -1 := by intro a x; rfl
  induction n with
  | zero =>
    intro x y hx hy _ _
    rw [List.length_eq_zero_iff.1 hx, List.length_eq_zero_iff.1 hy]; rfl
  | succ n ih =>
    intro x y hx hy h1 h2
    obtain ⟨a, x, rfl⟩ : ∃ a t, x = a :: t := by cases x with | nil => simp at hx | cons a t => exact ⟨a, t, rfl⟩
    obtain ⟨b, y, rfl⟩ : ∃ a t, y = a :: t := by cases y with | nil => simp at hy | cons a t => exact ⟨a, t, rfl⟩
    have hi := ih x y (by simpa using hx) (by simpa using hy) (fun c hc => h1 c (by simp [hc])) (fun c hc => h2 c (by simp [hc]))
    have lt : ∀ (a b : UInt8) (x y : List UInt8), 48 ≤ a → a < b → cmpB (trimR (· == 48) (a :: x)) (trimR (· == 48) (b :: y)) = -1 := by
      intro a b x y ha hab
      rw [pre a b x y, pre b a y x]
      have hb : ¬ (b = 48 ∧ trimR (· == 48) y = []) := fun e => by
        rw [e.1] at hab
        have h1 := UInt8.lt_iff_toNat_lt.1 hab
        have h2 := UInt8.le_iff_toNat_le.1 ha
        omega
      rw [if_neg hb]
      split
      · exact nil _ _
      · exact ne _ _ _ _ hab
    by_cases e : a = b
    · subst e
      rw [cons, ← hi, pre a a x y, pre a a y x]
      by_cases p : a = 48 ∧ trimR (· == 48) x = []
      · by_cases q : a = 48 ∧ trimR (· == 48) y = []
        · rw [if_pos p, if_pos q, p.2, q.2]
        · rw [if_pos p, if_neg q, p.2]
          cases h : trimR (· == 48) y with
          | nil => exact absurd ⟨p.1, h⟩ q
          | cons c t => rw [nil, nil]
      · by_cases q : a = 48 ∧ trimR (· == 48) y = []
        · rw [if_neg p, if_pos q, q.2]
          cases h : trimR (· == 48) x with
          | nil => exact absurd ⟨q.1, h⟩ p
          | cons c t => rfl
        · rw [if_neg p, if_neg q, cons]
    · rcases UInt8.lt_or_lt_of_ne e with k | k
      · rw [lt a b x y (h1 a (by simp)) k, ne a b x y k]
      · have r1 := Ord.bytes.back (trimR (· == 48) (b :: y)) (trimR (· == 48) (a :: x))
        have r2 := Ord.bytes.back (b :: y) (a :: x)
        rw [r1, r2, lt b a y x (h2 b (by simp)) k, ne b a y x k]
/-- Two numbers with the same whole part. -/
theorem cmp_parted (neg : Bool) (w : List UInt8) (p q : List UInt8) :
    cmpN ⟨if w = [] ∧ p = [] then 0 else if neg = true then -1 else 1, w, p⟩ ⟨if w = [] ∧ q = [] then 0 else if neg = true then -1 else 1, w, q⟩ = if neg = true then - cmpB p q else cmpB p q := by
  have hw : ∀ s t, cmpW ⟨s, w, p⟩ ⟨t, w, q⟩ = cmpB p q := by
    intro s t
    unfold cmpW
    show orC (cmpI _ _) (orC (cmpB w w) (cmpB p q)) = _
    rw [Ord.ints.self, Ord.bytes.self]; rfl
  unfold cmpN
  rw [hw]
  simp only
  by_cases h : w = []
  · subst h
    cases p with
    | nil =>
      cases q with
      | nil => simp; cases neg <;> rfl
      | cons a q => simp; cases neg <;> rfl
    | cons b p =>
      cases q with
      | nil => simp; cases neg <;> rfl
      | cons a q =>
        simp only [List.cons_ne_nil, and_false, if_false]
        rw [Ord.ints.self]
        show _ * _ = _
        cases neg <;> simp
  · have h1 : ∀ l : List UInt8, ¬ (w = [] ∧ l = []) := fun l e => h e.1
    rw [if_neg (h1 p), if_neg (h1 q), Ord.ints.self]
    show _ * _ = _
    cases neg <;> simp
end Go.Proofs.YtlicjpbmlmongaaGreatDoor.K

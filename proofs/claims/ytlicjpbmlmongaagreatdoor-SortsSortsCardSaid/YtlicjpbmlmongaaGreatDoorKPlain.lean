import Derived.Lib.Small
import Derived.Laws.Strings
import Derived.Laws.RangeAny
import Derived.Lib.IndexAny
import Derived.Lib.SlTrimSet
import Derived.Lib.Builder
set_option linter.unusedVariables false
set_option linter.unusedSimpArgs false
/- Orders that are told by -1, 0, 1: of bytes, of whole numbers, one behind the other. -/
namespace Go.Proofs.YtlicjpbmlmongaaGreatDoor.K
variable {α β : Type}
theorem less_irrefl : ∀ a : List UInt8, Op.bytesLess a a = false
 | [] => rfl
 | a :: x => by
  have := less_irrefl x
  simp [Op.bytesLess, this]
theorem less_asymm : ∀ a b : List UInt8, Op.bytesLess a b = true → Op.bytesLess b a = false
 | _, [] => fun h => by simp [Op.bytesLess] at h
 | [], _ :: _ => fun _ => by simp [Op.bytesLess]
 | a :: x, b :: y => fun h => by
  simp only [Op.bytesLess, Bool.or_eq_true, decide_eq_true_eq, Bool.and_eq_true, beq_iff_eq] at h
  simp only [Op.bytesLess, Bool.or_eq_false_iff, decide_eq_false_iff_not, Bool.and_eq_false_iff, beq_eq_false_iff_ne]
  rcases h with h | ⟨rfl, h⟩
  ·exact ⟨fun k => UInt8.lt_asymm h k, .inl fun e => by subst e; exact UInt8.lt_irrefl _ h⟩
  ·exact ⟨UInt8.lt_irrefl _, .inr (less_asymm x y h)⟩
theorem less_total : ∀ a b : List UInt8, Op.bytesLess a b = false → Op.bytesLess b a = false → a = b
 | [], [] => fun _ _ => rfl
 | _ :: _, [] => fun _ h => by simp [Op.bytesLess] at h
 | [], _ :: _ => fun h _ => by simp [Op.bytesLess] at h
 | a :: x, b :: y => fun h k => by
  simp only [Op.bytesLess, Bool.or_eq_false_iff, decide_eq_false_iff_not, Bool.and_eq_false_iff, beq_eq_false_iff_ne] at h k
  have e : a = b := by
   rcases UInt8.lt_or_eq_of_le (UInt8.not_lt.1 h.1) with h' | h'
   ·exact absurd h' k.1
   ·exact h'.symm
  subst e
  rcases h.2 with h2 | h2
  ·exact absurd rfl h2
  ·rcases k.2 with k2 | k2
   ·exact absurd rfl k2
   ·rw [less_total x y h2 k2]
theorem less_trans : ∀ a b c : List UInt8, Op.bytesLess a b = true → Op.bytesLess b c = true → Op.bytesLess a c = true
 | _, [], _ => fun h _ => by simp [Op.bytesLess] at h
 | _, _ :: _, [] => fun _ h => by simp [Op.bytesLess] at h
 | [], _ :: _, _ :: _ => fun _ _ => by simp [Op.bytesLess]
 | a :: x, b :: y, c :: z => fun h k => by
  simp only [Op.bytesLess, Bool.or_eq_true, decide_eq_true_eq, Bool.and_eq_true, beq_iff_eq] at h k ⊢
  rcases h with h | ⟨rfl, h⟩
  ·rcases k with k | ⟨rfl, k⟩
   ·exact .inl (UInt8.lt_trans h k)
   ·exact .inl h
  ·rcases k with k | ⟨rfl, k⟩
   ·exact .inl k
   ·exact .inr ⟨rfl, less_trans x y z h k⟩
/-- Two texts as bytes: -1, 0, 1. -/
def cmpB (a b : List UInt8) : Int := if Op.bytesLess a b = true then -1 else if Op.bytesLess b a = true then 1 else 0
/-- c tells an order: -1, 0, 1; the other way about; and through a third. -/
structure Ord {α : Type} (c : α → α → Int) : Prop where
 one : ∀ a b, c a b = -1 ∨ c a b = 0 ∨ c a b = 1
 back : ∀ a b, c b a = - c a b
 go : ∀ a b d, c a b ≤ 0 → c b d ≤ 0 → c a d ≤ 0 ∧ (c a d = 0 → c a b = 0 ∧ c b d = 0)
theorem Ord.self {c : α → α → Int} (h : Ord c) (a : α) : c a a = 0 := by have := h.back a a; omega
theorem Ord.alike {c : α → α → Int} (h : Ord c) {a b : α} (e : c a b = 0) (d : α) : c a d = c b d ∧ c d a = c d b := by
 have e2 : c b a = 0 := by have := h.back a b; omega
 have x : c a d = c b d := by
  rcases h.one a d with k | k | k <;> rcases h.one b d with m | m | m <;> try omega
  ·have := h.go a b d (by omega) (by have := h.go b a d (by omega) (by omega); omega); have := h.go b a d (by omega) (by omega); omega
  ·have := (h.go b a d (by omega) (by omega)); omega
  ·have := (h.go a b d (by omega) (by omega)); omega
  ·have := (h.go b a d (by omega) (by omega)); omega
  ·have := (h.go a b d (by omega) (by omega)); omega
  ·have := (h.go a b d (by omega) (by omega)); omega
 exact ⟨x, by have := h.back a d; have := h.back b d; omega⟩
theorem Ord.rev {c : α → α → Int} (h : Ord c) : Ord (fun a b => - c a b) where
 one a b := by have := h.one a b; omega
 back a b := by have := h.back a b; omega
 go a b d k m := by
  have h1 := h.back a b; have h2 := h.back b d; have h3 := h.back a d
  have := h.go d b a (by omega) (by omega)
  omega
theorem Ord.zero : Ord (fun (_ _ : α) => (0 : Int)) where
 one _ _ := .inr (.inl rfl)
 back _ _ := rfl
 go _ _ _ _ _ := ⟨Int.le_refl _, fun _ => ⟨rfl, rfl⟩⟩
theorem Ord.map {c : α → α → Int} (h : Ord c) (f : β → α) : Ord (fun a b => c (f a) (f b)) where
 one a b := h.one _ _
 back a b := h.back _ _
 go a b d k m := h.go _ _ _ k m
/-- The first that tells more than 0. -/
def orC (x y : Int) : Int := if x = 0 then y else x
theorem Ord.or {c d : α → α → Int} (h : Ord c) (k : Ord d) : Ord (fun a b => orC (c a b) (d a b)) where
 one a b := by unfold orC; split; exact k.one a b; exact h.one a b
 back a b := by
  have := h.back a b; have := k.back a b
  simp only [orC]
  split <;> split <;> omega
 go a b e x y := by
  simp only [orC] at x y ⊢
  by_cases h1 : c a b = 0
  ·rw [if_pos h1] at x
   have ha := h.alike h1 e
   by_cases h2 : c b e = 0
   ·rw [if_pos h2] at y
    have h3 : c a e = 0 := by omega
    rw [if_pos h1, if_pos h2, if_pos h3]
    exact k.go a b e x y
   ·rw [if_neg h2] at y
    have h3 : ¬ c a e = 0 := by omega
    rw [if_pos h1, if_neg h2, if_neg h3]
    exact ⟨by omega, fun h' => absurd h' h3⟩
  ·rw [if_neg h1] at x
   by_cases h2 : c b e = 0
   ·rw [if_pos h2] at y
    have hb : c e b = 0 := by have := h.back b e; omega
    have h3 : ¬ c a e = 0 := fun h' => by
     have := (h.alike hb a).2; have := h.back a e; have := h.back e a; have := h.back a b
     omega
    have h4 := h.go a b e x (by omega)
    rw [if_neg h1, if_neg h3]
    exact ⟨h4.1, fun h' => absurd h' h3⟩
   ·rw [if_neg h2] at y
    have h4 := h.go a b e x y
    have h3 : ¬ c a e = 0 := fun h' => h1 (h4.2 h').1
    rw [if_neg h1, if_neg h2, if_neg h3]
    exact ⟨h4.1, fun h' => absurd h' h3⟩
theorem Ord.bytes : Ord cmpB where
 one a b := by unfold cmpB; split; simp; split <;> simp
 back a b := by
  unfold cmpB
  cases h : Op.bytesLess a b
  ·cases k : Op.bytesLess b a <;> simp
  ·rw [less_asymm a b h]; simp
 go a b d x y := by
  have le : ∀ p q, cmpB p q ≤ 0 → Op.bytesLess p q = true ∨ p = q := by
   intro p q h
   unfold cmpB at h
   cases h1 : Op.bytesLess p q
   ·cases h2 : Op.bytesLess q p
    ·exact .inr (less_total p q h1 h2)
    ·simp [h1, h2] at h
   ·exact .inl rfl
  have self : ∀ p, cmpB p p = 0 := by intro p; unfold cmpB; rw [less_irrefl]; simp
  have lt : ∀ p q, Op.bytesLess p q = true → cmpB p q = -1 := by intro p q h; unfold cmpB; rw [if_pos h]
  rcases le a b x with h | rfl
  ·rcases le b d y with k | rfl
   ·have := lt a d (less_trans a b d h k)
    omega
   ·have := lt a b h
    omega
  ·rcases le a d y with k | rfl
   ·have := lt a d k
    omega
   ·rw [self]; exact ⟨Int.le_refl _, fun _ => ⟨rfl, rfl⟩⟩
/-- Two whole numbers: -1, 0, 1. -/
def cmpI (x y : Int) : Int := if x < y then -1 else if x > y then 1 else 0
theorem Ord.ints : Ord cmpI where
 one a b := by unfold cmpI; split; simp; split <;> simp
 back a b := by unfold cmpI; split <;> split <;> (try split) <;> omega
 go a b d x y := by
  unfold cmpI at x y ⊢
  split at x <;> split at y <;> (try split at x) <;> (try split at y) <;> (first | omega | (split <;> (try split) <;> omega))
/-- The same, times a sign that is alike where it counts. -/
theorem Ord.signed {c : α → α → Int} (h : Ord c) (s : α → Int) (hs : ∀ a, s a = -1 ∨ s a = 0 ∨ s a = 1) : Ord (fun a b => orC (cmpI (s a) (s b)) (s a * c a b)) where
 one a b := by
  unfold orC
  split
  ·rcases hs a with e | e | e <;> rw [e] <;> have := h.one a b <;> omega
  ·exact Ord.ints.one _ _
 back a b := by
  simp only [orC]
  have h1 := Ord.ints.back (s a) (s b)
  have h2 := h.back a b
  by_cases e : cmpI (s a) (s b) = 0
  ·have e2 : s a = s b := by unfold cmpI at e; split at e; simp at e; split at e; simp at e; omega
   rw [if_pos e, if_pos (by omega), h2, ← e2, Int.mul_neg]
  ·rw [if_neg e, if_neg (by omega)]; exact h1
 go a b d x y := by
  simp only [orC] at x y ⊢
  have eq : ∀ p q, cmpI p q = 0 → p = q := by intro p q e; unfold cmpI at e; split at e; simp at e; split at e; simp at e; omega
  have lt : ∀ p q, cmpI p q ≤ 0 → ¬ cmpI p q = 0 → p < q := by intro p q e n; unfold cmpI at e n; split at e; assumption; split at e; simp at e; rename_i h1 h2; simp [h1, h2] at n
  have mk : ∀ p q : Int, p < q → cmpI p q = -1 := by intro p q e; unfold cmpI; rw [if_pos e]
  have mk0 : ∀ p : Int, cmpI p p = 0 := by intro p; unfold cmpI; simp
  by_cases h1 : cmpI (s a) (s b) = 0
  ·rw [if_pos h1] at x
   have e1 := eq _ _ h1
   by_cases h2 : cmpI (s b) (s d) = 0
   ·rw [if_pos h2] at y
    have e2 := eq _ _ h2
    have h3 : cmpI (s a) (s d) = 0 := by rw [e1, e2]; exact mk0 _
    rw [if_pos h1, if_pos h2, if_pos h3]
    rw [← e1] at y ⊢
    rcases hs a with e | e | e
    ·rw [e] at x y ⊢
     have := h.rev.go a b d (by omega) (by omega)
     omega
    ·rw [e]; simp
    ·rw [e] at x y ⊢
     have := h.go a b d (by omega) (by omega)
     omega
   ·rw [if_neg h2] at y
    have := lt _ _ y h2
    have := mk _ _ (show s a < s d by omega)
    rw [if_neg (by omega), if_neg h2]
    omega
  ·rw [if_neg h1] at x
   have l1 := lt _ _ x h1
   by_cases h2 : cmpI (s b) (s d) = 0
   ·have e2 := eq _ _ h2
    have := mk _ _ (show s a < s d by omega)
    rw [if_neg h1, if_neg (by omega)]
    omega
   ·rw [if_neg h2] at y
    have l2 := lt _ _ y h2
    have := mk _ _ (show s a < s d by omega)
    rw [if_neg h1, if_neg (by omega)]
    omega
end Go.Proofs.YtlicjpbmlmongaaGreatDoor.K
/- Keys of lines, over lists of bytes: where fields begin and end, the part by which a line compares, its number. -/
namespace Go.Proofs.YtlicjpbmlmongaaGreatDoor.K
def blankC (c : UInt8) : Bool := c == 32 || c == 9
def digitC (c : UInt8) : Bool := decide (48 ≤ c) && decide (c ≤ 57)
def upC (c : UInt8) : UInt8 := if 97 ≤ c ∧ c ≤ 122 then c - 32 else c
/-! ### where fields begin and end -/
def endsSep (c : UInt8) : List UInt8 → Nat → Nat → List (Nat × Nat)
 | [], a, p => [(a, p)]
 | x :: r, a, p => if x = c then (a, p) :: endsSep c r (p + 1) (p + 1) else endsSep c r a (p + 1)
def endsBl : List UInt8 → Nat → Nat → Bool → List (Nat × Nat)
 | [], a, p, _ => if a < p then [(a, p)] else []
 | x :: r, a, p, false => endsBl r a (p + 1) (!blankC x)
 | x :: r, a, p, true => if blankC x = true then (a, p) :: endsBl r p (p + 1) false else endsBl r a (p + 1) true
def endsOf (c : UInt8) (l : List UInt8) : List (Nat × Nat) := if c = 0 then endsBl l 0 0 false else endsSep c l 0 0
def shift (o : Nat) (ps : List (Nat × Nat)) : List (Nat × Nat) := ps.map fun q => (q.1 + o, q.2 + o)
theorem endsSep_shift (c : UInt8) (l : List UInt8) : ∀ a p o, endsSep c l (a + o) (p + o) = shift o (endsSep c l a p) := by
 induction l with
 | nil => intro a p o; simp [endsSep, shift]
 | cons x r ih =>
  intro a p o
  simp only [endsSep]
  have e : p + o + 1 = p + 1 + o := by omega
  split
  ·rw [e, ih]; simp [shift]
  ·rw [e, ih]
theorem endsBl_shift (l : List UInt8) : ∀ a p b o, endsBl l (a + o) (p + o) b = shift o (endsBl l a p b) := by
 induction l with
 | nil => intro a p b o; simp only [endsBl]; by_cases h : a < p <;> simp [shift, h]
 | cons x r ih =>
  intro a p b o
  have e : p + o + 1 = p + 1 + o := by omega
  cases b
  ·simp only [endsBl]; rw [e, ih]
  ·simp only [endsBl]
   split
   ·rw [e, ih]; simp [shift]
   ·rw [e, ih]
theorem endsSep_run (c : UInt8) (x r : List UInt8) (hx : ∀ d ∈ x, d ≠ c) : ∀ a p, endsSep c (x ++ r) a p = endsSep c r a (p + x.length) := by
 induction x with
 | nil => intro a p; rfl
 | cons d x ih =>
  intro a p
  simp only [List.cons_append, endsSep]
  rw [if_neg (hx d (by simp)), ih (fun e he => hx e (by simp [he]))]
  congr 1; simp; omega
theorem endsBl_blanks (b r : List UInt8) (hb : ∀ d ∈ b, blankC d = true) : ∀ a p, endsBl (b ++ r) a p false = endsBl r a (p + b.length) false := by
 induction b with
 | nil => intro a p; rfl
 | cons d b ih =>
  intro a p
  simp only [List.cons_append, endsBl]
  rw [hb d (by simp)]
  show endsBl (b ++ r) a (p + 1) false = _
  rw [ih (fun e he => hb e (by simp [he]))]
  congr 1; simp; omega
theorem endsBl_field (f r : List UInt8) (hf : ∀ d ∈ f, blankC d = false) : ∀ a p, endsBl (f ++ r) a p true = endsBl r a (p + f.length) true := by
 induction f with
 | nil => intro a p; rfl
 | cons d f ih =>
  intro a p
  simp only [List.cons_append, endsBl]
  rw [hf d (by simp)]
  show endsBl (f ++ r) a (p + 1) true = _
  rw [ih (fun e he => hf e (by simp [he]))]
  congr 1; simp; omega
/-! ### tiles: the fields of a line, with a gap between -/
def joinG (gap : List UInt8) : List (List UInt8) → List UInt8
 | [] => []
 | [x] => x
 | x :: y :: l => x ++ gap ++ joinG gap (y :: l)
def Tile (gap : List UInt8) : List (List UInt8) → List UInt8 → List (Nat × Nat) → Prop
 | [], l, ps => l = [] ∧ ps = []
 | [x], l, ps => l = x ∧ ps = [(0, x.length)]
 | x :: y :: fs, l, ps => ∃ r qs, l = x ++ gap ++ r ∧ ps = (0, x.length) :: shift (x.length + gap.length) qs ∧ Tile gap (y :: fs) r qs
theorem Tile.len {gap : List UInt8} : ∀ {fs : List (List UInt8)} {l : List UInt8} {ps : List (Nat × Nat)}, Tile gap fs l ps → ps.length = fs.length
 | [], _, _, h => by rw [h.2]; rfl
 | [_], _, _, h => by rw [h.2]; rfl
 | x :: y :: fs, _, _, ⟨r, qs, _, h2, h3⟩ => by rw [h2, List.length_cons, shift, List.length_map, h3.len]; rfl
theorem Tile.first {gap : List UInt8} : ∀ {fs : List (List UInt8)} {l : List UInt8} {ps : List (Nat × Nat)}, Tile gap fs l ps → ∀ q, ps[0]? = some q → q.1 = 0
 | [], _, _, h, q, e => by rw [h.2] at e; cases e
 | [_], _, _, h, q, e => by rw [h.2] at e; simp at e; rw [← e]
 | x :: y :: fs, _, _, ⟨r, qs, _, h2, h3⟩, q, e => by rw [h2] at e; simp at e; rw [← e]
theorem Tile.last {gap : List UInt8} : ∀ {fs : List (List UInt8)} {l : List UInt8} {ps : List (Nat × Nat)}, Tile gap fs l ps → ∀ q, ps[fs.length - 1]? = some q → q.2 = l.length
 | [], _, _, h, q, e => by rw [h.2] at e; cases e
 | [_], _, _, h, q, e => by rw [h.2] at e; simp at e; rw [← e, h.1]
 | x :: y :: fs, _, _, ⟨r, qs, h1, h2, h3⟩, q, e => by
  rw [h2] at e
  have e1 : (x :: y :: fs).length - 1 = ((y :: fs).length - 1) + 1 := by simp
  rw [e1, List.getElem?_cons_succ, shift, List.getElem?_map, Option.map_eq_some_iff] at e
  obtain ⟨q', hq, rfl⟩ := e
  have := h3.last q' hq
  rw [h1]; simp; omega
theorem Tile.cut {gap : List UInt8} : ∀ {fs : List (List UInt8)} {l : List UInt8} {ps : List (Nat × Nat)}, Tile gap fs l ps → ∀ k m, k ≤ m → m < fs.length →
  ∃ a b e f, ps[k]? = some (a, b) ∧ ps[m]? = some (e, f) ∧ a ≤ f ∧ f ≤ l.length ∧ (l.drop a).take (f - a) = joinG gap ((fs.drop k).take (m + 1 - k))
 | [], _, _, _, k, m, _, hm => absurd hm (Nat.not_lt_zero _)
 | [x], l, ps, h, k, m, hk, hm => by
  obtain ⟨h1, h2⟩ := h
  have hm0 : m = 0 := by simp at hm; exact hm
  subst hm0
  have hk0 : k = 0 := by omega
  subst hk0
  subst h1 h2
  exact ⟨0, l.length, 0, l.length, rfl, rfl, Nat.zero_le _, Nat.le_refl _, by simp [joinG]⟩
 | x :: y :: fs, l, ps, ⟨r, qs, h1, h2, h3⟩, k, m, hk, hm => by
  subst h1 h2
  have hl : (x ++ gap ++ r).length = x.length + gap.length + r.length := by simp; omega
  cases k with
  | zero =>
   cases m with
   | zero =>
    refine ⟨0, x.length, 0, x.length, rfl, rfl, Nat.zero_le _, by rw [hl]; omega, ?_⟩
    simp [joinG]
   | succ m =>
    obtain ⟨a, b, e, f, g1, g2, g3, g4, g5⟩ := h3.cut 0 m (Nat.zero_le _) (by simp at hm; simpa using hm)
    have ha := h3.first _ g1
    simp only at ha
    subst ha
    refine ⟨0, x.length, e + (x.length + gap.length), f + (x.length + gap.length), rfl, ?_, Nat.zero_le _, by rw [hl]; omega, ?_⟩
    ·rw [List.getElem?_cons_succ, shift, List.getElem?_map, g2]; rfl
    ·simp only [List.drop_zero, Nat.sub_zero] at g5 ⊢
     have e1 : f + (x.length + gap.length) = (x ++ gap).length + f := by simp; omega
     rw [e1, List.take_length_add_append, g5, List.take_succ_cons]
     rfl
  | succ k =>
   cases m with
   | zero => omega
   | succ m =>
    obtain ⟨a, b, e, f, g1, g2, g3, g4, g5⟩ := h3.cut k m (by omega) (by simp at hm; simpa using hm)
    refine ⟨a + (x.length + gap.length), b + (x.length + gap.length), e + (x.length + gap.length), f + (x.length + gap.length), ?_, ?_, by omega, by rw [hl]; omega, ?_⟩
    ·rw [List.getElem?_cons_succ, shift, List.getElem?_map, g1]; rfl
    ·rw [List.getElem?_cons_succ, shift, List.getElem?_map, g2]; rfl
    ·have e1 : a + (x.length + gap.length) = (x ++ gap).length + a := by simp; omega
     have e2 : f + (x.length + gap.length) - ((x ++ gap).length + a) = f - a := by simp; omega
     have e3 : m + 1 + 1 - (k + 1) = m + 1 - k := by omega
     rw [e1, List.drop_length_add_append, e2, List.drop_succ_cons, e3, g5]
/-- The part of a line by which it compares. -/
def nth (ps : List (Nat × Nat)) (k : Int) : Option (Nat × Nat) := if 1 ≤ k then ps[(k - 1).toNat]? else none
def beginOf (ps : List (Nat × Nat)) (f : Int) (z : Nat) : Nat := ((nth ps f).map (·.1)).getD z
def endOf (ps : List (Nat × Nat)) (t : Int) (z : Nat) : Nat := ((nth ps t).map (·.2)).getD z
def cutL (b e : Nat) (l : List UInt8) : List UInt8 := (l.drop b).take (max b e - b)
def keyP (ps : List (Nat × Nat)) (f t : Int) (l : List UInt8) : List UInt8 := cutL (beginOf ps f l.length) (endOf ps t l.length) l
/-- Of fields, those from f on up to t, with the gap between. -/
theorem Tile.key {gap : List UInt8} {fs : List (List UInt8)} {l : List UInt8} {ps : List (Nat × Nat)} (h : Tile gap fs l ps) (f t : Int) (hf : 1 ≤ f) (ht : t = 0 ∨ f ≤ t) :
  keyP ps f t l = joinG gap ((fs.drop (f - 1).toNat).take ((if t = 0 then fs.length else min t.toNat fs.length) - (f - 1).toNat)) := by
 have hlen := h.len
 unfold keyP beginOf endOf nth
 rw [if_pos hf]
 by_cases hk : (f - 1).toNat < fs.length
 ·have hm0 : fs.length - 1 < fs.length := by omega
  by_cases ht2 : t = 0 ∨ fs.length < t.toNat
  ·have hn : (if 1 ≤ t then ps[(t - 1).toNat]? else none) = none := by
    rcases ht2 with e | e
    ·rw [if_neg (by omega)]
    ·rw [if_pos (by omega), List.getElem?_eq_none (by omega)]
   have hz : (if t = 0 then fs.length else min t.toNat fs.length) = fs.length := by split <;> omega
   obtain ⟨a, b, e, g, g1, g2, g3, g4, g5⟩ := h.cut (f - 1).toNat (fs.length - 1) (by omega) hm0
   have hla := h.last _ g2
   simp only at hla
   subst hla
   rw [g1, hn, hz]
   simp only [Option.map_some, Option.map_none, Option.getD_some, Option.getD_none, cutL]
   rw [Nat.max_eq_right g3, g5]
   congr 2; omega
  ·have ht3 : 1 ≤ t ∧ t.toNat ≤ fs.length ∧ ¬ t = 0 := by omega
   obtain ⟨a, b, e, g, g1, g2, g3, g4, g5⟩ := h.cut (f - 1).toNat (t - 1).toNat (by omega) (by omega)
   rw [g1, if_pos ht3.1, g2, if_neg ht3.2.2]
   simp only [Option.map_some, Option.getD_some, cutL]
   rw [Nat.max_eq_right g3, g5]
   congr 2; omega
 ·rw [List.getElem?_eq_none (by omega), List.drop_eq_nil_of_le (by omega)]
  simp only [Option.map_none, Option.getD_none, cutL, List.drop_length, List.take_nil]
  rfl
/-! ### numbers -/
structure Num where
 sign : Int
 whole : List UInt8
 part : List UInt8
def trimR (p : UInt8 → Bool) (l : List UInt8) : List UInt8 := (l.reverse.dropWhile p).reverse
def wholeOf (l : List UInt8) : List UInt8 := (l.takeWhile digitC).dropWhile (· == 48)
def partOf (l : List UInt8) : List UInt8 := match l.dropWhile digitC with | 46 :: r => trimR (· == 48) (r.takeWhile digitC) | _ => []
def minusOf : List UInt8 → Bool × List UInt8
 | 45 :: r => (true, r)
 | l => (false, l)
def numL (l : List UInt8) : Num :=
 let m := minusOf (l.dropWhile blankC)
 ⟨if wholeOf m.2 = [] ∧ partOf m.2 = [] then 0 else if m.1 = true then -1 else 1, wholeOf m.2, partOf m.2⟩
theorem numL_sign (l : List UInt8) : (numL l).sign = -1 ∨ (numL l).sign = 0 ∨ (numL l).sign = 1 := by
 unfold numL; simp only; split; simp; split <;> simp
def cmpW (x y : Num) : Int := orC (cmpI x.whole.length y.whole.length) (orC (cmpB x.whole y.whole) (cmpB x.part y.part))
def cmpN (x y : Num) : Int := orC (cmpI x.sign y.sign) (x.sign * cmpW x y)
def numC (a b : List UInt8) : Int := cmpN (numL a) (numL b)
theorem Ord.num : Ord numC :=
 (Ord.signed (((Ord.ints.map (fun x : Num => (x.whole.length : Int))).or ((Ord.bytes.map Num.whole).or (Ord.bytes.map Num.part))).map numL) (fun l => (numL l).sign) numL_sign)
end Go.Proofs.YtlicjpbmlmongaaGreatDoor.K
/- How lines compare, over lists of bytes. -/
namespace Go.Proofs.YtlicjpbmlmongaaGreatDoor.K
def checkO (f t : Int) (c : UInt8) : Bool := decide (0 ≤ f ∧ f ≤ 1000 ∧ c ≠ 10 ∧ (t = 0 ∨ (0 < f ∧ f ≤ t ∧ t ≤ 1000)))
def keyO (f t : Int) (c : UInt8) (l : List UInt8) : List UInt8 := if checkO f t c = true then (if f = 0 then l else keyP (endsOf c l) f t l) else []
def upL (l : List UInt8) : List UInt8 := l.map upC
def fitL (bl fo : Bool) (l : List UInt8) : List UInt8 := if fo = true then upL (if bl = true then l.dropWhile blankC else l) else (if bl = true then l.dropWhile blankC else l)
def byO (nu fo bl : Bool) (x y : List UInt8) : Int := if nu = true then numC x y else cmpB (fitL bl fo x) (fitL bl fo y)
def cmpO (nu fo bl re : Bool) (f t : Int) (c : UInt8) (a b : List UInt8) : Int :=
 if checkO f t c = true then (if re = true then - byO nu fo bl (keyO f t c a) (keyO f t c b) else byO nu fo bl (keyO f t c a) (keyO f t c b)) else 0
theorem Ord.byO (nu fo bl : Bool) : Ord (byO nu fo bl) := by
 unfold K.byO
 cases nu
 ·exact Ord.bytes.map (fitL bl fo)
 ·exact Ord.num
theorem Ord.cmpO (nu fo bl re : Bool) (f t : Int) (c : UInt8) : Ord (cmpO nu fo bl re f t c) := by
 have h := (Ord.byO nu fo bl).map (keyO f t c)
 unfold K.cmpO
 cases checkO f t c
 ·exact Ord.zero
 ·cases re
  ·exact h
  ·exact h.rev
/-! ### letters -/
theorem upL_len (l : List UInt8) : (upL l).length = l.length := by simp [upL]
/-! ### where a key begins -/
end Go.Proofs.YtlicjpbmlmongaaGreatDoor.K
/- What a rune that is no ASCII one has read: bytes from 128 on. -/
namespace Go.Proofs.YtlicjpbmlmongaaGreatDoor.K
theorem get_pos (s : ByteArray) (j : Nat) (h : j < s.size) : s.get! j = s[j]'h := by
 simp [ByteArray.get!, getElem!_pos, h]
 rfl
theorem decode_bytes (s : ByteArray) (pos : Nat) (h : pos < s.size) (ha : 128 ≤ (s[pos]'h).toNat) :
  pos + (Utf8.decode s pos).2 ≤ s.size ∧ ∀ j, pos ≤ j → j < pos + (Utf8.decode s pos).2 → 128 ≤ (s.get! j).toNat := by
 have hn : ¬ (s[pos]'h).toNat < 128 := by omega
 have h0 : 128 ≤ (s.get! pos).toNat := by rw [get_pos s pos h]; exact ha
 have one : pos + 1 ≤ s.size ∧ ∀ j, pos ≤ j → j < pos + 1 → 128 ≤ (s.get! j).toNat := by
  refine ⟨by omega, fun j h1 h2 => ?_⟩
  obtain rfl : j = pos := by omega
  exact h0
 have cont : ∀ k, (decide (pos + k < s.size) && (s.get! (pos + k)).toNat / 64 == 2) = true → pos + k < s.size ∧ 128 ≤ (s.get! (pos + k)).toNat := by
  intro k hk
  simp only [Bool.and_eq_true, decide_eq_true_eq, beq_iff_eq] at hk
  omega
 simp only [Utf8.decode, get_at s pos h, hn, if_false]
 split
 ·rename_i h1
  rw [Bool.and_eq_true] at h1
  have c1 := cont 1 h1.2
  split
  ·refine ⟨by show pos + 2 ≤ _; omega, fun j h2 h3 => ?_⟩
   have h3' : j < pos + 2 := h3
   rcases (show j = pos ∨ j = pos + 1 by omega) with rfl | rfl
   ·exact h0
   ·exact c1.2
  ·exact one
 ·split
  ·rename_i h1
   simp only [Bool.and_eq_true] at h1
   have c1 := cont 1 (by simpa only [Bool.and_eq_true] using h1.1.2)
   have c2 := cont 2 (by simpa only [Bool.and_eq_true] using h1.2)
   split
   ·refine ⟨by show pos + 3 ≤ _; omega, fun j h2 h3 => ?_⟩
    have h3' : j < pos + 3 := h3
    rcases (show j = pos ∨ j = pos + 1 ∨ j = pos + 2 by omega) with rfl | rfl | rfl
    ·exact h0
    ·exact c1.2
    ·exact c2.2
   ·exact one
  ·split
   ·rename_i h1
    simp only [Bool.and_eq_true] at h1
    have c1 := cont 1 (by simpa only [Bool.and_eq_true] using h1.1.1.2)
    have c2 := cont 2 (by simpa only [Bool.and_eq_true] using h1.1.2)
    have c3 := cont 3 (by simpa only [Bool.and_eq_true] using h1.2)
    split
    ·refine ⟨by show pos + 4 ≤ _; omega, fun j h2 h3 => ?_⟩
     have h3' : j < pos + 4 := h3
     rcases (show j = pos ∨ j = pos + 1 ∨ j = pos + 2 ∨ j = pos + 3 by omega) with rfl | rfl | rfl | rfl
     ·exact h0
     ·exact c1.2
     ·exact c2.2
     ·exact c3.2
    ·exact one
   ·exact one
/-- None of the bytes of such a rune is an ASCII one that is looked for. -/
theorem noAny_rune (s : ByteArray) (chars : List UInt8) (hc : ∀ c ∈ chars, c.toNat < 128) (pos : Nat) (h : pos < s.size) (ha : 128 ≤ (s[pos]'h).toNat) (hn : Lib.NoAny s.data.toList chars pos) :
  Lib.NoAny s.data.toList chars (pos + (Utf8.decode s pos).2) := by
 intro j b hj hb
 by_cases h1 : j < pos
 ·exact hn j b h1 hb
 ·have hlt := (List.getElem?_eq_some_iff.1 hb).1
  have hjs : j < s.size := by rw [Array.length_toList] at hlt; exact hlt
  have h2 := (decode_bytes s pos h ha).2 j (by omega) hj
  rw [get_pos s j hjs] at h2
  have e : s[j] = b := (List.getElem?_eq_some_iff.1 hb).2
  rw [e] at h2
  cases hcb : chars.contains b
  ·rfl
  ·have := hc b (List.contains_iff_mem.1 hcb)
   omega
end Go.Proofs.YtlicjpbmlmongaaGreatDoor.K
/- One step along a line: where the next field ends, as the library tells it. -/
namespace Go.Proofs.YtlicjpbmlmongaaGreatDoor.K
theorem find_split (l : List UInt8) (c : UInt8) : (Lib.indexByte l c < 0 ∧ ∀ d ∈ l, d ≠ c) ∨ (∃ x r, l = x ++ c :: r ∧ (∀ d ∈ x, d ≠ c) ∧ Lib.indexByte l c = (x.length : Int)) := by
 induction l with
 | nil => left; exact ⟨by simp [Lib.indexByte], fun d hd => by cases hd⟩
 | cons b l ih =>
  by_cases hb : b = c
  ·right; subst hb; exact ⟨[], l, rfl, (fun d hd => by cases hd), by simp [Lib.indexByte]⟩
  ·have hbb : (b == c) = false := by simpa using hb
   rcases ih with ⟨h1, h2⟩ | ⟨x, r, rfl, h2, h3⟩
   ·left
    have h3 : Lib.indexByte l c = -1 := by have := Lib.indexByte_ge l c; omega
    refine ⟨by simp [Lib.indexByte, hbb, h3], fun d hd => ?_⟩
    rcases List.mem_cons.1 hd with rfl | h
    ·exact hb
    ·exact h2 d h
   ·right
    refine ⟨b :: x, r, rfl, fun d hd => ?_, ?_⟩
    ·rcases List.mem_cons.1 hd with rfl | h
     ·exact hb
     ·exact h2 d h
    ·simp only [Lib.indexByte, hbb, h3, Bool.false_eq_true, if_false]
     rw [if_neg (by simp)]
     simp
theorem sep_last (l : List UInt8) (c : UInt8) (h : Lib.indexByte l c < 0) (a : Nat) : endsSep c l a a = [(a, a + l.length)] := by
 rcases find_split l c with ⟨_, h2⟩ | ⟨x, r, _, _, h3⟩
 ·have := endsSep_run c l [] h2 a a
  rw [List.append_nil] at this
  rw [this]; rfl
 ·omega
theorem sep_next (l : List UInt8) (c : UInt8) (k : Nat) (h : Lib.indexByte l c = (k : Int)) (a : Nat) : endsSep c l a a = (a, a + k) :: endsSep c (l.drop (k + 1)) (a + (k + 1)) (a + (k + 1)) ∧ k < l.length := by
 rcases find_split l c with ⟨h1, _⟩ | ⟨x, r, rfl, h2, h3⟩
 ·omega
 ·have hk : x.length = k := by omega
  subst hk
  refine ⟨?_, by simp⟩
  rw [endsSep_run c x (c :: r) h2]
  have e : (x ++ c :: r).drop (x.length + 1) = r := by rw [List.drop_length_add_append]; rfl
  rw [e]
  simp only [endsSep, if_true]
  rfl
theorem idxAny_split (l : List UInt8) : (Lib.indexAny l [32, 9] < 0 ∧ ∀ d ∈ l, blankC d = false) ∨ (∃ x b r, l = x ++ b :: r ∧ (∀ d ∈ x, blankC d = false) ∧ blankC b = true ∧ Lib.indexAny l [32, 9] = (x.length : Int)) := by
 have hc : ∀ d : UInt8, ([32, 9] : List UInt8).contains d = blankC d := by
  intro d
  unfold blankC
  rw [Bool.eq_iff_iff]
  simp
 induction l with
 | nil => left; exact ⟨by simp [Lib.indexAny], fun d hd => by cases hd⟩
 | cons b l ih =>
  cases hb : blankC b with
  | true => right; exact ⟨[], b, l, rfl, (fun d hd => by cases hd), hb, by rw [Lib.indexAny, hc, hb]; rfl⟩
  | false =>
   have hcb := hc b
   rw [hb] at hcb
   rcases ih with ⟨h1, h2⟩ | ⟨x, b', r, rfl, h2, hb', h3⟩
   ·left
    have h3 : Lib.indexAny l [32, 9] = -1 := by have := Lib.indexAny_ge [32, 9] l; omega
    refine ⟨by rw [Lib.indexAny, hcb, h3]; simp, fun d hd => ?_⟩
    rcases List.mem_cons.1 hd with rfl | h
    ·exact hb
    ·exact h2 d h
   ·right
    refine ⟨b :: x, b', r, rfl, fun d hd => ?_, hb', ?_⟩
    ·rcases List.mem_cons.1 hd with rfl | h
     ·exact hb
     ·exact h2 d h
    ·rw [Lib.indexAny, hcb, h3, if_neg (by decide), if_neg (by simp)]
     simp
theorem trim_blanks (l : List UInt8) : Lib.trimLeftS l [32, 9] = l.dropWhile blankC := by
 unfold Lib.trimLeftS
 congr 1
 funext d
 unfold blankC
 rw [Bool.eq_iff_iff]
 simp
/-- How many bytes the first field by blanks has, with the blanks ahead of it. -/
def stepB (l : List UInt8) : Nat := (l.length - (l.dropWhile blankC).length) + (if Lib.indexAny (l.dropWhile blankC) [32, 9] < 0 then (l.dropWhile blankC).length else (Lib.indexAny (l.dropWhile blankC) [32, 9]).toNat)
theorem bl_step (l : List UInt8) (hl : l ≠ []) (a : Nat) : endsBl l a a false = (a, a + stepB l) :: endsBl (l.drop (stepB l)) (a + stepB l) (a + stepB l) false ∧ 1 ≤ stepB l ∧ stepB l ≤ l.length := by
 obtain ⟨b, y, rfl, hb, hy, hh⟩ : ∃ b y, l = b ++ y ∧ (∀ d ∈ b, blankC d = true) ∧ (b ++ y).dropWhile blankC = y ∧ ∀ c, y.head? = some c → blankC c = false := by
  refine ⟨l.takeWhile blankC, l.dropWhile blankC, List.takeWhile_append_dropWhile.symm, ?_, ?_, ?_⟩
  ·have := List.all_takeWhile (p := blankC) (l := l)
   rw [List.all_eq_true] at this
   exact this
  ·rw [List.takeWhile_append_dropWhile]
  ·intro c hc
   have := List.head?_dropWhile_not (p := blankC) (l := l)
   rw [hc] at this
   simpa using this
 have hs : stepB (b ++ y) = b.length + (if Lib.indexAny y [32, 9] < 0 then y.length else (Lib.indexAny y [32, 9]).toNat) := by
  unfold stepB
  rw [hy]; simp
 have hstart : ∀ (f r : List UInt8), y = f ++ r → (∀ d ∈ f, blankC d = false) → f ≠ [] → endsBl (b ++ y) a a false = endsBl r a (a + b.length + f.length) true := by
  intro f r e hf hne
  rw [endsBl_blanks b y hb]
  obtain ⟨d, f', rfl⟩ : ∃ d f', f = d :: f' := by cases f with | nil => exact absurd rfl hne | cons d f' => exact ⟨d, f', rfl⟩
  rw [e]
  show endsBl (d :: (f' ++ r)) a _ false = _
  simp only [endsBl]
  rw [hf d (by simp)]
  show endsBl (f' ++ r) a _ true = _
  rw [endsBl_field f' r (fun x hx => hf x (by simp [hx]))]
  congr 1; simp; omega
 rcases idxAny_split y with ⟨h1, h2⟩ | ⟨x, c, r, e, h2, hc, h3⟩
 ·rw [hs, if_pos h1]
  have hd : (b ++ y).drop (b.length + y.length) = [] := List.drop_eq_nil_of_le (by simp)
  rw [hd]
  have hz : endsBl [] (a + (b.length + y.length)) (a + (b.length + y.length)) false = [] := by simp [endsBl]
  rw [hz]
  have hpos : 0 < (b ++ y).length := List.length_pos_iff.2 hl
  simp only [List.length_append] at hpos
  refine ⟨?_, by omega, by simp⟩
  by_cases hyn : y = []
  ·subst hyn
   rw [endsBl_blanks b [] hb]
   simp only [endsBl, List.length_nil, Nat.add_zero]
   simp only [List.length_nil, Nat.add_zero] at hpos
   rw [if_pos (by omega)]
  ·rw [hstart y [] (by simp) h2 hyn]
   have hyp := List.length_pos_iff.2 hyn
   simp only [endsBl]
   rw [if_pos (by omega), Nat.add_assoc]
 ·have hx : x ≠ [] := by
   rintro rfl
   rw [e] at hh
   have := hh c rfl
   rw [hc] at this; cases this
  have hxp := List.length_pos_iff.2 hx
  rw [hs, if_neg (by omega), h3, Int.toNat_natCast, hstart x (c :: r) e h2 hx]
  have hd : (b ++ y).drop (b.length + x.length) = c :: r := by
   rw [e, ← List.append_assoc, List.drop_append_of_le_length (by simp), List.drop_eq_nil_of_le (by simp)]; rfl
  rw [hd]
  refine ⟨?_, by omega, by rw [e]; simp⟩
  simp only [endsBl]
  rw [hc]
  simp [Nat.add_assoc]
theorem ends_len (c : UInt8) (l : List UInt8) : (endsOf c l).length ≤ l.length + 1 := by
 have sep : ∀ (l : List UInt8) a p, (endsSep c l a p).length ≤ l.length + 1 := by
  intro l
  induction l with
  | nil => intro a p; simp [endsSep]
  | cons x r ih => intro a p; simp only [endsSep]; split <;> simp only [List.length_cons] <;> have := ih (p + 1) (p + 1) <;> have := ih a (p + 1) <;> omega
 have bl : ∀ (l : List UInt8) a p b, (endsBl l a p b).length ≤ l.length + 1 := by
  intro l
  induction l with
  | nil => intro a p b; simp only [endsBl]; split <;> simp
  | cons x r ih =>
   intro a p b
   cases b
   ·simp only [endsBl, List.length_cons]; have := ih a (p + 1) (!blankC x); omega
   ·simp only [endsBl]; split <;> simp only [List.length_cons] <;> have := ih p (p + 1) false <;> have := ih a (p + 1) true <;> omega
 unfold endsOf
 split
 ·exact bl _ _ _ _
 ·exact sep _ _ _
end Go.Proofs.YtlicjpbmlmongaaGreatDoor.K
/- Whole numbers and parts behind a point, told as texts: how they compare. -/
namespace Go.Proofs.YtlicjpbmlmongaaGreatDoor.K
/-- The digit of a number below ten. -/
def dg (n : Nat) : UInt8 := UInt8.ofNat (48 + n % 10)
/-- The digits of a number, without noughts ahead. -/
def wz (n : Nat) : List UInt8 := if h : n = 0 then [] else wz (n / 10) ++ [dg n]
decreasing_by omega
/-- The digits behind a point. -/
def tailPart : List UInt8 → List UInt8
 | 46 :: t => trimR (· == 48) (t.takeWhile digitC)
 | _ => []
theorem partOf_tail (l : List UInt8) : partOf l = tailPart (l.dropWhile digitC) := by unfold partOf tailPart; rfl
/-- What stands behind a whole number: no digit, and no part but noughts. -/
def TailOK (r : List UInt8) : Prop := (∀ c, r.head? = some c → digitC c = false) ∧ tailPart r = []
def sgn (n : Int) : Int := if n = 0 then 0 else if n < 0 then -1 else 1
def numOf (n : Int) : Num := ⟨sgn n, wz n.natAbs, []⟩
/-! ### parts behind the point -/
end Go.Proofs.YtlicjpbmlmongaaGreatDoor.K

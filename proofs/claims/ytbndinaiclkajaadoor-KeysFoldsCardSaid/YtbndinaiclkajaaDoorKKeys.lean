/- Keys of lines, over lists of bytes: where fields begin and end, the part by which a line compares, its number. -/
import Derived.Test.YtbndinaiclkajaaDoorKOrder
set_option linter.unusedVariables false
set_option linter.unusedSimpArgs false
namespace Go.Proofs.YtbndinaiclkajaaDoor.K

def blankC (c : UInt8) : Bool := c == 32 || c == 9
def digitC (c : UInt8) : Bool := decide (48 ≤ c) && decide (c ≤ 57)
def upC (c : UInt8) : UInt8 := if 97 ≤ c ∧ c ≤ 122 then c - 32 else c

/-! ### where fields begin and end -/
def endsSep (c : UInt8) : List UInt8 → Nat → Nat → List (Nat × Nat)
  | [], a, p => [(a, p)]
  | x :: r, a, p => if x = c then (a, p) :: endsSep c r (p + 1) (p + 1) else endsSep c r a (p + 1)
def endsBl : List UInt8 → Nat → Nat → Bool → List (Nat × Nat)
  | [], a, p, _ => if a < p then [(a, p)] else []
  | x :: r, a, p, false => endsBl r a (p + 1) (!blankC x)
  | x :: r, a, p, true => if blankC x = true then (a, p) :: endsBl r p (p + 1) false else endsBl r a (p + 1) true
def endsOf (c : UInt8) (l : List UInt8) : List (Nat × Nat) := if c = 0 then endsBl l 0 0 false else endsSep c l 0 0
def shift (o : Nat) (ps : List (Nat × Nat)) : List (Nat × Nat) := ps.map fun q => (q.1 + o, q.2 + o)
theorem endsSep_shift (c : UInt8) (l : List UInt8) : ∀ a p o, endsSep c l (a + o) (p + o) = shift o (endsSep c l a p) := by
  induction l with
  | nil => intro a p o; simp [endsSep, shift]
  | cons x r ih =>
    intro a p o
    simp only [endsSep]
    have e : p + o + 1 = p + 1 + o := by omega
    split
    · rw [e, ih]; simp [shift]
    · rw [e, ih]
theorem endsBl_shift (l : List UInt8) : ∀ a p b o, endsBl l (a + o) (p + o) b = shift o (endsBl l a p b) := by
  induction l with
  | nil => intro a p b o; simp only [endsBl]; by_cases h : a < p <;> simp [shift, h]
  | cons x r ih =>
    intro a p b o
    have e : p + o + 1 = p + 1 + o := by omega
    cases b
    · simp only [endsBl]; rw [e, ih]
    · simp only [endsBl]
      split
      · rw [e, ih]; simp [shift]
      · rw [e, ih]
theorem endsSep_run (c : UInt8) (x r : List UInt8) (hx : ∀ d ∈ x, d ≠ c) : ∀ a p, endsSep c (x ++ r) a p = endsSep c r a (p + x.length) := by
  induction x with
  | nil => intro a p; rfl
  | cons d x ih =>
    intro a p
    simp only [List.cons_append, endsSep]
    rw [if_neg (hx d (by simp)), ih (fun e he => hx e (by simp [he]))]
    congr 1; simp; omega
theorem endsBl_blanks (b r : List UInt8) (hb : ∀ d ∈ b, blankC d = true) : ∀ a p, endsBl (b ++ r) a p false = endsBl r a (p + b.length) false := by
  induction b with
  | nil => intro a p; rfl
  | cons d b ih =>
    intro a p
    simp only [List.cons_append, endsBl]
    rw [hb d (by simp)]
    show endsBl (b ++ r) a (p + 1) false = _
    rw [ih (fun e he => hb e (by simp [he]))]
    congr 1; simp; omega
theorem endsBl_field (f r : List UInt8) (hf : ∀ d ∈ f, blankC d = false) : ∀ a p, endsBl (f ++ r) a p true = endsBl r a (p + f.length) true := by
  induction f with
  | nil => intro a p; rfl
  | cons d f ih =>
    intro a p
    simp only [List.cons_append, endsBl]
    rw [hf d (by simp)]
    show endsBl (f ++ r) a (p + 1) true = _
    rw [ih (fun e he => hf e (by simp [he]))]
    congr 1; simp; omega

/-! ### tiles: the fields of a line, with a gap between -/
def joinG (gap : List UInt8) : List (List UInt8) → List UInt8
  | [] => []
  | [x] => x
  | x :: y :: l => x ++ gap ++ joinG gap (y :: l)
def Tile (gap : List UInt8) : List (List UInt8) → List UInt8 → List (Nat × Nat) → Prop
  | [], l, ps => l = [] ∧ ps = []
  | [x], l, ps => l = x ∧ ps = [(0, x.length)]
  | x :: y :: fs, l, ps => ∃ r qs, l = x ++ gap ++ r ∧ ps = (0, x.length) :: shift (x.length + gap.length) qs ∧ Tile gap (y :: fs) r qs
theorem Tile.join {gap : List UInt8} : ∀ {fs : List (List UInt8)} {l : List UInt8} {ps : List (Nat × Nat)}, Tile gap fs l ps → l = joinG gap fs
  | [], _, _, h => h.1
  | [_], _, _, h => h.1
  | x :: y :: fs, _, _, ⟨r, qs, h1, _, h3⟩ => by rw [h1, h3.join]; rfl
theorem Tile.len {gap : List UInt8} : ∀ {fs : List (List UInt8)} {l : List UInt8} {ps : List (Nat × Nat)}, Tile gap fs l ps → ps.length = fs.length
  | [], _, _, h => by rw [h.2]; rfl
  | [_], _, _, h => by rw [h.2]; rfl
  | x :: y :: fs, _, _, ⟨r, qs, _, h2, h3⟩ => by rw [h2, List.length_cons, shift, List.length_map, h3.len]; rfl
theorem Tile.first {gap : List UInt8} : ∀ {fs : List (List UInt8)} {l : List UInt8} {ps : List (Nat × Nat)}, Tile gap fs l ps → ∀ q, ps[0]? = some q → q.1 = 0
  | [], _, _, h, q, e => by rw [h.2] at e; cases e
  | [_], _, _, h, q, e => by rw [h.2] at e; simp at e; rw [← e]
  | x :: y :: fs, _, _, ⟨r, qs, _, h2, h3⟩, q, e => by rw [h2] at e; simp at e; rw [← e]
theorem Tile.last {gap : List UInt8} : ∀ {fs : List (List UInt8)} {l : List UInt8} {ps : List (Nat × Nat)}, Tile gap fs l ps → ∀ q, ps[fs.length - 1]? = some q → q.2 = l.length
  | [], _, _, h, q, e => by rw [h.2] at e; cases e
  | [_], _, _, h, q, e => by rw [h.2] at e; simp at e; rw [← e, h.1]
  | x :: y :: fs, _, _, ⟨r, qs, h1, h2, h3⟩, q, e => by
    rw [h2] at e
    have e1 : (x :: y :: fs).length - 1 = ((y :: fs).length - 1) + 1 := by simp
    rw [e1, List.getElem?_cons_succ, shift, List.getElem?_map, Option.map_eq_some_iff] at e
    obtain ⟨q', hq, rfl⟩ := e
    have := h3.last q' hq
    rw [h1]; simp; omega
theorem Tile.cut {gap : List UInt8} : ∀ {fs : List (List UInt8)} {l : List UInt8} {ps : List (Nat × Nat)}, Tile gap fs l ps → ∀ k m, k ≤ m → m < fs.length →
    ∃ a b e f, ps[k]? = some (a, b) ∧ ps[m]? = some (e, f) ∧ a ≤ f ∧ f ≤ l.length ∧ (l.drop a).take (f - a) = joinG gap ((fs.drop k).take (m + 1 - k))
  | [], _, _, _, k, m, _, hm => absurd hm (Nat.not_lt_zero _)
  | [x], l, ps, h, k, m, hk, hm => by
    obtain ⟨h1, h2⟩ := h
    have hm0 : m = 0 := by simp at hm; exact hm
    subst hm0
    have hk0 : k = 0 := by omega
    subst hk0
    subst h1 h2
    exact ⟨0, l.length, 0, l.length, rfl, rfl, Nat.zero_le _, Nat.le_refl _, by simp [joinG]⟩
  | x :: y :: fs, l, ps, ⟨r, qs, h1, h2, h3⟩, k, m, hk, hm => by
    subst h1 h2
    have hl : (x ++ gap ++ r).length = x.length + gap.length + r.length := by simp; omega
    cases k with
    | zero =>
      cases m with
      | zero =>
        refine ⟨0, x.length, 0, x.length, rfl, rfl, Nat.zero_le _, by rw [hl]; omega, ?_⟩
        simp [joinG]
      | succ m =>
        obtain ⟨a, b, e, f, g1, g2, g3, g4, g5⟩ := h3.cut 0 m (Nat.zero_le _) (by simp at hm; simpa using hm)
        have ha := h3.first _ g1
        simp only at ha
        subst ha
        refine ⟨0, x.length, e + (x.length + gap.length), f + (x.length + gap.length), rfl, ?_, Nat.zero_le _, by rw [hl]; omega, ?_⟩
        · rw [List.getElem?_cons_succ, shift, List.getElem?_map, g2]; rfl
        · simp only [List.drop_zero, Nat.sub_zero] at g5 ⊢
          have e1 : f + (x.length + gap.length) = (x ++ gap).length + f := by simp; omega
          rw [e1, List.take_length_add_append, g5, List.take_succ_cons]
          rfl
    | succ k =>
      cases m with
      | zero => omega
      | succ m =>
        obtain ⟨a, b, e, f, g1, g2, g3, g4, g5⟩ := h3.cut k m (by omega) (by simp at hm; simpa using hm)
        refine ⟨a + (x.length + gap.length), b + (x.length + gap.length), e + (x.length + gap.length), f + (x.length + gap.length), ?_, ?_, by omega, by rw [hl]; omega, ?_⟩
        · rw [List.getElem?_cons_succ, shift, List.getElem?_map, g1]; rfl
        · rw [List.getElem?_cons_succ, shift, List.getElem?_map, g2]; rfl
        · have e1 : a + (x.length + gap.length) = (x ++ gap).length + a := by simp; omega
          have e2 : f + (x.length + gap.length) - ((x ++ gap).length + a) = f - a := by simp; omega
          have e3 : m + 1 + 1 - (k + 1) = m + 1 - k := by omega
          rw [e1, List.drop_length_add_append, e2, List.drop_succ_cons, e3, g5]

/-- The part of a line by which it compares. -/
def nth (ps : List (Nat × Nat)) (k : Int) : Option (Nat × Nat) := if 1 ≤ k then ps[(k - 1).toNat]? else none
def beginOf (ps : List (Nat × Nat)) (f : Int) (z : Nat) : Nat := ((nth ps f).map (·.1)).getD z
def endOf (ps : List (Nat × Nat)) (t : Int) (z : Nat) : Nat := ((nth ps t).map (·.2)).getD z
def cutL (b e : Nat) (l : List UInt8) : List UInt8 := (l.drop b).take (max b e - b)
def keyP (ps : List (Nat × Nat)) (f t : Int) (l : List UInt8) : List UInt8 := cutL (beginOf ps f l.length) (endOf ps t l.length) l

/-- Of fields, those from f on up to t, with the gap between. -/
theorem Tile.key {gap : List UInt8} {fs : List (List UInt8)} {l : List UInt8} {ps : List (Nat × Nat)} (h : Tile gap fs l ps) (f t : Int) (hf : 1 ≤ f) (ht : t = 0 ∨ f ≤ t) :
    keyP ps f t l = joinG gap ((fs.drop (f - 1).toNat).take ((if t = 0 then fs.length else min t.toNat fs.length) - (f - 1).toNat)) := by
  have hlen := h.len
  unfold keyP beginOf endOf nth
  rw [if_pos hf]
  by_cases hk : (f - 1).toNat < fs.length
  · have hm0 : fs.length - 1 < fs.length := by omega
    by_cases ht2 : t = 0 ∨ fs.length < t.toNat
    · have hn : (if 1 ≤ t then ps[(t - 1).toNat]? else none) = none := by
        rcases ht2 with e | e
        · rw [if_neg (by omega)]
        · rw [if_pos (by omega), List.getElem?_eq_none (by omega)]
      have hz : (if t = 0 then fs.length else min t.toNat fs.length) = fs.length := by split <;> omega
      obtain ⟨a, b, e, g, g1, g2, g3, g4, g5⟩ := h.cut (f - 1).toNat (fs.length - 1) (by omega) hm0
      have hla := h.last _ g2
      simp only at hla
      subst hla
      rw [g1, hn, hz]
      simp only [Option.map_some, Option.map_none, Option.getD_some, Option.getD_none, cutL]
      rw [Nat.max_eq_right g3, g5]
      congr 2; omega
    · have ht3 : 1 ≤ t ∧ t.toNat ≤ fs.length ∧ ¬ t = 0 := by omega
      obtain ⟨a, b, e, g, g1, g2, g3, g4, g5⟩ := h.cut (f - 1).toNat (t - 1).toNat (by omega) (by omega)
      rw [g1, if_pos ht3.1, g2, if_neg ht3.2.2]
      simp only [Option.map_some, Option.getD_some, cutL]
      rw [Nat.max_eq_right g3, g5]
      congr 2; omega
  · rw [List.getElem?_eq_none (by omega), List.drop_eq_nil_of_le (by omega)]
    simp only [Option.map_none, Option.getD_none, cutL, List.drop_length, List.take_nil]
    rfl

/-! ### numbers -/
structure Num where
  sign : Int
  whole : List UInt8
  part : List UInt8
def trimR (p : UInt8 → Bool) (l : List UInt8) : List UInt8 := (l.reverse.dropWhile p).reverse
def wholeOf (l : List UInt8) : List UInt8 := (l.takeWhile digitC).dropWhile (· == 48)
def partOf (l : List UInt8) : List UInt8 := match l.dropWhile digitC with | 46 :: r => trimR (· == 48) (r.takeWhile digitC) | _ => []
def minusOf : List UInt8 → Bool × List UInt8
  | 45 :: r => (true, r)
  | l => (false, l)
def numL (l : List UInt8) : Num :=
  let m := minusOf (l.dropWhile blankC)
  ⟨if wholeOf m.2 = [] ∧ partOf m.2 = [] then 0 else if m.1 = true then -1 else 1, wholeOf m.2, partOf m.2⟩
theorem numL_sign (l : List UInt8) : (numL l).sign = -1 ∨ (numL l).sign = 0 ∨ (numL l).sign = 1 := by
  unfold numL; simp only; split; simp; split <;> simp
def cmpW (x y : Num) : Int := orC (cmpI x.whole.length y.whole.length) (orC (cmpB x.whole y.whole) (cmpB x.part y.part))
def cmpN (x y : Num) : Int := orC (cmpI x.sign y.sign) (x.sign * cmpW x y)
def numC (a b : List UInt8) : Int := cmpN (numL a) (numL b)
theorem Ord.num : Ord numC :=
  (Ord.signed (((Ord.ints.map (fun x : Num => (x.whole.length : Int))).or ((Ord.bytes.map Num.whole).or (Ord.bytes.map Num.part))).map numL) (fun l => (numL l).sign) numL_sign)
end Go.Proofs.YtbndinaiclkajaaDoor.K

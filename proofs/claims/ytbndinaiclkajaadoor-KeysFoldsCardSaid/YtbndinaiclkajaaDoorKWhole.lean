/- Whole numbers and parts behind a point, told as texts: how they compare. -/
import Derived.Test.YtbndinaiclkajaaDoorKCmp
set_option linter.unusedVariables false
set_option linter.unusedSimpArgs false
namespace Go.Proofs.YtbndinaiclkajaaDoor.K

theorem less_app_same (u v : List UInt8) : ∀ x y : List UInt8, x.length = y.length → Op.bytesLess x y = true → Op.bytesLess (x ++ u) (y ++ v) = true
  | [], [] => fun _ h => by simp [Op.bytesLess] at h
  | [], _ :: _ => fun h _ => by simp at h
  | _ :: _, [] => fun h _ => by simp at h
  | a :: x, b :: y => fun hl h => by
    simp only [Op.bytesLess, Bool.or_eq_true, decide_eq_true_eq, Bool.and_eq_true, beq_iff_eq] at h
    simp only [List.cons_append, Op.bytesLess, Bool.or_eq_true, decide_eq_true_eq, Bool.and_eq_true, beq_iff_eq]
    rcases h with h | ⟨rfl, h⟩
    · exact .inl h
    · exact .inr ⟨rfl, less_app_same u v x y (by simpa using hl) h⟩
theorem less_prefix (u v : List UInt8) : ∀ x : List UInt8, Op.bytesLess (x ++ u) (x ++ v) = Op.bytesLess u v
  | [] => rfl
  | a :: x => by simp [Op.bytesLess, less_prefix u v x, UInt8.lt_irrefl]

/-- The digit of a number below ten. -/
def dg (n : Nat) : UInt8 := UInt8.ofNat (48 + n % 10)
theorem dg_nat (n : Nat) : (dg n).toNat = 48 + n % 10 := by
  unfold dg
  rw [UInt8.toNat_ofNat_of_lt' (by show 48 + n % 10 < 256; omega)]
theorem dg_digit (n : Nat) : digitC (dg n) = true := by
  have := dg_nat n
  unfold digitC
  simp only [Bool.and_eq_true, decide_eq_true_eq, UInt8.le_iff_toNat_le]
  rw [this]
  exact ⟨by show 48 ≤ _; omega, by show _ ≤ 57; omega⟩
theorem dg_lt (a b : Nat) (h : a % 10 < b % 10) : dg a < dg b := by rw [UInt8.lt_iff_toNat_lt, dg_nat, dg_nat]; omega
theorem dg_zero (n : Nat) : dg n = 48 ↔ n % 10 = 0 := by
  rw [← UInt8.toNat_inj, dg_nat]
  show 48 + n % 10 = 48 ↔ _
  omega
/-- The digits of a number, without noughts ahead. -/
def wz (n : Nat) : List UInt8 := if h : n = 0 then [] else wz (n / 10) ++ [dg n]
decreasing_by omega
theorem wz_zero : wz 0 = [] := by rw [wz]; rfl
theorem wz_pos (n : Nat) (h : 0 < n) : wz n = wz (n / 10) ++ [dg n] := by rw [wz, dif_neg (by omega)]
theorem wz_len (n : Nat) (h : 0 < n) : (wz n).length = (wz (n / 10)).length + 1 := by rw [wz_pos n h]; simp
theorem wz_lt (n : Nat) : ∀ a b, a < b → b ≤ n → (wz a).length < (wz b).length ∨ ((wz a).length = (wz b).length ∧ Op.bytesLess (wz a) (wz b) = true) := by
  induction n with
  | zero => intro a b h k; omega
  | succ n ih =>
    intro a b h k
    have hb : 0 < b := by omega
    by_cases ha : a = 0
    · subst ha
      left
      rw [wz_zero, wz_len b hb]; simp
    · have ha' : 0 < a := by omega
      by_cases hd : a / 10 < b / 10
      · rcases ih (a / 10) (b / 10) hd (by omega) with h1 | ⟨h1, h2⟩
        · left; rw [wz_len a ha', wz_len b hb]; omega
        · right
          refine ⟨by rw [wz_len a ha', wz_len b hb]; omega, ?_⟩
          rw [wz_pos a ha', wz_pos b hb]
          exact less_app_same _ _ _ _ h1 h2
      · have e : a / 10 = b / 10 := by omega
        right
        refine ⟨by rw [wz_len a ha', wz_len b hb, e], ?_⟩
        rw [wz_pos a ha', wz_pos b hb, e, less_prefix]
        have := dg_lt a b (by omega)
        simp [Op.bytesLess, this]
theorem cmp_wz (a b : Nat) : orC (cmpI (wz a).length (wz b).length) (cmpB (wz a) (wz b)) = cmpI a b := by
  have lt : ∀ a b, a < b → orC (cmpI (wz a).length (wz b).length) (cmpB (wz a) (wz b)) = -1 := by
    intro a b h
    rcases wz_lt b a b h (Nat.le_refl _) with k | ⟨k, m⟩
    · have : cmpI (wz a).length (wz b).length = -1 := by unfold cmpI; rw [if_pos (by omega)]
      rw [this]; rfl
    · have : cmpI (wz a).length (wz b).length = 0 := by rw [k]; exact Ord.ints.self _
      rw [this]
      show cmpB _ _ = _
      unfold cmpB; rw [if_pos m]
  rcases Nat.lt_trichotomy a b with h | h | h
  · rw [lt a b h]; unfold cmpI; rw [if_pos (by omega)]
  · subst h
    rw [Ord.ints.self, Ord.ints.self]
    exact Ord.bytes.self _
  · have h1 := lt b a h
    have h2 := Ord.ints.back (wz a).length (wz b).length
    have h3 := Ord.bytes.back (wz a) (wz b)
    have h4 : cmpI (a : Int) b = 1 := by unfold cmpI; rw [if_neg (by omega), if_pos (by omega)]
    rw [h4]
    unfold orC at h1 ⊢
    split at h1 <;> split <;> omega
theorem wz_digits (n : Nat) : ∀ c ∈ wz n, digitC c = true := by
  induction n using Nat.strongRecOn with
  | _ n ih =>
    by_cases h : n = 0
    · subst h; rw [wz_zero]; intro c hc; cases hc
    · rw [wz_pos n (by omega)]
      intro c hc
      rcases List.mem_append.1 hc with k | k
      · exact ih (n / 10) (by omega) c k
      · simp at k; rw [k]; exact dg_digit n
theorem wz_head (n : Nat) : ∀ c, (wz n).head? = some c → c ≠ 48 := by
  induction n using Nat.strongRecOn with
  | _ n ih =>
    by_cases h : n = 0
    · subst h; rw [wz_zero]; intro c hc; cases hc
    · rw [wz_pos n (by omega)]
      intro c hc
      by_cases h0 : n / 10 = 0
      · rw [h0, wz_zero] at hc
        simp at hc
        rw [← hc]
        intro e
        have := (dg_zero n).1 e
        omega
      · have := wz_len (n / 10) (by omega)
        rw [List.head?_append, Option.or_of_isSome (by rw [Option.isSome_iff_ne_none]; intro e; rw [List.head?_eq_none_iff] at e; rw [e] at this; simp at this)] at hc
        exact ih (n / 10) (by omega) c hc
theorem drop_head (l : List UInt8) (p : UInt8 → Bool) (h : ∀ c, l.head? = some c → p c = false) : l.dropWhile p = l := by
  cases l with
  | nil => rfl
  | cons c l => rw [List.dropWhile_cons_of_neg]; rw [h c rfl]; decide
theorem take_all_app (p : UInt8 → Bool) (x r : List UInt8) (hx : ∀ c ∈ x, p c = true) (hr : ∀ c, r.head? = some c → p c = false) : (x ++ r).takeWhile p = x ∧ (x ++ r).dropWhile p = r := by
  induction x with
  | nil =>
    cases r with
    | nil => exact ⟨rfl, rfl⟩
    | cons c r =>
      have := hr c rfl
      exact ⟨by rw [List.nil_append, List.takeWhile_cons_of_neg (by rw [this]; decide)], by rw [List.nil_append, List.dropWhile_cons_of_neg (by rw [this]; decide)]⟩
  | cons a x ih =>
    obtain ⟨h1, h2⟩ := ih (fun c hc => hx c (by simp [hc]))
    have := hx a (by simp)
    exact ⟨by rw [List.cons_append, List.takeWhile_cons_of_pos this, h1], by rw [List.cons_append, List.dropWhile_cons_of_pos this, h2]⟩
theorem noughts_wz (k n : Nat) : (List.replicate k (48 : UInt8) ++ wz n).dropWhile (· == 48) = wz n :=
  (take_all_app (· == 48) (List.replicate k 48) (wz n) (fun c hc => by rw [(List.mem_replicate.1 hc).2]; rfl) (fun c hc => by rw [beq_eq_false_iff_ne]; exact wz_head n c hc)).2

/-- The digits behind a point. -/
def tailPart : List UInt8 → List UInt8
  | 46 :: t => trimR (· == 48) (t.takeWhile digitC)
  | _ => []
theorem partOf_tail (l : List UInt8) : partOf l = tailPart (l.dropWhile digitC) := by unfold partOf tailPart; rfl
/-- What stands behind a whole number: no digit, and no part but noughts. -/
def TailOK (r : List UInt8) : Prop := (∀ c, r.head? = some c → digitC c = false) ∧ tailPart r = []
/-- The number of a text: blanks, a sign, digits, and what is behind. -/
theorem num_told (b : List UInt8) (neg : Bool) (ds r : List UInt8) (hb : ∀ c ∈ b, blankC c = true) (hd : ∀ c ∈ ds, digitC c = true) (hne : ds ≠ []) (hr : ∀ c, r.head? = some c → digitC c = false) :
    numL (b ++ ((if neg = true then [45] else []) ++ (ds ++ r))) =
      ⟨if ds.dropWhile (· == 48) = [] ∧ tailPart r = [] then 0 else if neg = true then -1 else 1,
       ds.dropWhile (· == 48), tailPart r⟩ := by
  obtain ⟨d, ds', rfl⟩ : ∃ d ds', ds = d :: ds' := by cases ds with | nil => exact absurd rfl hne | cons d l => exact ⟨d, l, rfl⟩
  have hdd := hd d (by simp)
  have hnb : blankC d = false := by
    unfold digitC at hdd
    simp only [Bool.and_eq_true, decide_eq_true_eq] at hdd
    unfold blankC
    rw [Bool.or_eq_false_iff, beq_eq_false_iff_ne, beq_eq_false_iff_ne]
    refine ⟨fun e => ?_, fun e => ?_⟩ <;> subst e <;> exact absurd hdd.1 (by decide)
  have hn45 : d ≠ 45 := by
    intro e; subst e; revert hdd; decide
  have h1 : (b ++ ((if neg = true then [45] else []) ++ ((d :: ds') ++ r))).dropWhile blankC = (if neg = true then [45] else []) ++ ((d :: ds') ++ r) := by
    refine (take_all_app blankC b _ hb ?_).2
    intro c hc
    cases neg
    · simp at hc; rw [← hc]; exact hnb
    · simp at hc; rw [← hc]; rfl
  have h2 : minusOf ((if neg = true then [45] else []) ++ ((d :: ds') ++ r)) = (neg, (d :: ds') ++ r) := by
    cases neg
    · show minusOf (d :: (ds' ++ r)) = _
      unfold minusOf; split
      · rename_i e; injection e with e1 e2; exact absurd e1 hn45
      · rfl
    · rfl
  obtain ⟨h3, h4⟩ := take_all_app digitC (d :: ds') r hd hr
  unfold numL
  simp only
  rw [h1, h2]
  rw [partOf_tail]
  unfold wholeOf
  rw [h3, h4]
theorem cmpW_whole (a b : Nat) (s t : Int) : cmpW ⟨s, wz a, []⟩ ⟨t, wz b, []⟩ = cmpI a b := by
  unfold cmpW
  show orC (cmpI _ _) (orC (cmpB (wz a) (wz b)) (cmpB [] [])) = _
  have : orC (cmpB (wz a) (wz b)) (cmpB [] []) = cmpB (wz a) (wz b) := by
    unfold orC; split
    · rename_i h; rw [h]; rfl
    · rfl
  rw [this, cmp_wz]
def sgn (n : Int) : Int := if n = 0 then 0 else if n < 0 then -1 else 1
def numOf (n : Int) : Num := ⟨sgn n, wz n.natAbs, []⟩
theorem cmpN_whole (n m : Int) : cmpN (numOf n) (numOf m) = cmpI n m := by
  unfold cmpN numOf
  rw [cmpW_whole]
  show orC (cmpI (sgn n) (sgn m)) (sgn n * cmpI (n.natAbs : Int) (m.natAbs : Int)) = _
  unfold sgn
  by_cases h1 : n = 0
  · subst h1
    by_cases h2 : m = 0
    · subst h2; rfl
    · rw [if_pos rfl, if_neg h2]
      by_cases h3 : m < 0
      · rw [if_pos h3]; unfold cmpI orC; simp; omega
      · rw [if_neg h3]; unfold cmpI orC; simp; omega
  · rw [if_neg h1]
    by_cases h2 : m = 0
    · subst h2
      rw [if_pos rfl]
      by_cases h3 : n < 0
      · rw [if_pos h3]; unfold cmpI orC; simp; omega
      · rw [if_neg h3]; unfold cmpI orC; simp; omega
    · rw [if_neg h2]
      by_cases h3 : n < 0 <;> by_cases h4 : m < 0
      · rw [if_pos h3, if_pos h4, Ord.ints.self]
        show -1 * cmpI _ _ = _
        unfold cmpI
        split <;> split <;> (try split) <;> (try split) <;> omega
      · rw [if_pos h3, if_neg h4]; unfold cmpI orC; simp; omega
      · rw [if_neg h3, if_pos h4]; unfold cmpI orC; simp; omega
      · rw [if_neg h3, if_neg h4, Ord.ints.self]
        show 1 * cmpI _ _ = _
        unfold cmpI
        split <;> split <;> (try split) <;> (try split) <;> omega
theorem wz_nil (n : Nat) : wz n = [] ↔ n = 0 := by
  constructor
  · intro h
    rcases Nat.eq_zero_or_pos n with k | k
    · exact k
    · have := wz_len n k; rw [h] at this; simp at this
  · rintro rfl; exact wz_zero
/-- A whole number, however it is told. -/
theorem num_whole (b : List UInt8) (n : Int) (k : Nat) (ds r : List UInt8) (hb : ∀ c ∈ b, blankC c = true) (hds : ds = List.replicate k 48 ++ (if n = 0 then [48] else wz n.natAbs)) (hr : TailOK r) :
    numL (b ++ ((if decide (n < 0) = true then [45] else []) ++ (ds ++ r))) = numOf n := by
  have hd : ∀ c ∈ ds, digitC c = true := by
    intro c hc
    rw [hds] at hc
    rcases List.mem_append.1 hc with h | h
    · rw [(List.mem_replicate.1 h).2]; rfl
    · split at h
      · simp at h; rw [h]; rfl
      · exact wz_digits _ c h
  have hne : ds ≠ [] := by
    rw [hds]
    split
    · simp
    · rename_i h
      intro e
      have := (List.append_eq_nil_iff.1 e).2
      rw [wz_nil] at this
      omega
  have hs : ds.dropWhile (· == 48) = wz n.natAbs := by
    rw [hds]
    split
    · rename_i h
      subst h
      have : List.replicate k (48 : UInt8) ++ [48] = List.replicate (k + 1) 48 ++ wz 0 := by rw [wz_zero, List.append_nil, List.replicate_succ']
      rw [this]; exact noughts_wz (k + 1) 0
    · exact noughts_wz k _
  rw [num_told b (decide (n < 0)) ds r hb hd hne hr.1, hs, hr.2]
  unfold numOf sgn
  congr 1
  by_cases h : n = 0
  · subst h; rw [if_pos ⟨(wz_nil _).2 rfl, rfl⟩, if_pos rfl]
  · rw [if_neg (fun e => h (by have := (wz_nil _).1 e.1; omega)), if_neg h]
    simp

/-! ### parts behind the point -/
theorem trimR_snoc (x : List UInt8) (c : UInt8) : trimR (· == 48) (x ++ [c]) = if c = 48 then trimR (· == 48) x else x ++ [c] := by
  unfold trimR
  rw [List.reverse_append]
  show ((c :: x.reverse).dropWhile _).reverse = _
  by_cases h : c = 48
  · rw [if_pos h, List.dropWhile_cons_of_pos (by simp [h])]
  · rw [if_neg h, List.dropWhile_cons_of_neg (by simpa using h)]
    simp
/-- Noughts behind turn nothing, of parts as long. -/
theorem cmp_trim (n : Nat) : ∀ x y : List UInt8, x.length = n → y.length = n → (∀ c ∈ x, 48 ≤ c) → (∀ c ∈ y, 48 ≤ c) → cmpB (trimR (· == 48) x) (trimR (· == 48) y) = cmpB x y := by
  have pre : ∀ (a b : UInt8) (x y : List UInt8), trimR (· == 48) (a :: x) = (if a = 48 ∧ trimR (· == 48) x = [] then [] else a :: trimR (· == 48) x) := by
    intro a _ x _
    unfold trimR
    rw [List.reverse_cons, List.dropWhile_append]
    by_cases h : x.reverse.dropWhile (· == 48) = []
    · rw [h]
      simp only [List.isEmpty_nil, if_true, List.reverse_nil]
      by_cases ha : a = 48
      · subst ha; simp
      · rw [List.dropWhile_cons_of_neg (by simpa using ha)]; simp [ha]
    · have : (x.reverse.dropWhile (· == 48)).isEmpty = false := by simpa using h
      rw [this]
      simp only [Bool.false_eq_true, if_false, List.reverse_append, List.reverse_cons, List.reverse_nil, List.nil_append]
      rw [if_neg]
      · rfl
      · rintro ⟨_, e⟩; exact h (List.reverse_eq_nil_iff.1 e)
  have cons : ∀ (a : UInt8) (x y : List UInt8), cmpB (a :: x) (a :: y) = cmpB x y := by
    intro a x y
    unfold cmpB
    have e : ∀ u v : List UInt8, Op.bytesLess (a :: u) (a :: v) = Op.bytesLess u v := fun u v => less_prefix u v [a]
    rw [e, e]
  have ne : ∀ (a b : UInt8) (x y : List UInt8), a < b → cmpB (a :: x) (b :: y) = -1 := by
    intro a b x y h
    unfold cmpB
    rw [if_pos (by simp [Op.bytesLess, h])]
  have nil : ∀ (a : UInt8) (x : List UInt8), cmpB [] (a :: x) = -1 := by intro a x; rfl
  induction n with
  | zero =>
    intro x y hx hy _ _
    rw [List.length_eq_zero_iff.1 hx, List.length_eq_zero_iff.1 hy]; rfl
  | succ n ih =>
    intro x y hx hy h1 h2
    obtain ⟨a, x, rfl⟩ : ∃ a t, x = a :: t := by cases x with | nil => simp at hx | cons a t => exact ⟨a, t, rfl⟩
    obtain ⟨b, y, rfl⟩ : ∃ a t, y = a :: t := by cases y with | nil => simp at hy | cons a t => exact ⟨a, t, rfl⟩
    have hi := ih x y (by simpa using hx) (by simpa using hy) (fun c hc => h1 c (by simp [hc])) (fun c hc => h2 c (by simp [hc]))
    have lt : ∀ (a b : UInt8) (x y : List UInt8), 48 ≤ a → a < b → cmpB (trimR (· == 48) (a :: x)) (trimR (· == 48) (b :: y)) = -1 := by
      intro a b x y ha hab
      rw [pre a b x y, pre b a y x]
      have hb : ¬ (b = 48 ∧ trimR (· == 48) y = []) := fun e => by
        rw [e.1] at hab
        have h1 := UInt8.lt_iff_toNat_lt.1 hab
        have h2 := UInt8.le_iff_toNat_le.1 ha
        omega
      rw [if_neg hb]
      split
      · exact nil _ _
      · exact ne _ _ _ _ hab
    by_cases e : a = b
    · subst e
      rw [cons, ← hi, pre a a x y, pre a a y x]
      by_cases p : a = 48 ∧ trimR (· == 48) x = []
      · by_cases q : a = 48 ∧ trimR (· == 48) y = []
        · rw [if_pos p, if_pos q, p.2, q.2]
        · rw [if_pos p, if_neg q, p.2]
          cases h : trimR (· == 48) y with
          | nil => exact absurd ⟨p.1, h⟩ q
          | cons c t => rw [nil, nil]
      · by_cases q : a = 48 ∧ trimR (· == 48) y = []
        · rw [if_neg p, if_pos q, q.2]
          cases h : trimR (· == 48) x with
          | nil => exact absurd ⟨q.1, h⟩ p
          | cons c t => rfl
        · rw [if_neg p, if_neg q, cons]
    · rcases UInt8.lt_or_lt_of_ne e with k | k
      · rw [lt a b x y (h1 a (by simp)) k, ne a b x y k]
      · have r1 := Ord.bytes.back (trimR (· == 48) (b :: y)) (trimR (· == 48) (a :: x))
        have r2 := Ord.bytes.back (b :: y) (a :: x)
        rw [r1, r2, lt b a y x (h2 b (by simp)) k, ne b a y x k]
/-- Two numbers with the same whole part. -/
theorem cmp_parted (neg : Bool) (w : List UInt8) (p q : List UInt8) :
    cmpN ⟨if w = [] ∧ p = [] then 0 else if neg = true then -1 else 1, w, p⟩ ⟨if w = [] ∧ q = [] then 0 else if neg = true then -1 else 1, w, q⟩ = if neg = true then - cmpB p q else cmpB p q := by
  have hw : ∀ s t, cmpW ⟨s, w, p⟩ ⟨t, w, q⟩ = cmpB p q := by
    intro s t
    unfold cmpW
    show orC (cmpI _ _) (orC (cmpB w w) (cmpB p q)) = _
    rw [Ord.ints.self, Ord.bytes.self]; rfl
  unfold cmpN
  rw [hw]
  simp only
  by_cases h : w = []
  · subst h
    cases p with
    | nil =>
      cases q with
      | nil => simp; cases neg <;> rfl
      | cons a q => simp; cases neg <;> rfl
    | cons b p =>
      cases q with
      | nil => simp; cases neg <;> rfl
      | cons a q =>
        simp only [List.cons_ne_nil, and_false, if_false]
        rw [Ord.ints.self]
        show _ * _ = _
        cases neg <;> simp
  · have h1 : ∀ l : List UInt8, ¬ (w = [] ∧ l = []) := fun l e => h e.1
    rw [if_neg (h1 p), if_neg (h1 q), Ord.ints.self]
    show _ * _ = _
    cases neg <;> simp
end Go.Proofs.YtbndinaiclkajaaDoor.K

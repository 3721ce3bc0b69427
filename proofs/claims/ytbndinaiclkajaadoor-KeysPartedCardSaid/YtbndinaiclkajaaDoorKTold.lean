/- What law05.digits answers: the digits of a number. -/
import Derived.Test.YtbndinaiclkajaaDoorQx23
import Derived.Test.YtbndinaiclkajaaDoorKKey
set_option linter.unusedVariables false
set_option linter.unusedSectionVars false
namespace Go.Proofs.YtbndinaiclkajaaDoor.K
open Go.RowKit Go.Proofs.YtbndinaiclkajaaDoor.H Go.Proofs.YtbndinaiclkajaaDoorW.PrintWords
theorem wrapU (n : Nat) (h : n < 18446744073709551616) : IntKind.u64.wrap (n : Int) = (n : Int) := by
  have e : IntKind.u64.wrap (n : Int) = (n : Int) % 18446744073709551616 := rfl
  rw [e]; omega
theorem tmod10 (n m : Nat) : Int.tmod (n : Int) (m : Int) = ((n % m : Nat) : Int) := rfl
theorem tdiv10 (n m : Nat) : Int.tdiv (n : Int) (m : Int) = ((n / m : Nat) : Int) := rfl
theorem digit_cut (d : Nat) (h : d < 10) : (⟨#[48, 49, 50, 51, 52, 53, 54, 55, 56, 57]⟩ : ByteArray).extract d (d + 1) = bs [dg d] := by
  rw [extract_bs, show d + 1 - d = 1 by omega]
  have e : ∀ i : Fin 10, (([48, 49, 50, 51, 52, 53, 54, 55, 56, 57] : List UInt8).drop i.val).take 1 = [dg i.val] := by decide
  exact congrArg bs (e ⟨d, h⟩)
theorem dg_mod (n : Nat) : dg (n % 10) = dg n := by unfold dg; rw [Nat.mod_mod]
theorem bs_cat (a b : List UInt8) : bs a ++ bs b = bs (a ++ b) := by
  have e : (bs a ++ bs b).data.toList = a ++ b := by rw [ByteArray.data_append, Array.toList_append, bs_toList, bs_toList]
  rw [← bs_of (bs a ++ bs b), e]
theorem dig_loop : ∀ j n : Nat, n < 10 ^ (j + 1) → j ≤ 19 → n < 18446744073709551616 → ∀ acc : List UInt8, acc.length + j ≤ 100 → ∃ k, Q.toolchestlaw05_digits.l0 k (n : Int) (bs acc) = some (bs (wz (n / 10) ++ acc)) := by
  intro j
  have base : ∀ n : Nat, n < 10 → ∀ acc : List UInt8, ∃ k, Q.toolchestlaw05_digits.l0 k (n : Int) (bs acc) = some (bs (wz (n / 10) ++ acc)) := by
    intro n h acc
    refine ⟨1, ?_⟩
    rw [Q.toolchestlaw05_digits.l0, if_neg (by omega), show n / 10 = 0 by omega, wz_zero]
    rfl
  induction j with
  | zero => intro n h _ _ acc _; exact base n (by simpa using h) acc
  | succ j ih =>
    intro n hp hj hn acc ha
    by_cases h : n < 10
    · exact base n h acc
    · have hq : n / 10 < 10 ^ (j + 1) := by rw [Nat.pow_succ] at hp; omega
      obtain ⟨k, hk⟩ := ih (n / 10) hq (by omega) (by omega) (dg (n / 10) :: acc) (by simp; omega)
      refine ⟨k + 1, ?_⟩
      have e1 : Int.tdiv (n : Int) 10 = ((n / 10 : Nat) : Int) := rfl
      have e2 : Int.tmod ((n / 10 : Nat) : Int) 10 = ((n / 10 % 10 : Nat) : Int) := rfl
      have e3 : (((n / 10 % 10 : Nat) : Int) + 1) = ((n / 10 % 10 + 1 : Nat) : Int) := rfl
      rw [Q.toolchestlaw05_digits.l0, if_pos (by omega), e1, wrapU _ (by omega), e2, e3, wrapU _ (by omega), if_pos (by omega), if_pos (by omega), if_pos (by omega), Int.toNat_natCast, Int.toNat_natCast,
        digit_cut _ (by omega), dg_mod, if_pos (by rw [bs_size, bs_size]; simp; omega), bs_cat]
      rw [wz_pos (n / 10) (by omega), List.append_assoc]
      exact hk
theorem digits_told (n : Nat) (hn : n < 18446744073709551616) : ∃ k, Q.toolchestlaw05_digits.f k (n : Int) = some (bs (if n = 0 then [48] else wz n)) := by
  obtain ⟨k, hk⟩ := dig_loop 19 n (by omega) (Nat.le_refl _) hn [dg n] (by simp)
  refine ⟨k, ?_⟩
  have e2 : Int.tmod (n : Int) 10 = ((n % 10 : Nat) : Int) := rfl
  have e3 : (((n % 10 : Nat) : Int) + 1) = ((n % 10 + 1 : Nat) : Int) := rfl
  unfold Q.toolchestlaw05_digits.f
  rw [e2, e3, wrapU _ (by omega), if_pos (by omega), if_pos (by omega), if_pos (by omega), Int.toNat_natCast, Int.toNat_natCast, digit_cut _ (by omega), dg_mod, hk]
  by_cases h : n = 0
  · rw [if_pos h, h]; rw [show (0 : Nat) / 10 = 0 by omega, wz_zero]; rfl
  · rw [if_neg h, ← wz_pos n (by omega)]
/-! ### law05.told -/
theorem wrap_ct (i : Nat) (h : i ≤ 1000000) : wrap64 ((i : Int) + 1) = ((i + 1 : Nat) : Int) := by unfold wrap64; omega
theorem zero_cat (x : List UInt8) (c : UInt8) : (⟨#[c]⟩ : ByteArray) ++ bs x = bs (c :: x) := by
  rw [show (⟨#[c]⟩ : ByteArray) = bs [c] from rfl, bs_cat]; rfl
theorem cat_zero (x : List UInt8) (c : UInt8) : bs x ++ (⟨#[c]⟩ : ByteArray) = bs (x ++ [c]) := by
  rw [show (⟨#[c]⟩ : ByteArray) = bs [c] from rfl, bs_cat]
theorem told_ahead (n a b c d : Int) (p : Bool) (m : Nat) (hm : wrap64 (Int.tmod a 30) = (m : Int)) (hm2 : m ≤ 30) (v : ByteArray) : ∀ j i (x : List UInt8), i + j = m → x.length + j ≤ 1000 →
    (∃ k, (if n < 0 then (if 1 + (bs (List.replicate j 48 ++ x)).size ≤ 9223372036854775807 then Q.toolchestlaw05_told.j1 k ((⟨#[45]⟩ : ByteArray) ++ bs (List.replicate j 48 ++ x)) a b c d p else none) else Q.toolchestlaw05_told.j1 k (bs (List.replicate j 48 ++ x)) a b c d p) = some v) →
    ∃ k, Q.toolchestlaw05_told.l0 k n (bs x) (i : Int) a b c d p = some v := by
  intro j
  induction j with
  | zero =>
    intro i x hi hx ⟨k, hk⟩
    refine ⟨k + 1, ?_⟩
    rw [Q.toolchestlaw05_told.l0, hm, if_neg (by omega)]
    simpa using hk
  | succ j ih =>
    intro i x hi hx ⟨k, hk⟩
    have e : List.replicate (j + 1) (48 : UInt8) ++ x = List.replicate j 48 ++ (48 :: x) := by
      rw [List.replicate_succ', List.append_assoc]; rfl
    rw [e] at hk
    obtain ⟨k', hk'⟩ := ih (i + 1) (48 :: x) (by omega) (by simp; omega) ⟨k, hk⟩
    refine ⟨k' + 1, ?_⟩
    rw [Q.toolchestlaw05_told.l0, hm, if_pos (by omega), if_pos (by rw [bs_size]; omega), zero_cat, wrap_ct i (by omega)]
    exact hk'
/-- The ends that a number may be told with. -/
def endB : List ByteArray := [(⟨#[]⟩ : ByteArray), (⟨#[120]⟩ : ByteArray), (⟨#[32, 57]⟩ : ByteArray), (⟨#[45]⟩ : ByteArray), (⟨#[46, 53, 46]⟩ : ByteArray), (⟨#[10]⟩ : ByteArray)]
def endL (e : Nat) : List UInt8 := [[], [120], [32, 57], [45], [46, 53, 46], [10]].getD e []
theorem end_rd (e : Nat) (h : e < 6) : rdOf ByteArray.empty endB (e : Int) = bs (endL e) := by
  have : e = 0 ∨ e = 1 ∨ e = 2 ∨ e = 3 ∨ e = 4 ∨ e = 5 := by omega
  rcases this with rfl | rfl | rfl | rfl | rfl | rfl <;> rfl
theorem end_len (e : Nat) : (endL e).length ≤ 3 := by
  unfold endL
  match e with
  | 0 | 1 | 2 | 3 | 4 | 5 => decide
  | e + 6 => exact Nat.zero_le _
theorem told_end (d : Int) (e : Nat) (he : Int.tmod d 6 = (e : Int)) (he6 : e < 6) (x : List UInt8) (hx : x.length ≤ 2000) :
    ((some endB).bind fun y => (if 0 ≤ (Int.tmod d 6) then (if (Int.tmod d 6) < (y.length : Int) then (if (bs x).size + (rdOf ByteArray.empty y (Int.tmod d 6)).size ≤ 9223372036854775807 then (some ((bs x) ++ (rdOf ByteArray.empty y (Int.tmod d 6)))) else (none)) else (none)) else (none))) = some (bs (x ++ endL e)) := by
  have hl := end_len e
  rw [Option.bind_some, he, if_pos (by omega), if_pos (by show (e : Int) < 6; omega), end_rd e he6, if_pos (by rw [bs_size, bs_size]; omega), bs_cat]
theorem told_behind (a b c d : Int) (p : Bool) (m : Nat) (hm : wrap64 (Int.tmod b 30) = (m : Int)) (hm2 : m ≤ 30) (e : Nat) (he : Int.tmod d 6 = (e : Int)) (he6 : e < 6) : ∀ j i (x : List UInt8), i + j = m → x.length + j ≤ 1500 →
    ∃ k, Q.toolchestlaw05_told.l2 k (bs x) (i : Int) a b c d p = some (bs (x ++ List.replicate j 48 ++ endL e)) := by
  intro j
  induction j with
  | zero =>
    intro i x hi hx
    refine ⟨1, ?_⟩
    rw [Q.toolchestlaw05_told.l2, hm, if_neg (by omega)]
    have := told_end d e he he6 x (by omega)
    unfold endB at this
    rw [this]
    simp
  | succ j ih =>
    intro i x hi hx
    obtain ⟨k, hk⟩ := ih (i + 1) (x ++ [48]) (by omega) (by simp; omega)
    refine ⟨k + 1, ?_⟩
    rw [Q.toolchestlaw05_told.l2, hm, if_pos (by omega), if_pos (by rw [bs_size]; omega), cat_zero, wrap_ct i (by omega), hk]
    simp [List.replicate_succ]
theorem told_blanks (a b c d : Int) (p : Bool) (m : Nat) (hm : wrap64 (Int.tmod c 5) = (m : Int)) (hm2 : m ≤ 5) (q : Nat) (hq : wrap64 (Int.tmod b 30) = (q : Int)) (hq2 : q ≤ 30) (e : Nat) (he : Int.tmod d 6 = (e : Int)) (he6 : e < 6) : ∀ j i (x : List UInt8), i + j = m → x.length + j ≤ 1200 →
    ∃ k, Q.toolchestlaw05_told.l1 k (bs x) (i : Int) a b c d p = some (bs (List.replicate j 32 ++ x ++ (if p = true then 46 :: List.replicate q 48 else []) ++ endL e)) := by
  intro j
  induction j with
  | zero =>
    intro i x hi hx
    cases p with
    | true =>
      obtain ⟨k, hk⟩ := told_behind a b c d true q hq hq2 e he he6 q 0 (x ++ [46]) (by omega) (by simp; omega)
      refine ⟨k + 1, ?_⟩
      rw [Q.toolchestlaw05_told.l1, hm, if_neg (by omega), if_pos rfl, if_pos (by rw [bs_size]; omega), cat_zero, show (0 : Int) = ((0 : Nat) : Int) from rfl, hk]
      simp
    | false =>
      refine ⟨1, ?_⟩
      rw [Q.toolchestlaw05_told.l1, hm, if_neg (by omega), if_neg (by decide)]
      have := told_end d e he he6 x (by omega)
      unfold endB at this
      rw [this]
      simp
  | succ j ih =>
    intro i x hi hx
    obtain ⟨k, hk⟩ := ih (i + 1) (32 :: x) (by omega) (by simp; omega)
    refine ⟨k + 1, ?_⟩
    rw [Q.toolchestlaw05_told.l1, hm, if_pos (by omega), if_pos (by rw [bs_size]; omega), zero_cat, wrap_ct i (by omega), hk]
    have er : List.replicate (j + 1) (32 : UInt8) ++ x = List.replicate j 32 ++ (32 :: x) := by
      rw [List.replicate_succ', List.append_assoc]; rfl
    rw [er]
theorem lift2 {α : Type} {F : Nat → Option α} (hm : ∀ k, LeO (F k) (F (k + 1))) {k : Nat} {r : α} (h : F k = some r) : ∀ d, F (k + d) = some r
  | 0 => h
  | d + 1 => hm _ _ (lift2 hm h d)
/-- What told tells. -/
def toldL (n : Int) (a b c d : Nat) (p : Bool) : List UInt8 :=
  List.replicate (c % 5) 32 ++ ((if decide (n < 0) = true then [45] else []) ++ ((List.replicate (a % 30) 48 ++ (if n = 0 then [48] else wz n.natAbs)) ++ ((if p = true then 46 :: List.replicate (b % 30) 48 else []) ++ endL (d % 6))))
theorem wz_short : ∀ j n : Nat, n < 10 ^ j → (wz n).length ≤ j
  | 0, n, h => by rw [show n = 0 by simpa using h, wz_zero]; exact Nat.le_refl _
  | j + 1, n, h => by
    by_cases hn : n = 0
    · rw [hn, wz_zero]; exact Nat.zero_le _
    · rw [wz_len n (by omega)]
      have := wz_short j (n / 10) (by rw [Nat.pow_succ] at h; omega)
      omega
theorem tmod_ct (a m : Nat) (hm : m ≤ 30) (h0 : 0 < m) : wrap64 (Int.tmod (a : Int) (m : Int)) = ((a % m : Nat) : Int) := by
  have := Nat.mod_lt a h0
  rw [tmod10]; unfold wrap64; omega
theorem abs_told (n : Int) (h : -2147483648 ≤ n ∧ n ≤ 2147483647) : IntKind.u64.wrap (mx (wrap64 n) (wrap64 (-(wrap64 n)))) = ((n.natAbs : Nat) : Int) := by
  have e1 : wrap64 n = n := by unfold wrap64; omega
  have e2 : wrap64 (-n) = -n := by unfold wrap64; omega
  have e3 : mx n (-n) = ((n.natAbs : Nat) : Int) := by unfold mx; omega
  rw [e1, e2, e3, wrapU _ (by omega)]
theorem told_f (n : Int) (hn : -2147483648 ≤ n ∧ n ≤ 2147483647) (a b c d : Nat) (p : Bool) : ∃ k, Q.toolchestlaw05_told.f k n (a : Int) (b : Int) (c : Int) (d : Int) p = some (bs (toldL n a b c d p)) := by
  obtain ⟨k1, h1⟩ := digits_told n.natAbs (by omega)
  have hD : (if n = 0 then [48] else wz n.natAbs) = (if n.natAbs = 0 then [48] else wz n.natAbs) := by
    by_cases h : n = 0
    · rw [if_pos h, if_pos (by omega)]
    · rw [if_neg h, if_neg (by omega)]
  have hsh : (if n.natAbs = 0 then [48] else wz n.natAbs).length ≤ 10 := by
    split
    · decide
    · exact wz_short 10 _ (by omega)
  rw [← hD] at h1 hsh
  unfold toldL
  generalize (if n = 0 then [48] else wz n.natAbs) = D at h1 hsh
  have ha := tmod_ct a 30 (by omega) (by omega)
  have hb := tmod_ct b 30 (by omega) (by omega)
  have hc := tmod_ct c 5 (by omega) (by omega)
  have ha2 : a % 30 ≤ 30 := by omega
  have hb2 : b % 30 ≤ 30 := by omega
  have hc2 : c % 5 ≤ 5 := by omega
  have hd2 : d % 6 < 6 := by omega
  obtain ⟨k2, h2⟩ := told_blanks (a : Int) (b : Int) (c : Int) (d : Int) p (c % 5) hc hc2 (b % 30) hb hb2 (d % 6) rfl hd2 (c % 5) 0 ((if decide (n < 0) = true then [45] else []) ++ (List.replicate (a % 30) 48 ++ D)) (by omega) (by
    rw [List.length_append, List.length_append, List.length_replicate]; split <;> simp <;> omega)
  obtain ⟨k3, h3⟩ := told_ahead n (a : Int) (b : Int) (c : Int) (d : Int) p (a % 30) ha ha2 (bs (List.replicate (c % 5) 32 ++ ((if decide (n < 0) = true then [45] else []) ++ (List.replicate (a % 30) 48 ++ D)) ++ (if p = true then 46 :: List.replicate (b % 30) 48 else []) ++ endL (d % 6))) (a % 30) 0 D (by omega) (by omega) ⟨k2 + 1, by
    rw [Q.toolchestlaw05_told.j1, Q.toolchestlaw05_told.j1]
    by_cases h : n < 0
    · rw [decide_eq_true h, if_pos rfl] at h2
      rw [if_pos h, if_pos (by rw [bs_size, List.length_append, List.length_replicate]; omega), zero_cat, decide_eq_true h, if_pos rfl]
      exact h2
    · rw [decide_eq_false h, if_neg (show ¬ ((false : Bool) = true) by decide)] at h2
      rw [if_neg h, decide_eq_false h, if_neg (show ¬ ((false : Bool) = true) by decide)]
      exact h2⟩
  refine ⟨k1 + k3, ?_⟩
  unfold Q.toolchestlaw05_told.f
  rw [abs_told n hn, lift2 (F := fun k => Q.toolchestlaw05_digits.f k ((n.natAbs : Nat) : Int)) (fun k => Q.toolchestlaw05_digits.mono _ k) h1 k3, Option.bind_some, Nat.add_comm k1 k3]
  have := lift2 (F := fun k => Q.toolchestlaw05_told.l0 k n (bs D) ((0 : Nat) : Int) (a : Int) (b : Int) (c : Int) (d : Int) p) (fun k => (Q.toolchestlaw05_told.mono_l k).1 _ _ _ _ _ _ _ _) h3 k1
  refine this.trans ?_
  simp only [List.append_assoc]
theorem take_noughts (e : Nat) : ∀ q, (List.replicate q (48 : UInt8) ++ endL e).takeWhile digitC = List.replicate q 48
  | 0 => by
    unfold endL
    match e with
    | 0 | 1 | 2 | 3 | 4 | 5 => decide
    | e + 6 => rfl
  | q + 1 => by
    rw [List.replicate_succ, List.cons_append, List.takeWhile_cons, if_pos (by decide), take_noughts e q]
theorem trim_noughts (q : Nat) : trimR (· == 48) (List.replicate q (48 : UInt8)) = [] := by
  unfold trimR
  rw [List.reverse_replicate]
  have : ∀ q, (List.replicate q (48 : UInt8)).dropWhile (· == 48) = [] := by
    intro q
    induction q with
    | zero => rfl
    | succ q ih => rw [List.replicate_succ, List.dropWhile_cons, if_pos (by decide), ih]
  rw [this]; rfl
theorem tail_ok (p : Bool) (q e : Nat) (he : e < 6) (he4 : e ≠ 4) : TailOK ((if p = true then 46 :: List.replicate q 48 else []) ++ endL e) := by
  cases p with
  | true =>
    refine ⟨fun c h => ?_, ?_⟩
    · injection h with h; rw [← h]; decide
    · show trimR (· == 48) ((List.replicate q 48 ++ endL e).takeWhile digitC) = []
      rw [take_noughts, trim_noughts]
  | false =>
    have : e = 0 ∨ e = 1 ∨ e = 2 ∨ e = 3 ∨ e = 5 := by omega
    rcases this with rfl | rfl | rfl | rfl | rfl
    · exact ⟨fun c h => (by cases h), rfl⟩
    all_goals exact ⟨fun c h => (by injection h with h; rw [← h]; decide), rfl⟩
theorem toldL_num (n : Int) (a b c d : Nat) (p : Bool) (h4 : d % 6 ≠ 4) : numL (toldL n a b c d p) = numOf n := by
  unfold toldL
  exact num_whole _ n (a % 30) _ _ (fun x h => by rw [(List.mem_replicate.1 h).2]; decide) rfl (tail_ok p _ _ (Nat.mod_lt _ (by omega)) h4)
/-- Two told whole numbers compare as the numbers do. -/
theorem told_cmp (n m : Int) (a b c d a' b' c' d' : Nat) (p p' : Bool) (h4 : d % 6 ≠ 4) (h4' : d' % 6 ≠ 4) : numC (toldL n a b c d p) (toldL m a' b' c' d' p') = cmpI n m := by
  unfold numC
  rw [toldL_num n a b c d p h4, toldL_num m a' b' c' d' p' h4', cmpN_whole]
end Go.Proofs.YtbndinaiclkajaaDoor.K

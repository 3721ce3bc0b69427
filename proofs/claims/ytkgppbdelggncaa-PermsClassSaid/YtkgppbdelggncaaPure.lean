/- The plain laws behind PermsEach, PermsMore and PermsClass: over numbers alone, for every node and every user. -/
import Derived.Test.YtkgppbdelggncaaQx2
import Derived.Test.YtkgppbdelggncaaQx3
import Derived.Test.YtkgppbdelggncaaQx4
set_option linter.unusedVariables false
namespace Go.Proofs.Ytkgppbdelggncaa.Q
open Go.RowKit Go.Proofs.YtkgppbdelggncaaW.PrintWords Go.Proofs.YtkgppbdelggncaaW.PrintLast Go.Proofs.YtkgppbdelggncaaW.PrintMore

theorem fin_all {P : Int → Prop} {N : Nat} (h : ∀ i : Fin N, P (i.val : Int)) (x : Int) (h0 : 0 ≤ x) (h1 : x < N) : P x := by
  have := h ⟨x.toNat, by omega⟩
  simpa [Int.toNat_of_nonneg h0] using this

def T (s w : Int) : Bool := Go.bits .and .i64 s w == w
theorem T_parts : ∀ i : Fin 512, T i.val 3 = (T i.val 1 && T i.val 2) ∧ T i.val 5 = (T i.val 1 && T i.val 4) ∧ T i.val 6 = (T i.val 2 && T i.val 4) ∧ T i.val 7 = (T i.val 1 && T i.val 2 && T i.val 4) := by decide +kernel
/-- The three bits parted. -/
def Parts (M : Int → Bool) : Prop := M 3 = (M 1 && M 2) ∧ M 5 = (M 1 && M 4) ∧ M 6 = (M 2 && M 4) ∧ M 7 = (M 1 && M 2 && M 4)
theorem T_Parts (s : Int) (h0 : 0 ≤ s) (h1 : s < 512) : Parts (T s) := fin_all (P := fun s => Parts (T s)) T_parts s h0 h1

theorem may_Parts (k m u g eu eg : Int) (hk : k ≠ 0) (h0 : 0 ≤ m) (h1 : m < 512) : Parts (mayP k m u g eu eg) := by
  by_cases h4 : eu = 0
  · have h : ∀ w, 1 ≤ w → w ≤ 7 → mayP k m u g eu eg w = (if Go.bits .and .i64 w 1 = 0 then true else if k = 1 then Go.bits .and .i64 m 73 != 0 else true) := fun w ha hb => by
      unfold mayP
      rw [if_neg (by omega), if_neg (by omega), if_neg hk, if_pos h4]
    unfold Parts
    rw [h 1 (by omega) (by omega), h 2 (by omega) (by omega), h 3 (by omega) (by omega), h 4 (by omega) (by omega), h 5 (by omega) (by omega), h 6 (by omega) (by omega), h 7 (by omega) (by omega)]
    simp only [show Go.bits .and .i64 1 1 = 1 by decide, show Go.bits .and .i64 2 1 = 0 by decide, show Go.bits .and .i64 3 1 = 1 by decide, show Go.bits .and .i64 4 1 = 0 by decide, show Go.bits .and .i64 5 1 = 1 by decide, show Go.bits .and .i64 6 1 = 0 by decide, show Go.bits .and .i64 7 1 = 1 by decide]
    split <;> simp
  · have h : ∃ s, 0 ≤ s ∧ s < 512 ∧ ∀ w, 1 ≤ w → w ≤ 7 → mayP k m u g eu eg w = T s w := by
      refine ⟨if eu = u then m / 64 else if eg = g then m / 8 else m, ?_, ?_, fun w ha hb => ?_⟩
      · split
        · omega
        · split <;> omega
      · split
        · omega
        · split <;> omega
      · unfold mayP T
        rw [if_neg (by omega), if_neg (by omega), if_neg hk, if_neg h4]
        split
        · rfl
        · split <;> rfl
    obtain ⟨s, hs0, hs1, h⟩ := h
    have := T_Parts s hs0 hs1
    unfold Parts at this ⊢
    rw [h 1 (by omega) (by omega), h 2 (by omega) (by omega), h 3 (by omega) (by omega), h 4 (by omega) (by omega), h 5 (by omega) (by omega), h 6 (by omega) (by omega), h 7 (by omega) (by omega)]
    exact this

theorem kind_ne (a : Int) (h0 : 0 ≤ a) (h1 : a ≤ 255) : (1 + Int.tmod a 3) % 256 ≠ 0 := by
  rw [Int.tmod_eq_emod_of_nonneg h0]; omega
theorem mode_in (a : Int) (h0 : 0 ≤ a) (h1 : a ≤ 65535) : 0 ≤ wrap64 (Int.tmod a 512) ∧ wrap64 (Int.tmod a 512) < 512 := by
  rw [Int.tmod_eq_emod_of_nonneg h0]; unfold wrap64; omega

theorem Each_true (a0 a1 a2 a3 a4 a5 a6 a7 a8 : Int) (h0 : 0 ≤ a0 ∧ a0 ≤ 255) (h1 : 0 ≤ a1 ∧ a1 ≤ 65535) : toolchestlaw13_PermsEach.f 60 a0 a1 a2 a3 a4 a5 a6 a7 a8 = some true := by
  unfold toolchestlaw13_PermsEach.f
  have hP := may_Parts ((1 + Int.tmod a0 3) % 256) (wrap64 (Int.tmod a1 512)) (wrap64 a3) (wrap64 a4) a5 a6 (kind_ne a0 h0.1 h0.2) (mode_in a1 h1.1 h1.2).1 (mode_in a1 h1.1 h1.2).2
  generalize (1 + Int.tmod a0 3) % 256 = k at *
  generalize wrap64 (Int.tmod a1 512) = m at *
  generalize wrap64 a3 = u at *
  generalize wrap64 a4 = g at *
  have hf : ∀ w, perms_May.f k m u g 0 0 [] ⟨#[]⟩ [] 0 a5 a6 a7 a8 w = some (mayP k m u g a5 a6 w) := fun w => rfl
  generalize mayP k m u g a5 a6 = M at *
  obtain ⟨h3, h5, h6, h7⟩ := hP
  cases e1 : M 1 <;> cases e2 : M 2 <;> cases e4 : M 4 <;> simp only [e1, e2, e4, Bool.and_true, Bool.and_false, Bool.and_self] at h3 h5 h6 h7 <;>
    simp [toolchestlaw13_PermsEach.l0, toolchestlaw13_PermsEach.l1, hf, e1, e2, h3, e4, h5, h6, h7, toolchestlaw13_lives.f, wrap64, show Go.bits .and .i64 1 1 = 1 by decide, show Go.bits .and .i64 1 2 = 0 by decide, show Go.bits .and .i64 1 4 = 0 by decide,
      show Go.bits .and .i64 2 1 = 0 by decide, show Go.bits .and .i64 2 2 = 2 by decide, show Go.bits .and .i64 2 4 = 0 by decide, show Go.bits .and .i64 3 1 = 1 by decide, show Go.bits .and .i64 3 2 = 2 by decide, show Go.bits .and .i64 3 4 = 0 by decide,
      show Go.bits .and .i64 4 1 = 0 by decide, show Go.bits .and .i64 4 2 = 0 by decide, show Go.bits .and .i64 4 4 = 4 by decide, show Go.bits .and .i64 5 1 = 1 by decide, show Go.bits .and .i64 5 2 = 0 by decide, show Go.bits .and .i64 5 4 = 4 by decide,
      show Go.bits .and .i64 6 1 = 0 by decide, show Go.bits .and .i64 6 2 = 2 by decide, show Go.bits .and .i64 6 4 = 4 by decide, show Go.bits .and .i64 7 1 = 1 by decide, show Go.bits .and .i64 7 2 = 2 by decide, show Go.bits .and .i64 7 4 = 4 by decide]


theorem nat_bits_and (a b : Nat) (ha : a < 2 ^ 31) (hb : b < 2 ^ 31) : Go.bits .and .i64 (a : Int) (b : Int) = ((a &&& b : Nat) : Int) := by
  exact (bits_nat .i64 31 (by decide) (fun n h0 h1 => by rw [IntKind.wrap_i64]; omega) a b ha hb).1
theorem nat_bits_or (a b : Nat) (ha : a < 2 ^ 31) (hb : b < 2 ^ 31) : Go.bits .or .i64 (a : Int) (b : Int) = ((a ||| b : Nat) : Int) := by
  exact (bits_nat .i64 31 (by decide) (fun n h0 h1 => by rw [IntKind.wrap_i64]; omega) a b ha hb).2

theorem or_lt (a b : Nat) (ha : a < 512) (hb : b < 512) : a ||| b < 512 := Nat.or_lt_two_pow (n := 9) ha hb
theorem or_keeps (a b w s : Nat) (h : (a >>> s) &&& w = w) : ((a ||| b) >>> s) &&& w = w := by
  apply Nat.eq_of_testBit_eq
  intro i
  have hi := congrArg (fun n => n.testBit i) h
  simp only [Nat.testBit_and, Nat.testBit_shiftRight, Nat.testBit_or] at hi ⊢
  cases h1 : w.testBit i <;> simp_all
theorem or_some (a b w : Nat) (h : a &&& w ≠ 0) : (a ||| b) &&& w ≠ 0 := by
  intro h2
  apply h
  apply Nat.eq_of_testBit_eq
  intro i
  have hi := congrArg (fun n => n.testBit i) h2
  simp only [Nat.testBit_and, Nat.testBit_or, Nat.zero_testBit] at hi ⊢
  cases h1 : w.testBit i <;> simp_all

theorem div_shift (a s : Nat) (d : Int) (hd : d = ((2 ^ s : Nat) : Int)) : (a : Int) / d = ((a >>> s : Nat) : Int) := by
  rw [hd, Nat.shiftRight_eq_div_pow]; rfl

theorem T_or (a b s w : Nat) (d : Int) (hd : d = ((2 ^ s : Nat) : Int)) (ha : a < 512) (hb : b < 512) (hw : w < 8) (h : T ((a : Int) / d) w = true) : T (((a ||| b : Nat) : Int) / d) w = true := by
  unfold T at *
  have h1 : a >>> s < 2 ^ 31 := Nat.lt_of_le_of_lt (by rw [Nat.shiftRight_eq_div_pow]; exact Nat.div_le_self _ _) (by omega : a < 2 ^ 31)
  have h2 : (a ||| b) >>> s < 2 ^ 31 := by
    have := or_lt a b ha hb
    exact Nat.lt_of_le_of_lt (by rw [Nat.shiftRight_eq_div_pow]; exact Nat.div_le_self _ _) (by omega : (a ||| b) < 2 ^ 31)
  rw [div_shift _ _ _ hd, nat_bits_and _ _ h1 (by omega)] at h
  rw [div_shift _ _ _ hd, nat_bits_and _ _ h2 (by omega)]
  simp only [beq_iff_eq] at h ⊢
  have h3 : (a >>> s) &&& w = w := by exact_mod_cast h
  exact_mod_cast or_keeps a b w s h3

theorem may_more (k u g eu eg w : Int) (a b : Nat) (ha : a < 512) (hb : b < 512) (hw0 : 1 ≤ w) (hw : w < 8) (h : mayP k a u g eu eg w = true) : mayP k ((a ||| b : Nat) : Int) u g eu eg w = true := by
  obtain ⟨n, rfl⟩ := Int.eq_ofNat_of_zero_le (show 0 ≤ w by omega)
  unfold mayP at *
  rw [if_neg (by omega), if_neg (by omega)] at h ⊢
  by_cases hk : k = 0
  · rw [if_pos hk] at h; cases h
  rw [if_neg hk] at h ⊢
  by_cases h4 : eu = 0
  · rw [if_pos h4] at h ⊢
    split
    · rfl
    · rename_i h5
      rw [if_neg h5] at h
      split
      · rename_i h6
        rw [if_pos h6] at h
        have h73 : ∀ c : Nat, c < 512 → Go.bits .and .i64 (c : Int) 73 = ((c &&& 73 : Nat) : Int) := fun c hc => nat_bits_and c 73 (by omega) (by omega)
        rw [h73 a ha] at h
        rw [h73 _ (or_lt a b ha hb)]
        simp only [bne_iff_ne, ne_eq] at h ⊢
        have h7 : a &&& 73 ≠ 0 := by exact_mod_cast h
        exact_mod_cast or_some a b 73 h7
      · rfl
  · rw [if_neg h4] at h ⊢
    split
    · rename_i h5
      rw [if_pos h5] at h
      exact T_or a b 6 n 64 rfl ha hb (by omega) h
    · rename_i h5
      rw [if_neg h5] at h
      split
      · rename_i h6
        rw [if_pos h6] at h
        exact T_or a b 3 n 8 rfl ha hb (by omega) h
      · rename_i h6
        rw [if_neg h6] at h
        have := T_or a b 0 n 1 rfl ha hb (by omega) (by rw [Int.ediv_one]; exact h)
        rw [Int.ediv_one] at this
        exact this

theorem More_loop (x9 x10 x11 x12 k m u g m2 : Int) (hM : ∀ w, 1 ≤ w → w < 8 → mayP k m u g x9 x10 w = true → mayP k m2 u g x9 x10 w = true) (d : Nat) :
    ∀ (n : Nat) (x : Int), 1 ≤ x → x + d = 8 → d < n → toolchestlaw13_PermsMore.l0 n x x9 x10 x11 x12 k m u g 0 0 ⟨#[]⟩ 0 k m2 u g 0 0 ⟨#[]⟩ 0 = some true := by
  induction d with
  | zero =>
    intro n x h1 h2 hn
    obtain ⟨n, rfl⟩ : ∃ j, n = j + 1 := ⟨n - 1, by omega⟩
    simp only [toolchestlaw13_PermsMore.l0]
    rw [if_neg (by omega)]; rfl
  | succ d ih =>
    intro n x h1 h2 hn
    obtain ⟨n, rfl⟩ : ∃ j, n = j + 1 := ⟨n - 1, by omega⟩
    have hw : wrap64 (x + 1) = x + 1 := by unfold wrap64; omega
    have hi := ih n (x + 1) (by omega) (by omega) (by omega)
    simp only [toolchestlaw13_PermsMore.l0]
    rw [if_pos (by omega)]
    have hf : ∀ q, perms_May.f k q u g 0 0 [] ⟨#[]⟩ [] 0 x9 x10 x11 x12 x = some (mayP k q u g x9 x10 x) := fun q => rfl
    rw [hf, hf]
    simp only [Option.bind_some, hw, hi]
    by_cases hc : mayP k m u g x9 x10 x = true
    · rw [if_pos hc, if_pos (hM x h1 (by omega) hc)]
    · rw [if_neg hc]

theorem mode_nat (a : Int) (h0 : 0 ≤ a) (h1 : a ≤ 65535) : ∃ n : Nat, wrap64 (Int.tmod a 512) = n ∧ n < 512 :=
  ⟨(wrap64 (Int.tmod a 512)).toNat, by have := mode_in a h0 h1; omega, by have := mode_in a h0 h1; omega⟩

theorem More_true (a0 a1 a2 a3 a4 a5 a6 a7 a8 : Int) (h0 : 0 ≤ a0 ∧ a0 ≤ 255) (h1 : 0 ≤ a1 ∧ a1 ≤ 65535) (h2 : 0 ≤ a2 ∧ a2 ≤ 65535) : toolchestlaw13_PermsMore.f 60 a0 a1 a2 a3 a4 a5 a6 a7 a8 = some true := by
  unfold toolchestlaw13_PermsMore.f
  obtain ⟨a, ea, ha⟩ := mode_nat a1 h1.1 h1.2
  obtain ⟨b, eb, hb⟩ := mode_nat a2 h2.1 h2.2
  rw [ea, eb, nat_bits_or a b (by omega) (by omega)]
  exact More_loop a5 a6 a7 a8 _ _ _ _ _ (fun w hw0 hw h => may_more _ _ _ _ _ w a b ha hb hw0 hw h) 7 60 1 (by omega) (by omega) (by omega)

theorem T_class2 : ∀ i : Fin 512, ∀ j : Fin 8, T ((i.val : Int) / 64) j.val = T (shl .i64 (Go.bits .and .i64 (shr .i64 i.val 6) 7) 6 / 64) j.val := by decide +kernel
theorem T_class1 : ∀ i : Fin 512, ∀ j : Fin 8, T ((i.val : Int) / 8) j.val = T (shl .i64 (Go.bits .and .i64 (shr .i64 i.val 3) 7) 3 / 8) j.val := by decide +kernel
theorem T_class0 : ∀ i : Fin 512, ∀ j : Fin 8, T (i.val : Int) j.val = T (shl .i64 (Go.bits .and .i64 (shr .i64 i.val 0) 7) 0) j.val := by decide +kernel

theorem Class_loop (x9 x10 x11 x12 k m u g m2 : Int) (hM : ∀ w, 1 ≤ w → w < 8 → mayP k m u g x9 x10 w = mayP k m2 u g x9 x10 w) (d : Nat) :
    ∀ (n : Nat) (x : Int), 1 ≤ x → x + d = 8 → d < n → toolchestlaw13_PermsClass.l0 n x x9 x10 x11 x12 k m u g 0 0 ⟨#[]⟩ 0 k m2 u g 0 0 ⟨#[]⟩ 0 = some true := by
  induction d with
  | zero =>
    intro n x h1 h2 hn
    obtain ⟨n, rfl⟩ : ∃ j, n = j + 1 := ⟨n - 1, by omega⟩
    simp only [toolchestlaw13_PermsClass.l0]
    rw [if_neg (by omega)]; rfl
  | succ d ih =>
    intro n x h1 h2 hn
    obtain ⟨n, rfl⟩ : ∃ j, n = j + 1 := ⟨n - 1, by omega⟩
    have hw : wrap64 (x + 1) = x + 1 := by unfold wrap64; omega
    have hi := ih n (x + 1) (by omega) (by omega) (by omega)
    simp only [toolchestlaw13_PermsClass.l0]
    rw [if_pos (by omega)]
    have hf : ∀ q, perms_May.f k q u g 0 0 [] ⟨#[]⟩ [] 0 x9 x10 x11 x12 x = some (mayP k q u g x9 x10 x) := fun q => rfl
    rw [hf, hf]
    simp only [Option.bind_some, hw, hi, hM x h1 (by omega)]
    simp

theorem Class_true (a0 a1 a2 a3 a4 a5 a6 a7 a8 : Int) (h0 : 0 ≤ a0 ∧ a0 ≤ 255) (h1 : 0 ≤ a1 ∧ a1 ≤ 65535) : toolchestlaw13_PermsClass.f 60 a0 a1 a2 a3 a4 a5 a6 a7 a8 = some true := by
  unfold toolchestlaw13_PermsClass.f
  have hk := kind_ne a0 h0.1 h0.2
  obtain ⟨a, ea, ha⟩ := mode_nat a1 h1.1 h1.2
  rw [ea]
  generalize (1 + Int.tmod a0 3) % 256 = k at *
  generalize wrap64 a3 = u at *
  generalize wrap64 a4 = g at *
  by_cases h5 : a5 = 0
  · rw [if_pos h5]; rfl
  rw [if_neg h5]
  have hj : ∀ (x s : Int) (hx : wrap64 (3 * x) = s) (h0 : 0 ≤ s) (hM : ∀ w, 1 ≤ w → w < 8 → mayP k a u g a5 a6 w = mayP k (shl .i64 (Go.bits .and .i64 (shr .i64 a s) 7) s) u g a5 a6 w),
      toolchestlaw13_PermsClass.j0 60 x a5 a6 a7 a8 k a u g 0 0 ⟨#[]⟩ 0 = some true := fun x s hx h0 hM => by
    simp only [toolchestlaw13_PermsClass.j0]
    rw [hx, if_pos h0]
    exact Class_loop a5 a6 a7 a8 _ _ _ _ _ hM 7 59 1 (by omega) (by omega) (by omega)
  have hmay : ∀ (q w : Int), 1 ≤ w → w < 8 → mayP k q u g a5 a6 w = if a5 = u then T (q / 64) w else if a6 = g then T (q / 8) w else T q w := fun q w ha hb => by
    unfold mayP T
    rw [if_neg (by omega), if_neg (by omega), if_neg hk, if_neg h5]
  by_cases h6 : a5 = u
  · rw [if_pos h6]
    refine hj 2 6 (by decide +kernel) (by omega) (fun w hw0 hw => ?_)
    obtain ⟨n, rfl⟩ := Int.eq_ofNat_of_zero_le (show 0 ≤ w by omega)
    rw [hmay _ _ hw0 hw, hmay _ _ hw0 hw, if_pos h6, if_pos h6]
    exact T_class2 ⟨a, ha⟩ ⟨n, by omega⟩
  rw [if_neg h6]
  by_cases h7 : a6 = g
  · rw [if_pos h7]
    refine hj 1 3 (by decide +kernel) (by omega) (fun w hw0 hw => ?_)
    obtain ⟨n, rfl⟩ := Int.eq_ofNat_of_zero_le (show 0 ≤ w by omega)
    rw [hmay _ _ hw0 hw, hmay _ _ hw0 hw, if_neg h6, if_neg h6, if_pos h7, if_pos h7]
    exact T_class1 ⟨a, ha⟩ ⟨n, by omega⟩
  · rw [if_neg h7]
    refine hj 0 0 (by decide +kernel) (by omega) (fun w hw0 hw => ?_)
    obtain ⟨n, rfl⟩ := Int.eq_ofNat_of_zero_le (show 0 ≤ w by omega)
    rw [hmay _ _ hw0 hw, hmay _ _ hw0 hw, if_neg h6, if_neg h6, if_neg h7, if_neg h7]
    exact T_class0 ⟨a, ha⟩ ⟨n, by omega⟩

end Go.Proofs.Ytkgppbdelggncaa.Q

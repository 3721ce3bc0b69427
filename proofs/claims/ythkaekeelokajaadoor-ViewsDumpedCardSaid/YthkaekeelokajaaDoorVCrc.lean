/- The POSIX sum in plain words: a bit's step, a byte's step, the sum of a text; no program in sight. -/
import Derived.Laws.BitsLemmas
import Derived.Laws.Shifts
set_option linter.unusedVariables false
set_option linter.unusedSimpArgs false
namespace Go.Proofs.YthkaekeelokajaaDoor.Crc

def P : BitVec 32 := 0x04c11db7#32
/-- One bit further. -/
def st (x : BitVec 32) : BitVec 32 := (x <<< 1) ^^^ (if x.msb then P else 0#32)
def stN : Nat → BitVec 32 → BitVec 32
  | 0, x => x
  | n + 1, x => stN n (st x)
theorem st_xor (x y : BitVec 32) : st (x ^^^ y) = st x ^^^ st y := by
  unfold st
  rw [BitVec.shiftLeft_xor_distrib, BitVec.msb_xor]
  have c : ∀ a b c d : BitVec 32, (a ^^^ b) ^^^ (c ^^^ d) = (a ^^^ c) ^^^ (b ^^^ d) := by
    intro a b c d
    rw [BitVec.xor_assoc, ← BitVec.xor_assoc b c d, BitVec.xor_comm b c, BitVec.xor_assoc c b d, ← BitVec.xor_assoc a c]
  cases x.msb <;> cases y.msb
  · simp
  · simpa using c (x <<< 1) (y <<< 1) 0#32 P
  · simpa using c (x <<< 1) (y <<< 1) P 0#32
  · have := c (x <<< 1) (y <<< 1) P P
    simpa using this
theorem stN_xor : ∀ (n : Nat) (x y : BitVec 32), stN n (x ^^^ y) = stN n x ^^^ stN n y
  | 0, _, _ => rfl
  | n + 1, x, y => by simp only [stN]; rw [st_xor, stN_xor n]
theorem st_low (x : BitVec 32) (h : x.msb = false) : st x = x <<< 1 := by unfold st; rw [h]; simp
theorem stN_low : ∀ (n : Nat) (x : BitVec 32), x.toNat < 2 ^ (32 - n) → n ≤ 32 → stN n x = x <<< n
  | 0, x, _, _ => by simp [stN]
  | n + 1, x, h, hn => by
    have hm : x.msb = false := by
      rw [BitVec.msb_eq_decide]
      have : 2 ^ (32 - (n + 1)) ≤ 2 ^ (32 - 1) := Nat.pow_le_pow_right (by omega) (by omega)
      simp
      omega
    simp only [stN]
    rw [st_low x hm, stN_low n (x <<< 1) ?_ (by omega)]
    · rw [← BitVec.shiftLeft_add, Nat.add_comm]
    · rw [BitVec.toNat_shiftLeft, Nat.shiftLeft_eq]
      have e : 2 ^ (32 - n) = 2 ^ (32 - (n + 1)) * 2 := by rw [← Nat.pow_succ]; congr 1; omega
      refine Nat.lt_of_le_of_lt (Nat.mod_le _ _) ?_
      rw [e]; omega
theorem ofNat_small (n : Nat) (h : n < 2 ^ 32) : (BitVec.ofNat 32 n).toNat = n := by rw [BitVec.toNat_ofNat, Nat.mod_eq_of_lt h]
/-- A byte further, by bits. -/
def fu (x : BitVec 32) (c : UInt8) : BitVec 32 := stN 8 (x ^^^ BitVec.ofNat 32 (c.toNat * 2 ^ 24))
/-- The table's entry. -/
def tb (i : Nat) : BitVec 32 := stN 8 (BitVec.ofNat 32 (i * 2 ^ 24))
theorem fu_table (x : BitVec 32) (c : UInt8) : fu x c = (x <<< 8) ^^^ tb ((x.toNat / 2 ^ 24) ^^^ c.toNat) := by
  have hx := x.isLt
  have hc := c.toNat_lt
  have e1 : x = BitVec.ofNat 32 (x.toNat % 2 ^ 24) ^^^ BitVec.ofNat 32 (x.toNat / 2 ^ 24 * 2 ^ 24) := by
    apply BitVec.eq_of_toNat_eq
    rw [BitVec.toNat_xor, ofNat_small _ (by omega), ofNat_small _ (by omega)]
    apply Nat.eq_of_testBit_eq
    intro i
    rw [Nat.testBit_xor, Nat.testBit_mod_two_pow, Nat.testBit_mul_two_pow, Nat.testBit_div_two_pow]
    by_cases h : i < 24
    · simp [h, show ¬ 24 ≤ i by omega]
    · have : i - 24 + 24 = i := by omega
      simp [h, show 24 ≤ i by omega, this]
  have hz : (x.toNat / 2 ^ 24) ^^^ c.toNat < 2 ^ 8 := Nat.xor_lt_two_pow (by omega) (by omega)
  have e2 : BitVec.ofNat 32 (x.toNat / 2 ^ 24 * 2 ^ 24) ^^^ BitVec.ofNat 32 (c.toNat * 2 ^ 24) = BitVec.ofNat 32 (((x.toNat / 2 ^ 24) ^^^ c.toNat) * 2 ^ 24) := by
    apply BitVec.eq_of_toNat_eq
    rw [BitVec.toNat_xor, ofNat_small _ (by omega), ofNat_small _ (by omega), ofNat_small _ (by generalize x.toNat / 2 ^ 24 ^^^ c.toNat = z at hz ⊢; omega)]
    apply Nat.eq_of_testBit_eq
    intro i
    rw [Nat.testBit_xor, Nat.testBit_mul_two_pow, Nat.testBit_mul_two_pow, Nat.testBit_mul_two_pow, Nat.testBit_xor]
    by_cases h : 24 ≤ i <;> simp [h]
  unfold fu tb
  conv => lhs; rw [e1]
  rw [BitVec.xor_assoc, e2, stN_xor]
  congr 1
  rw [stN_low 8 _ (by rw [BitVec.toNat_ofNat]; omega) (by decide)]
  apply BitVec.eq_of_toNat_eq
  rw [BitVec.toNat_shiftLeft, BitVec.toNat_shiftLeft, BitVec.toNat_ofNat, Nat.shiftLeft_eq, Nat.shiftLeft_eq]
  omega
/-- The bytes of a length, the low one first. -/
def lenB : Nat → Nat → List UInt8
  | 0, _ => []
  | f + 1, n => if n = 0 then [] else UInt8.ofNat (n % 256) :: lenB f (n / 256)
theorem lenB_fuel : ∀ (f g n : Nat), n < 2 ^ f → n < 2 ^ g → lenB f n = lenB g n
  | 0, 0, _, _, _ => rfl
  | 0, g + 1, n, h, _ => by simp at h; subst h; simp [lenB]
  | f + 1, 0, n, _, h => by simp at h; subst h; simp [lenB]
  | f + 1, g + 1, n, h1, h2 => by
    simp only [lenB]
    split
    · rfl
    · have q1 : 2 ^ (f + 1) = 2 * 2 ^ f := by rw [Nat.pow_succ]; omega
      have q2 : 2 ^ (g + 1) = 2 * 2 ^ g := by rw [Nat.pow_succ]; omega
      rw [lenB_fuel f g (n / 256) (by omega) (by omega)]
def lenBytes (n : Nat) : List UInt8 := lenB n n
theorem lenBytes_zero : lenBytes 0 = [] := rfl
theorem lenBytes_pos (n : Nat) (h : 0 < n) : lenBytes n = UInt8.ofNat (n % 256) :: lenBytes (n / 256) := by
  unfold lenBytes
  obtain ⟨m, rfl⟩ : ∃ m, n = m + 1 := ⟨n - 1, by omega⟩
  simp only [lenB]
  rw [if_neg (by omega)]
  have h1 : (m + 1) / 256 < 2 ^ m := Nat.lt_of_le_of_lt (show (m + 1) / 256 ≤ m by omega) Nat.lt_two_pow_self
  rw [lenB_fuel m ((m + 1) / 256) ((m + 1) / 256) h1 Nat.lt_two_pow_self]
/-- The sum, not yet turned about, from x on. -/
def run (x : BitVec 32) (l : List UInt8) : BitVec 32 := l.foldl fu x
def sumL (l : List UInt8) : BitVec 32 := ~~~ run 0#32 (l ++ lenBytes l.length)
theorem run_append (x : BitVec 32) (a b : List UInt8) : run x (a ++ b) = run (run x a) b := by simp [run]
theorem run_cons (x : BitVec 32) (c : UInt8) (b : List UInt8) : run x (c :: b) = run (fu x c) b := rfl
/-- No step loses anything. -/
theorem st_zero (x : BitVec 32) (h : st x = 0#32) : x = 0#32 := by
  unfold st at h
  by_cases hm : x.msb = true
  · rw [hm, if_pos rfl] at h
    have : ((x <<< 1) ^^^ P).getLsbD 0 = false := by rw [h]; simp
    rw [BitVec.getLsbD_xor, BitVec.getLsbD_shiftLeft] at this
    simp [P] at this
  · have hf : x.msb = false := by simpa using hm
    rw [hf] at h
    simp at h
    apply BitVec.eq_of_toNat_eq
    have h2 : (x <<< 1).toNat = 0 := by rw [h]; rfl
    rw [BitVec.toNat_shiftLeft, Nat.shiftLeft_eq] at h2
    rw [BitVec.msb_eq_decide] at hf
    simp at hf
    simp
    omega
theorem xor_eq_zero_bv (x y : BitVec 32) (h : x ^^^ y = 0#32) : x = y := by
  have : (x ^^^ y) ^^^ y = 0#32 ^^^ y := by rw [h]
  rw [BitVec.xor_assoc, BitVec.xor_self, BitVec.xor_zero, BitVec.zero_xor] at this
  exact this
theorem st_inj (x y : BitVec 32) (h : st x = st y) : x = y := by
  apply xor_eq_zero_bv
  apply st_zero
  rw [st_xor, h, BitVec.xor_self]
theorem stN_inj : ∀ (n : Nat) (x y : BitVec 32), stN n x = stN n y → x = y
  | 0, _, _, h => h
  | n + 1, x, y, h => st_inj _ _ (stN_inj n _ _ h)
theorem fu_inj (x y : BitVec 32) (c : UInt8) (h : fu x c = fu y c) : x = y := by
  have h1 := stN_inj 8 _ _ h
  have : (x ^^^ BitVec.ofNat 32 (c.toNat * 2 ^ 24)) ^^^ BitVec.ofNat 32 (c.toNat * 2 ^ 24) = (y ^^^ BitVec.ofNat 32 (c.toNat * 2 ^ 24)) ^^^ BitVec.ofNat 32 (c.toNat * 2 ^ 24) := by rw [h1]
  simpa [BitVec.xor_assoc] using this
theorem fu_inj2 (x : BitVec 32) (c d : UInt8) (h : fu x c = fu x d) : c = d := by
  have h1 := stN_inj 8 _ _ h
  have h2 : x ^^^ (x ^^^ BitVec.ofNat 32 (c.toNat * 2 ^ 24)) = x ^^^ (x ^^^ BitVec.ofNat 32 (d.toNat * 2 ^ 24)) := by rw [h1]
  rw [← BitVec.xor_assoc, ← BitVec.xor_assoc, BitVec.xor_self, BitVec.zero_xor, BitVec.zero_xor] at h2
  have h3 := congrArg BitVec.toNat h2
  have hc := c.toNat_lt
  have hd := d.toNat_lt
  rw [BitVec.toNat_ofNat, BitVec.toNat_ofNat, Nat.mod_eq_of_lt (by omega), Nat.mod_eq_of_lt (by omega)] at h3
  exact UInt8.toNat_inj.1 (by omega)
theorem run_inj : ∀ (l : List UInt8) (x y : BitVec 32), run x l = run y l → x = y
  | [], _, _, h => h
  | c :: l, x, y, h => fu_inj x y c (run_inj l _ _ h)
theorem sum_one (a b : List UInt8) (c d : UInt8) (h : sumL (a ++ c :: b) = sumL (a ++ d :: b)) : c = d := by
  unfold sumL at h
  have h1 := BitVec.not_inj.1 h
  rw [show (a ++ c :: b).length = (a ++ d :: b).length by simp] at h1
  simp only [List.append_assoc, List.cons_append, run_append, run_cons] at h1
  exact fu_inj2 _ _ _ (run_inj _ _ _ (run_inj _ _ _ h1))
end Go.Proofs.YthkaekeelokajaaDoor.Crc

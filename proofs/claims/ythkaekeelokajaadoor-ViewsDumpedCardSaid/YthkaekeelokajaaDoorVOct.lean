/- Octal digits, and the dump of a text in octal; no program in sight. -/
import Derived.Laws.BitsLemmas
set_option linter.unusedVariables false
set_option linter.unusedSimpArgs false
namespace Go.Proofs.YthkaekeelokajaaDoor.Oct

def dg (n : Nat) : UInt8 := UInt8.ofNat (48 + n % 8)
def octF : Nat → Nat → List UInt8
  | 0, _ => []
  | f + 1, n => if n < 8 then [dg n] else octF f (n / 8) ++ [dg n]
def oct (n : Nat) : List UInt8 := octF (n + 1) n
theorem octF_fuel : ∀ (f g n : Nat), n < f → n < g → octF f n = octF g n
  | f + 1, g + 1, n, h1, h2 => by
    simp only [octF]
    split
    · rfl
    · rw [octF_fuel f g (n / 8) (by omega) (by omega)]
theorem oct_small (n : Nat) (h : n < 8) : oct n = [dg n] := by unfold oct octF; rw [if_pos h]
theorem oct_big (n : Nat) (h : 8 ≤ n) : oct n = oct (n / 8) ++ [dg n] := by
  show octF (n + 1) n = _
  unfold octF
  rw [if_neg (by omega)]
  rw [octF_fuel n (n / 8 + 1) (n / 8) (by omega) (by omega)]
  rfl
theorem oct_len_pos (n : Nat) : 1 ≤ (oct n).length := by
  by_cases h : n < 8
  · rw [oct_small n h]; simp
  · rw [oct_big n (by omega)]; simp
theorem oct_len : ∀ (k n : Nat), n < 8 ^ k → 1 ≤ k → (oct n).length ≤ k
  | 0, n, _, h => by omega
  | k + 1, n, h, _ => by
    by_cases h8 : n < 8
    · rw [oct_small n h8]; simp
    · rw [oct_big n (by omega), List.length_append]
      have e : 8 ^ (k + 1) = 8 ^ k * 8 := Nat.pow_succ ..
      have hk : 1 ≤ k := by
        rcases Nat.eq_zero_or_pos k with h0 | h0
        · subst h0; simp at h; omega
        · exact h0
      have := oct_len k (n / 8) (by omega) hk
      simp; omega
/-- So many digits at least. -/
def octP (n wide : Nat) : List UInt8 := List.replicate (wide - (oct n).length) 48 ++ oct n
theorem octP_len (n wide : Nat) : (octP n wide).length = max wide (oct n).length := by
  unfold octP; rw [List.length_append, List.length_replicate]; omega
theorem dg_zero : dg 0 = 48 := rfl
/-- Digits from behind, as many as there are, and as many as are asked: the reference's way. -/
theorem octP_step (n wide : Nat) : octP n wide = (if 0 < n / 8 ∨ 1 < wide then octP (n / 8) (wide - 1) else []) ++ [dg n] := by
  by_cases h8 : n < 8
  · have hz : n / 8 = 0 := by omega
    unfold octP
    rw [hz, oct_small n h8, oct_small 0 (by omega)]
    by_cases hw : 1 < wide
    · rw [if_pos (.inr hw)]
      obtain ⟨v, rfl⟩ : ∃ v, wide = v + 2 := ⟨wide - 2, by omega⟩
      simp only [List.length_singleton, Nat.add_sub_cancel, show v + 2 - 1 = v + 1 by omega]
      rw [List.replicate_succ', dg_zero]
    · rw [if_neg (by omega)]
      have : wide - [dg n].length = 0 := by simp; omega
      rw [this]; rfl
  · rw [if_pos (.inl (by omega))]
    unfold octP
    rw [oct_big n (by omega), List.length_append, ← List.append_assoc]
    congr 3
    simp; omega
/-- One row's bytes. -/
def rowL (l : List UInt8) : List UInt8 := l.flatMap fun c => 32 :: octP c.toNat 3
/-- The rows, from a place on. -/
def rowsF : Nat → Nat → List UInt8 → List UInt8
  | 0, _, _ => []
  | f + 1, n, l => if l = [] then [] else octP n 7 ++ rowL (l.take 16) ++ [10] ++ rowsF f (n + 16) (l.drop 16)
theorem rowsF_fuel : ∀ (f g n : Nat) (l : List UInt8), l.length ≤ f → l.length ≤ g → rowsF f n l = rowsF g n l
  | 0, 0, _, _, _, _ => rfl
  | 0, g + 1, n, l, h, _ => by
    have : l = [] := List.eq_nil_of_length_eq_zero (by omega)
    simp [rowsF, this]
  | f + 1, 0, n, l, _, h => by
    have : l = [] := List.eq_nil_of_length_eq_zero (by omega)
    simp [rowsF, this]
  | f + 1, g + 1, n, l, h1, h2 => by
    simp only [rowsF]
    split
    · rfl
    · rename_i hne
      have : 0 < l.length := by
        rcases Nat.eq_zero_or_pos l.length with h0 | h0
        · exact (hne (List.eq_nil_of_length_eq_zero h0)).elim
        · exact h0
      rw [rowsF_fuel f g (n + 16) (l.drop 16) (by rw [List.length_drop]; omega) (by rw [List.length_drop]; omega)]
def rows (n : Nat) (l : List UInt8) : List UInt8 := rowsF l.length n l
theorem rows_nil (n : Nat) : rows n [] = [] := rfl
theorem rows_cons (n : Nat) (l : List UInt8) (h : 0 < l.length) : rows n l = octP n 7 ++ rowL (l.take 16) ++ [10] ++ rows (n + 16) (l.drop 16) := by
  unfold rows
  obtain ⟨f, hf⟩ : ∃ f, l.length = f + 1 := ⟨l.length - 1, by omega⟩
  rw [hf]
  simp only [rowsF]
  rw [if_neg (by intro e; rw [e] at h; simp at h), rowsF_fuel f (l.drop 16).length (n + 16) (l.drop 16) (by rw [List.length_drop]; omega) (Nat.le_refl _)]
def dumpL (l : List UInt8) : List UInt8 := rows 0 l ++ octP l.length 7 ++ [10]
/-- The reference's way: a byte after the other, from place i on. -/
def tailR : Nat → List UInt8 → List UInt8
  | i, [] => if 0 < i then [10] else []
  | i, c :: l => (if i % 16 = 0 then (if 0 < i then [10] else []) ++ octP i 7 else []) ++ (32 :: octP c.toNat 3) ++ tailR (i + 1) l
theorem tailR_row : ∀ (k i : Nat) (l : List UInt8), (i + k) % 16 = 0 → k < 16 → 0 < i → tailR i l = rowL (l.take k) ++ tailR (i + k) (l.drop k)
  | 0, i, l, _, _, _ => by simp [rowL]
  | k + 1, i, [], h1, h2, h3 => by simp [tailR, rowL, h3]
  | k + 1, i, c :: l, h1, h2, h3 => by
    have hi : i % 16 ≠ 0 := by omega
    simp only [tailR, if_neg hi, List.take_succ_cons, List.drop_succ_cons]
    rw [tailR_row k (i + 1) l (by omega) (by omega) (by omega)]
    have e : i + 1 + k = i + (k + 1) := by omega
    rw [e]
    simp [rowL]
theorem tailR_rows : ∀ (f i : Nat) (l : List UInt8), l.length ≤ f → i % 16 = 0 → tailR i l = (if 0 < i then [10] else []) ++ rows i l := by
  intro f
  induction f with
  | zero =>
    intro i l h1 h2
    obtain rfl : l = [] := List.eq_nil_of_length_eq_zero (by omega)
    simp [tailR, rows_nil]
  | succ f ih =>
    intro i l h1 h2
    match l, h1 with
    | [], _ => simp [tailR, rows_nil]
    | c :: l, h1 =>
      simp only [tailR, if_pos h2]
      rw [tailR_row 15 (i + 1) l (by omega) (by omega) (by omega), ih (i + 1 + 15) (l.drop 15) (by rw [List.length_drop]; simp at h1; omega) (by omega), if_pos (show 0 < i + 1 + 15 by omega)]
      rw [rows_cons i (c :: l) (by simp)]
      have e1 : (c :: l).take 16 = c :: l.take 15 := rfl
      have e2 : (c :: l).drop 16 = l.drop 15 := rfl
      rw [e1, e2, show i + 1 + 15 = i + 16 by omega]
      simp [rowL]
theorem ref_dump (l : List UInt8) : tailR 0 l = rows 0 l := by
  rw [tailR_rows l.length 0 l (Nat.le_refl _) rfl]
  simp
end Go.Proofs.YthkaekeelokajaaDoor.Oct

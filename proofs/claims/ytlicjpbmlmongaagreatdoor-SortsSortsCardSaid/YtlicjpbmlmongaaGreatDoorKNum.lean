/- keys.Number: what it tells, over lists of bytes. -/
import Derived.Test.YtlicjpbmlmongaaGreatDoorQx6
import Derived.Test.YtlicjpbmlmongaaGreatDoorKPlain
set_option linter.unusedVariables false
set_option linter.unusedSimpArgs false
namespace Go.Proofs.YtlicjpbmlmongaaGreatDoor.Q
open Go.RowKit Go.Proofs.YtlicjpbmlmongaaGreatDoorW.PrintWords Go.Proofs.YtlicjpbmlmongaaGreatDoorW.PrintLast Go.Proofs.YtlicjpbmlmongaaGreatDoor.K
theorem digits_cut (l : List UInt8) : Lib.trimLeftS l [48, 49, 50, 51, 52, 53, 54, 55, 56, 57] = l.dropWhile digitC := by
 unfold Lib.trimLeftS
 congr 1
 funext d
 rw [Bool.eq_iff_iff]
 unfold digitC
 simp only [List.contains_eq_mem, List.mem_cons, List.mem_nil_iff, or_false, decide_eq_true_eq, Bool.and_eq_true]
 rw [UInt8.le_iff_toNat_le, UInt8.le_iff_toNat_le]
 constructor
 ·intro h
  rcases h with h | h | h | h | h | h | h | h | h | h <;> subst h <;> decide
 ·intro ⟨h1, h2⟩
  have h3 : 48 ≤ d.toNat := h1
  have h4 : d.toNat ≤ 57 := h2
  have e : ∀ n : Nat, n < 256 → d.toNat = n → d = UInt8.ofNat n := by
   intro n hn h
   rw [← UInt8.toNat_inj, UInt8.toNat_ofNat_of_lt' hn, h]
  rcases (show d.toNat = 48 ∨ d.toNat = 49 ∨ d.toNat = 50 ∨ d.toNat = 51 ∨ d.toNat = 52 ∨ d.toNat = 53 ∨ d.toNat = 54 ∨ d.toNat = 55 ∨ d.toNat = 56 ∨ d.toNat = 57 by omega) with h | h | h | h | h | h | h | h | h | h
  all_goals have := e _ (by decide) h; subst this; decide
theorem noughts_cut (l : List UInt8) : Lib.trimLeftS l [48] = l.dropWhile (· == 48) := by
 unfold Lib.trimLeftS
 congr 1
 funext d
 rw [Bool.eq_iff_iff]
 simp
theorem noughts_back (l : List UInt8) : Lib.trimRightS l [48] = trimR (· == 48) l := by
 unfold Lib.trimRightS trimR
 congr 2
 funext d
 rw [Bool.eq_iff_iff]
 simp
theorem trimL_f (s : ByteArray) (cs : ByteArray) (h : cs.size ≤ 1000) (ha : asciiB cs.data.toList = true) : strings_TrimLeft.f s cs = some (K.bs (Lib.trimLeftS s.data.toList cs.data.toList)) := by
 unfold strings_TrimLeft.f; rw [if_pos ⟨h, ha⟩]
theorem trimR_f (s : ByteArray) (cs : ByteArray) (hs : s.size ≤ 9223372036854775807) (h : cs.size ≤ 1000) (ha : asciiB cs.data.toList = true) : strings_TrimRight.f s cs = some (K.bs (Lib.trimRightS s.data.toList cs.data.toList)) := by
 unfold strings_TrimRight.f; rw [if_pos ⟨hs, h, ha⟩]
theorem sub_wrap (a b : Nat) (h : b ≤ a) (ha : a ≤ 4611686018427387904) : wrap64 ((a : Int) - (b : Int)) = ((a - b : Nat) : Int) := by unfold wrap64; omega
theorem nn (a : Nat) : (0 : Int) ≤ (a : Int) := by omega
theorem takeWhile_take (p : UInt8 → Bool) (l : List UInt8) : l.take (l.length - (l.dropWhile p).length) = l.takeWhile p := by
 have h := List.takeWhile_append_dropWhile (p := p) (l := l)
 have h2 := congrArg List.length h
 rw [List.length_append] at h2
 have e : l.length - (l.dropWhile p).length = (l.takeWhile p).length := by omega
 rw [e]
 conv => lhs; rw [← h]
 rw [List.take_left']
 rw [h]
theorem digits_f (s : ByteArray) (hs : s.size ≤ 4611686018427387904) : keys_digits.f s = some (K.bs (s.data.toList.takeWhile digitC), K.bs (s.data.toList.dropWhile digitC)) := by
 unfold keys_digits.f
 rw [trimL_f s _ (by decide) (by decide), Option.bind_some]
 have e : (⟨#[48, 49, 50, 51, 52, 53, 54, 55, 56, 57]⟩ : ByteArray).data.toList = [48, 49, 50, 51, 52, 53, 54, 55, 56, 57] := rfl
 rw [e, digits_cut]
 have hl : (s.data.toList.dropWhile digitC).length ≤ s.data.toList.length := (List.dropWhile_sublist _).length_le
 have hz : s.data.toList.length = s.size := (Lib.size_eq s).symm
 have h1 : (K.bs (s.data.toList.dropWhile digitC)).size = (s.data.toList.dropWhile digitC).length := K.bs_size _
 rw [h1, sub_wrap _ _ (by omega) hs, if_pos (nn _), if_pos (Int.ofNat_le.2 (Nat.sub_le _ _)), Int.toNat_natCast]
 congr 2
 rw [K.extract_bs, List.drop_zero, Nat.sub_zero, ← hz, takeWhile_take]
theorem no_prefix {a b : UInt8} {r : List UInt8} (h : ¬ a = b) : Lib.hasPrefix (a :: r) [b] = false := by
 unfold Lib.hasPrefix
 rw [Bool.eq_false_iff]
 intro e
 rw [List.isPrefixOf_iff_prefix] at e
 obtain ⟨t, ht⟩ := e
 injection ht with h1 _
 exact h h1.symm
theorem cut_minus (l : List UInt8) : Lib.trimPrefix l [45] = (minusOf l).2 ∧ Lib.hasPrefix l [45] = (minusOf l).1 := by
 cases l with
 | nil => exact ⟨rfl, rfl⟩
 | cons a r =>
  by_cases h : a = 45
  ·subst h
   exact ⟨by simp [Lib.trimPrefix, Lib.hasPrefix, minusOf], by simp [Lib.hasPrefix, minusOf]⟩
  ·have h2 : Lib.hasPrefix (a :: r) [45] = false := no_prefix h
   have h3 : minusOf (a :: r) = (false, a :: r) := by
    unfold minusOf; split
    ·rename_i e; injection e with e1 e2; exact absurd e1 h
    ·rfl
   rw [h3]
   exact ⟨by unfold Lib.trimPrefix; rw [h2]; simp, h2⟩
theorem cut_point (l : List UInt8) : (Lib.hasPrefix l [46] = true ∧ tailPart l = trimR (· == 48) ((Lib.trimPrefix l [46]).takeWhile digitC)) ∨ (Lib.hasPrefix l [46] = false ∧ tailPart l = []) := by
 cases l with
 | nil => right; exact ⟨rfl, rfl⟩
 | cons a r =>
  by_cases h : a = 46
  ·subst h
   left
   have h2 : Lib.hasPrefix (46 :: r) [46] = true := by simp [Lib.hasPrefix]
   exact ⟨h2, by unfold Lib.trimPrefix; rw [h2]; rfl⟩
  ·right
   refine ⟨no_prefix h, ?_⟩
   unfold tailPart; split
   ·rename_i e; injection e with e1 e2; exact absurd e1 h
   ·rfl
theorem bs_app (a b : List UInt8) : (K.bs a ++ K.bs b).toList = a ++ b := by rw [Lib.toList_data, ByteArray.data_append, Array.toList_append, K.bs_toList, K.bs_toList]
theorem of_j0 (k : Nat) (m : Bool) (w p : List UInt8) (hw : w.length ≤ 4611686018427387) (hp : p.length ≤ 4611686018427387) :
  keys_of.j0 (k + 1) m 0 (K.bs w) (K.bs p) = some (if w.dropWhile (· == 48) = [] ∧ trimR (· == 48) p = [] then 0 else if m = true then -1 else 1, K.bs (w.dropWhile (· == 48)), K.bs (trimR (· == 48) p)) := by
 simp only [keys_of.j0]
 have e : (⟨#[48]⟩ : ByteArray).data.toList = [48] := rfl
 have h1 : (w.dropWhile (· == 48)).length ≤ w.length := (List.dropWhile_sublist _).length_le
 have h2 : (trimR (· == 48) p).length ≤ p.length := by
  unfold trimR
  rw [List.length_reverse]
  exact Nat.le_trans (List.dropWhile_sublist _).length_le (by rw [List.length_reverse]; exact Nat.le_refl _)
 rw [trimL_f _ _ (by decide) (by decide), Option.bind_some, trimR_f _ _ (by rw [K.bs_size]; omega) (by decide) (by decide), Option.bind_some, e, K.bs_toList, K.bs_toList, noughts_cut, noughts_back, K.bs_size, K.bs_size, if_pos (by omega), bs_app]
 by_cases h : w.dropWhile (· == 48) = [] ∧ trimR (· == 48) p = []
 ·rw [if_pos (by rw [h.1, h.2]; rfl), if_pos h]
 ·rw [if_neg (fun e => h (List.append_eq_nil_iff.1 e)), if_neg h]
  cases m
  ·rw [if_neg (by decide), if_neg (by decide)]
  ·rw [if_pos rfl, if_pos rfl]
theorem of_f (k : Nat) (s : ByteArray) (hs : s.size ≤ 4611686018427387) : keys_of.f (k + 1) s = some ((numL s.data.toList).sign, K.bs (numL s.data.toList).whole, K.bs (numL s.data.toList).part) := by
 have hz : s.data.toList.length = s.size := (Lib.size_eq s).symm
 have e1 : (⟨#[32, 9]⟩ : ByteArray).data.toList = [32, 9] := rfl
 have e2 : (⟨#[45]⟩ : ByteArray).data.toList = [45] := rfl
 have e3 : (⟨#[46]⟩ : ByteArray).data.toList = [46] := rfl
 unfold keys_of.f
 rw [trimL_f _ _ (by decide) (by decide), Option.bind_some, e1, trim_blanks]
 unfold strings_CutPrefix.f
 rw [Option.bind_some]
 simp only []
 try rw [e2]
 rw [K.bs_toList, (cut_minus _).1, (cut_minus _).2]
 have hd : (s.data.toList.dropWhile blankC).length ≤ s.data.toList.length := (List.dropWhile_sublist _).length_le
 have hm : (minusOf (s.data.toList.dropWhile blankC)).2.length ≤ s.data.toList.length := by
  refine Nat.le_trans ?_ hd
  generalize s.data.toList.dropWhile blankC = x
  unfold minusOf; split <;> simp
 have hnum : numL s.data.toList = ⟨if wholeOf (minusOf (s.data.toList.dropWhile blankC)).2 = [] ∧ partOf (minusOf (s.data.toList.dropWhile blankC)).2 = [] then 0 else if (minusOf (s.data.toList.dropWhile blankC)).1 = true then -1 else 1, wholeOf (minusOf (s.data.toList.dropWhile blankC)).2, partOf (minusOf (s.data.toList.dropWhile blankC)).2⟩ := rfl
 rw [hnum]
 generalize minusOf (s.data.toList.dropWhile blankC) = mm at *
 obtain ⟨m, x⟩ := mm
 simp only at hm ⊢
 have ht : (x.takeWhile digitC).length ≤ x.length := (List.takeWhile_sublist _).length_le
 have hdd : (x.dropWhile digitC).length ≤ x.length := (List.dropWhile_sublist _).length_le
 rw [digits_f _ (by rw [K.bs_size]; omega), Option.bind_some]
 simp only []
 rw [K.bs_toList, Option.bind_some]
 simp only []
 try rw [e3]
 rw [K.bs_toList, partOf_tail]
 unfold wholeOf
 rcases cut_point (x.dropWhile digitC) with ⟨h1, h2⟩ | ⟨h1, h2⟩
 ·have hl : (Lib.trimPrefix (x.dropWhile digitC) [46]).length ≤ (x.dropWhile digitC).length := by unfold Lib.trimPrefix; split <;> simp
  have hl2 : ((Lib.trimPrefix (x.dropWhile digitC) [46]).takeWhile digitC).length ≤ (Lib.trimPrefix (x.dropWhile digitC) [46]).length := (List.takeWhile_sublist _).length_le
  rw [if_pos h1, digits_f _ (by rw [K.bs_size]; omega), Option.bind_some]
  simp only []
  rw [K.bs_toList, of_j0 k m _ _ (by omega) (by omega), h2]
 ·have hb : (⟨#[]⟩ : ByteArray) = K.bs [] := rfl
  rw [if_neg (by rw [h1]; decide), hb, of_j0 k m _ [] (by omega) (by simp), h2]
  rfl
theorem cmpS_f (a b : ByteArray) : cmp_Compare_string.f a b = some (cmpB a.data.toList b.data.toList) := rfl
theorem or3 (k : Nat) (x y z : Int) : cmp_Or_int.f (k + 4) [x, y, z] = some (orC x (orC y z)) := by
 unfold cmp_Or_int.f orC
 have w1 : wrap64 ((0 : Int) + 1) = 1 := by unfold wrap64; omega
 have w2 : wrap64 ((1 : Int) + 1) = 2 := by unfold wrap64; omega
 have w3 : wrap64 ((2 : Int) + 1) = 3 := by unfold wrap64; omega
 have r0 : rd [x, y, z] 0 = x := rfl
 have r1 : rd [x, y, z] 1 = y := rfl
 have r2 : rd [x, y, z] 2 = z := rfl
 simp only [cmp_Or_int.l0, w1, w2, w3, r0, r1, r2]
 by_cases hx : x = 0 <;> by_cases hy : y = 0 <;> by_cases hz : z = 0 <;> simp [hx, hy, hz]
theorem or2 (k : Nat) (x y : Int) : cmp_Or_int.f (k + 3) [x, y] = some (orC x y) := by
 unfold cmp_Or_int.f orC
 have w1 : wrap64 ((0 : Int) + 1) = 1 := by unfold wrap64; omega
 have w2 : wrap64 ((1 : Int) + 1) = 2 := by unfold wrap64; omega
 have r0 : rd [x, y] 0 = x := rfl
 have r1 : rd [x, y] 1 = y := rfl
 simp only [cmp_Or_int.l0, w1, w2, r0, r1]
 by_cases hx : x = 0 <;> by_cases hy : y = 0 <;> simp [hx, hy]
theorem number_f (k : Nat) (a b : ByteArray) (ha : a.size ≤ 4611686018427387) (hb : b.size ≤ 4611686018427387) : keys_Number.f (k + 4) a b = some (numC a.data.toList b.data.toList) := by
 unfold keys_Number.f
 rw [of_f (k + 3) a ha, Option.bind_some, of_f (k + 3) b hb, Option.bind_some]
 unfold cmp_Compare_int.f
 simp only [Option.bind_some]
 rw [cmpS_f, Option.bind_some, cmpS_f, Option.bind_some, or3 k, Option.bind_some, K.bs_size, K.bs_size]
 simp only [K.bs_toList]
 have hw : wrap64 ((numL a.data.toList).sign * orC (cmpI ((numL a.data.toList).whole.length : Int) ((numL b.data.toList).whole.length : Int)) (orC (cmpB (numL a.data.toList).whole (numL b.data.toList).whole) (cmpB (numL a.data.toList).part (numL b.data.toList).part))) = (numL a.data.toList).sign * cmpW (numL a.data.toList) (numL b.data.toList) := by
  show wrap64 ((numL a.data.toList).sign * cmpW (numL a.data.toList) (numL b.data.toList)) = _
  have h1 := numL_sign a.data.toList
  have h2 := (((Ord.ints.map (fun x : Num => (x.whole.length : Int))).or ((Ord.bytes.map Num.whole).or (Ord.bytes.map Num.part)))).one (numL a.data.toList) (numL b.data.toList)
  have h3 : cmpW (numL a.data.toList) (numL b.data.toList) = -1 ∨ cmpW (numL a.data.toList) (numL b.data.toList) = 0 ∨ cmpW (numL a.data.toList) (numL b.data.toList) = 1 := h2
  rcases h1 with h | h | h <;> rw [h] <;> rcases h3 with g | g | g <;> rw [g] <;> (unfold wrap64; omega)
 rw [hw, or2 (k + 1), Option.bind_some]
 rfl
end Go.Proofs.YtlicjpbmlmongaaGreatDoor.Q

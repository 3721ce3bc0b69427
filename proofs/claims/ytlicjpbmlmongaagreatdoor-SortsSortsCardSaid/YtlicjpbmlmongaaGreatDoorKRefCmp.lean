/- Written by merge.py out of KRefKey, KRefNum, KRefCmp. -/
import Derived.Test.YtlicjpbmlmongaaGreatDoorQx13
import Derived.Test.YtlicjpbmlmongaaGreatDoorKGiven
import Derived.Test.YtlicjpbmlmongaaGreatDoorQx8
import Derived.Test.YtlicjpbmlmongaaGreatDoorQx15
import Derived.Test.YtlicjpbmlmongaaGreatDoorKComp
section
/- What ref05.Check, Parts, ref02.Fields and ref05.Key answer. -/
set_option linter.unusedVariables false
set_option linter.unusedSectionVars false
namespace Go.Proofs.YtlicjpbmlmongaaGreatDoor.K
open Go.RowKit Go.Proofs.YtlicjpbmlmongaaGreatDoor.H Go.Proofs.YtlicjpbmlmongaaGreatDoorW.PrintWords
/-! ### fields as lists -/
def sepF (c : UInt8) : List UInt8 → List UInt8 → List (List UInt8)
 | [], cur => [cur]
 | x :: r, cur => if x = c then cur :: sepF c r [] else sepF c r (cur ++ [x])
def blF : List UInt8 → List UInt8 → Bool → List (List UInt8)
 | [], cur, _ => if cur = [] then [] else [cur]
 | x :: r, cur, false => blF r (cur ++ [x]) (!blankC x)
 | x :: r, cur, true => if blankC x = true then cur :: blF r [x] false else blF r (cur ++ [x]) true
theorem Tile.more {gap x l : List UInt8} {fs : List (List UInt8)} {ps : List (Nat × Nat)} (hf : fs ≠ []) (h : Tile gap fs l ps) : Tile gap (x :: fs) (x ++ gap ++ l) ((0, x.length) :: shift (x.length + gap.length) ps) := by
 cases fs with
 | nil => exact absurd rfl hf
 | cons y fs => exact ⟨l, ps, rfl, rfl, h⟩
theorem sepF_some (c : UInt8) : ∀ r cur, sepF c r cur ≠ []
 | [], _ => by simp [sepF]
 | x :: r, cur => by
  unfold sepF
  split
  ·simp
  ·exact sepF_some c r _
theorem sep_tile (c : UInt8) : ∀ r cur, Tile [c] (sepF c r cur) (cur ++ r) (endsSep c r 0 cur.length)
 | [], cur => by simp [sepF, endsSep, Tile]
 | x :: r, cur => by
  unfold sepF endsSep
  by_cases hx : x = c
  ·rw [if_pos hx, if_pos hx]
   have e := Tile.more (x := cur) (sepF_some c r []) (sep_tile c r [])
   have e2 : endsSep c r (cur.length + 1) (cur.length + 1) = shift (cur.length + [c].length) (endsSep c r 0 ([] : List UInt8).length) := by
    rw [← endsSep_shift]; simp
   rw [e2, hx]
   simpa using e
  ·rw [if_neg hx, if_neg hx]
   have e := sep_tile c r (cur ++ [x])
   rw [List.length_append, List.append_assoc] at e
   exact e
theorem blF_some : ∀ r cur b, cur ≠ [] → blF r cur b ≠ []
 | [], cur, b, h => by simp [blF, h]
 | x :: r, cur, false, h => by unfold blF; exact blF_some r _ _ (by simp)
 | x :: r, cur, true, h => by
  unfold blF
  split
  ·simp
  ·exact blF_some r _ _ (by simp)
theorem bl_tile : ∀ r cur b, Tile [] (blF r cur b) (cur ++ r) (endsBl r 0 cur.length b)
 | [], cur, b => by
  unfold blF endsBl
  cases cur with
  | nil => simp [Tile]
  | cons y cur => simp [Tile]
 | x :: r, cur, false => by
  unfold blF endsBl
  have e := bl_tile r (cur ++ [x]) (!blankC x)
  rw [List.length_append, List.append_assoc] at e
  exact e
 | x :: r, cur, true => by
  unfold blF endsBl
  by_cases hx : blankC x = true
  ·rw [if_pos hx, if_pos hx]
   have e := Tile.more (x := cur) (blF_some r [x] false (by simp)) (bl_tile r [x] false)
   have e2 : endsBl r cur.length (cur.length + 1) false = shift (cur.length + ([] : List UInt8).length) (endsBl r 0 [x].length false) := by
    rw [← endsBl_shift]; simp; congr 1; omega
   rw [e2]
   simpa using e
  ·rw [if_neg hx, if_neg hx]
   have e := bl_tile r (cur ++ [x]) true
   rw [List.length_append, List.append_assoc] at e
   exact e
/-- The fields that a key is cut out of, and the gap between them. -/
def fieldsOf (c : UInt8) (l : List UInt8) : List (List UInt8) := if c = 0 then blF l [] false else sepF c l []
def gapOf (c : UInt8) : List UInt8 := if c = 0 then [] else [c]
theorem fields_tile (c : UInt8) (l : List UInt8) : Tile (gapOf c) (fieldsOf c l) l (endsOf c l) := by
 unfold gapOf fieldsOf endsOf
 by_cases h : c = 0
 ·rw [if_pos h, if_pos h, if_pos h]; exact bl_tile l [] false
 ·rw [if_neg h, if_neg h, if_neg h]; exact sep_tile c l []
/-! ### ref05.Parts -/
def cutOf (s : ByteArray) (a b : Nat) : List UInt8 := (s.data.toList.drop a).take (b - a)
theorem cut_cut (s : ByteArray) (a b : Nat) : s.extract a b = bs (cutOf s a b) := extract_bs s a b
theorem cut_self (s : ByteArray) (a : Nat) : cutOf s a a = [] := by unfold cutOf; rw [Nat.sub_self]; rfl
theorem cut_step (s : ByteArray) (a b : Nat) (h : a ≤ b) (hb : b < s.data.toList.length) : cutOf s a (b + 1) = cutOf s a b ++ [s.data.toList[b]] := by
 unfold cutOf
 rw [show b + 1 - a = (b - a) + 1 by omega, List.take_add_one, List.getElem?_drop, show a + (b - a) = b by omega, List.getElem?_eq_getElem hb]
 rfl
theorem cut_some (s : ByteArray) (a b : Nat) (h : a < b) (hb : b ≤ s.data.toList.length) : cutOf s a b ≠ [] := by
 intro e
 have := congrArg List.length e
 unfold cutOf at this
 rw [List.length_take, List.length_drop, List.length_nil] at this
 omega
theorem bt_l (s : ByteArray) (i : Nat) (h : i < s.data.toList.length) : bt s (i : Int) = ((s.data.toList[i]).toNat : Int) := by
 have h' : i < s.size := by rw [← Lib.size_eq] at h; exact h
 unfold bt
 rw [dif_pos (by simpa using h')]
 rfl
theorem blank_l (c : UInt8) : Q.toolchestref02_Blank.f (c.toNat : Int) = some (blankC c) := by
 unfold Q.toolchestref02_Blank.f blankC
 have e32 : (c.toNat : Int) = 32 ↔ c = 32 := by rw [← UInt8.toNat_inj]; show _ ↔ c.toNat = 32; omega
 have e9 : (c.toNat : Int) = 9 ↔ c = 9 := by rw [← UInt8.toNat_inj]; show _ ↔ c.toNat = 9; omega
 by_cases h : c = 32
 ·rw [if_pos (e32.2 h), h]; rfl
 ·rw [if_neg (fun e => h (e32.1 e))]
  congr 1
  rw [Bool.eq_iff_iff, beq_iff_eq, e9]
  simp [h]
theorem blank_at (s : ByteArray) (i : Nat) (h : i < s.data.toList.length) : Q.toolchestref02_Blank.f (bt s (i : Int)) = some (blankC s.data.toList[i]) := by
 rw [bt_l s i h]; exact blank_l _
theorem wrap_up (n : Nat) (h : n ≤ 1000000) : wrap64 ((n : Int) + 1) = ((n + 1 : Nat) : Int) := by unfold wrap64; omega
section
variable (s : ByteArray) (hs : s.size ≤ 1000000)
include hs
theorem l1_blank (k : Nat) (acc : List ByteArray) (i a : Nat) (h : i < s.data.toList.length) (hz : s.data.toList.length = s.size) (hb : blankC s.data.toList[i] = true) :
  Q.toolchestref05_Parts.l1 (k + 1) s acc (i : Int) (a : Int) = Q.toolchestref05_Parts.l1 k s acc ((i + 1 : Nat) : Int) (a : Int) := by
 rw [Q.toolchestref05_Parts.l1, if_pos (by omega), if_pos (by omega), blank_at s i h, Option.bind_some, if_pos hb, wrap_up i (by omega)]
theorem l1_else (k : Nat) (acc : List ByteArray) (i a : Nat) (h : i < s.data.toList.length) (hz : s.data.toList.length = s.size) (hb : blankC s.data.toList[i] = false) :
  Q.toolchestref05_Parts.l1 (k + 2) s acc (i : Int) (a : Int) = Q.toolchestref05_Parts.l2 k s acc (i : Int) (a : Int) := by
 rw [Q.toolchestref05_Parts.l1, if_pos (by omega), if_pos (by omega), blank_at s i h, Option.bind_some, if_neg (by rw [hb]; decide), Q.toolchestref05_Parts.j2]
theorem l1_end (k : Nat) (acc : List ByteArray) (i a : Nat) (h : ¬ i < s.size) :
  Q.toolchestref05_Parts.l1 (k + 2) s acc (i : Int) (a : Int) = Q.toolchestref05_Parts.l2 k s acc (i : Int) (a : Int) := by
 rw [Q.toolchestref05_Parts.l1, if_neg (by omega), Q.toolchestref05_Parts.j2]
theorem l2_on (k : Nat) (acc : List ByteArray) (i a : Nat) (h : i < s.data.toList.length) (hz : s.data.toList.length = s.size) (hb : blankC s.data.toList[i] = false) :
  Q.toolchestref05_Parts.l2 (k + 1) s acc (i : Int) (a : Int) = Q.toolchestref05_Parts.l2 k s acc ((i + 1 : Nat) : Int) (a : Int) := by
 rw [Q.toolchestref05_Parts.l2, if_pos (by omega), if_pos (by omega), blank_at s i h, Option.bind_some, if_neg (by rw [hb]; decide), wrap_up i (by omega)]
theorem l2_cut (k : Nat) (acc : List ByteArray) (i a : Nat) (h : i < s.data.toList.length) (hz : s.data.toList.length = s.size) (ha : a ≤ i) (hc : acc.length ≤ a) (hb : blankC s.data.toList[i] = true) :
  Q.toolchestref05_Parts.l2 (k + 1) s acc (i : Int) (a : Int) = Q.toolchestref05_Parts.l0 k s (acc ++ [bs (cutOf s a i)]) (i : Int) := by
 rw [Q.toolchestref05_Parts.l2, if_pos (by omega), if_pos (by omega), blank_at s i h, Option.bind_some, if_pos hb, if_pos (by omega), if_pos (by omega), if_pos (by omega), if_pos (by omega)]
 rw [← cut_cut]; rfl
theorem l2_end (k : Nat) (acc : List ByteArray) (i a : Nat) (h : ¬ i < s.size) (hi : i ≤ s.size) (ha : a ≤ i) (hc : acc.length ≤ a) :
  Q.toolchestref05_Parts.l2 (k + 1) s acc (i : Int) (a : Int) = Q.toolchestref05_Parts.l0 k s (acc ++ [bs (cutOf s a i)]) (i : Int) := by
 rw [Q.toolchestref05_Parts.l2, if_neg (by omega), if_pos (by omega), if_pos (by omega), if_pos (by omega), if_pos (by omega)]
 rw [← cut_cut]; rfl
theorem parts_loops (hz : s.data.toList.length = s.size) : ∀ n i, s.size - i = n → i ≤ s.size → ∀ (acc : List ByteArray) (a : Nat), a ≤ i → acc.length ≤ a →
  (a = i → ∃ k, Q.toolchestref05_Parts.l0 k s acc (i : Int) = some (acc ++ (blF (s.data.toList.drop i) [] false).map bs)) ∧
  (a < i → ∃ k, Q.toolchestref05_Parts.l1 k s acc (i : Int) (a : Int) = some (acc ++ (blF (s.data.toList.drop i) (cutOf s a i) false).map bs)) ∧
  (a < i → ∃ k, Q.toolchestref05_Parts.l2 k s acc (i : Int) (a : Int) = some (acc ++ (blF (s.data.toList.drop i) (cutOf s a i) true).map bs)) := by
 intro n
 induction n with
 | zero =>
  intro i hn hi
  have hd : s.data.toList.drop i = [] := List.drop_eq_nil_of_le (by omega)
  have A : ∀ acc : List ByteArray, Q.toolchestref05_Parts.l0 1 s acc (i : Int) = some acc := fun acc => by
   rw [Q.toolchestref05_Parts.l0, if_neg (by omega)]
  have C : ∀ (acc : List ByteArray) (a : Nat), a < i → acc.length ≤ a → Q.toolchestref05_Parts.l2 2 s acc (i : Int) (a : Int) = some (acc ++ [bs (cutOf s a i)]) := fun acc a ha hc => by
   rw [l2_end s hs 1 acc i a (by omega) hi (by omega) hc, A]
  intro acc a ha hc
  refine ⟨fun _ => ⟨1, by rw [A, hd]; simp [blF]⟩, fun h => ⟨4, ?_⟩, fun h => ⟨2, ?_⟩⟩
  ·rw [l1_end s hs 2 acc i a (by omega), C acc a h hc, hd]
   simp [blF, cut_some s a i h (by omega)]
  ·rw [C acc a h hc, hd]
   simp [blF, cut_some s a i h (by omega)]
 | succ n ih =>
  intro i hn hi
  have hl : i < s.data.toList.length := by omega
  have hd := List.drop_eq_getElem_cons hl
  have IH := ih (i + 1) (by omega) (by omega)
  have A : ∀ acc : List ByteArray, acc.length ≤ i → ∃ k, Q.toolchestref05_Parts.l0 k s acc (i : Int) = some (acc ++ (blF (s.data.toList.drop i) [] false).map bs) := by
   intro acc hc
   obtain ⟨-, hB, hC⟩ := IH acc i (by omega) hc
   have e1 : cutOf s i (i + 1) = [s.data.toList[i]] := by rw [cut_step s i i (Nat.le_refl _) hl, cut_self]; rfl
   cases hb : blankC s.data.toList[i] with
   | true =>
    obtain ⟨k, hk⟩ := hB (by omega)
    refine ⟨k + 2, ?_⟩
    rw [Q.toolchestref05_Parts.l0, if_pos (by omega), l1_blank s hs k acc i i hl hz hb, hk, hd, blF, hb, e1]; rfl
   | false =>
    obtain ⟨k, hk⟩ := hC (by omega)
    refine ⟨k + 4, ?_⟩
    rw [Q.toolchestref05_Parts.l0, if_pos (by omega), l1_else s hs (k + 1) acc i i hl hz hb, l2_on s hs k acc i i hl hz hb, hk, hd, blF, hb, e1]; rfl
  intro acc a ha hc
  have e2 := cut_step s a i ha hl
  obtain ⟨-, hB, hC⟩ := IH acc a (by omega) hc
  refine ⟨fun h => A acc (by omega), fun h => ?_, fun h => ?_⟩
  ·cases hb : blankC s.data.toList[i] with
   | true =>
    obtain ⟨k, hk⟩ := hB (by omega)
    refine ⟨k + 1, ?_⟩
    rw [l1_blank s hs k acc i a hl hz hb, hk, hd, blF, hb, e2]; rfl
   | false =>
    obtain ⟨k, hk⟩ := hC (by omega)
    refine ⟨k + 3, ?_⟩
    rw [l1_else s hs (k + 1) acc i a hl hz hb, l2_on s hs k acc i a hl hz hb, hk, hd, blF, hb, e2]; rfl
  ·cases hb : blankC s.data.toList[i] with
   | true =>
    obtain ⟨k, hk⟩ := A (acc ++ [bs (cutOf s a i)]) (by simp; omega)
    refine ⟨k + 1, ?_⟩
    rw [l2_cut s hs k acc i a hl hz (by omega) hc hb, hk, hd, blF, blF, if_pos hb, hb]
    simp
   | false =>
    obtain ⟨k, hk⟩ := hC (by omega)
    refine ⟨k + 1, ?_⟩
    rw [l2_on s hs k acc i a hl hz hb, hk, hd, blF, if_neg (by rw [hb]; decide), e2]
theorem parts_f : ∃ k, Q.toolchestref05_Parts.f k s = some ((blF s.data.toList [] false).map bs) := by
 have hz : s.data.toList.length = s.size := (Lib.size_eq s).symm
 obtain ⟨k, hk⟩ := (parts_loops s hs hz s.size 0 (by omega) (by omega) [] 0 (Nat.le_refl _) (Nat.le_refl _)).1 rfl
 exact ⟨k, hk⟩
end
/-! ### ref02.Fields, by a byte -/
theorem byte_eq {x : UInt8} {c : Int} (hc : 0 ≤ c ∧ c ≤ 255) : (x.toNat : Int) = c ↔ x = Q.u8 c := by
 rw [← UInt8.toNat_inj]
 have := Q.u8_nat hc
 omega
section
variable (s : ByteArray) (hs : s.size ≤ 1000000) (c : Int) (hc : 0 ≤ c ∧ c ≤ 255) (hc0 : ¬ c = 0)
include hs hc hc0
theorem f_on (k : Nat) (acc : List ByteArray) (a i : Nat) (h : i < s.data.toList.length) (hz : s.data.toList.length = s.size) (hb : ¬ s.data.toList[i] = Q.u8 c) :
  Q.toolchestref02_Fields.l0 (k + 2) s c acc (a : Int) (i : Int) = Q.toolchestref02_Fields.l0 k s c acc (a : Int) ((i + 1 : Nat) : Int) := by
 rw [Q.toolchestref02_Fields.l0, if_pos (by omega), if_pos (by omega), if_neg hc0, if_pos (by omega), bt_l s i h, Q.toolchestref02_Fields.j1,
  if_pos (by rw [bne_iff_ne]; exact fun e => hb ((byte_eq hc).1 e)), wrap_up i (by omega)]
theorem f_cut (k : Nat) (acc : List ByteArray) (a i : Nat) (h : i < s.data.toList.length) (hz : s.data.toList.length = s.size) (ha : a ≤ i) (hl : acc.length ≤ a) (hb : s.data.toList[i] = Q.u8 c) :
  Q.toolchestref02_Fields.l0 (k + 2) s c acc (a : Int) (i : Int) = Q.toolchestref02_Fields.l0 k s c (acc ++ [bs (cutOf s a i)]) ((i + 1 : Nat) : Int) ((i + 1 : Nat) : Int) := by
 rw [Q.toolchestref02_Fields.l0, if_pos (by omega), if_pos (by omega), if_neg hc0, if_pos (by omega), bt_l s i h, Q.toolchestref02_Fields.j1,
  if_neg (by rw [bne_iff_ne]; exact fun e => e ((byte_eq hc).2 hb)), if_neg hc0, if_pos (by omega), if_pos (by omega), if_pos (by omega), if_pos (by omega), wrap_up i (by omega)]
 rw [← cut_cut]; rfl
theorem f_end (k : Nat) (acc : List ByteArray) (a i : Nat) (h : i = s.size) (ha : a ≤ i) (hl : acc.length ≤ a) :
  Q.toolchestref02_Fields.l0 (k + 3) s c acc (a : Int) (i : Int) = some (acc ++ [bs (cutOf s a i)]) := by
 rw [Q.toolchestref02_Fields.l0, if_pos (by omega), if_neg (by omega), Q.toolchestref02_Fields.j1,
  if_neg (by decide), if_neg hc0, if_pos (by omega), if_pos (by omega), if_pos (by omega), if_pos (by omega), wrap_up i (by omega), Q.toolchestref02_Fields.l0, if_neg (by omega)]
 rw [← cut_cut]; rfl
theorem fields_loop (hz : s.data.toList.length = s.size) : ∀ n i, s.size - i = n → i ≤ s.size → ∀ (acc : List ByteArray) (a : Nat), a ≤ i → acc.length ≤ a →
  ∃ k, Q.toolchestref02_Fields.l0 k s c acc (a : Int) (i : Int) = some (acc ++ (sepF (Q.u8 c) (s.data.toList.drop i) (cutOf s a i)).map bs) := by
 intro n
 induction n with
 | zero =>
  intro i hn hi acc a ha hl
  refine ⟨3, ?_⟩
  rw [f_end s hs c hc hc0 0 acc a i (by omega) ha hl, List.drop_eq_nil_of_le (by omega)]
  rfl
 | succ n ih =>
  intro i hn hi acc a ha hl
  have h : i < s.data.toList.length := by omega
  by_cases hb : s.data.toList[i] = Q.u8 c
  ·obtain ⟨k, hk⟩ := ih (i + 1) (by omega) (by omega) (acc ++ [bs (cutOf s a i)]) (i + 1) (Nat.le_refl _) (by simp; omega)
   refine ⟨k + 2, ?_⟩
   rw [f_cut s hs c hc hc0 k acc a i h hz ha hl hb, hk, List.drop_eq_getElem_cons h, sepF, if_pos hb, cut_self]
   simp
  ·obtain ⟨k, hk⟩ := ih (i + 1) (by omega) (by omega) acc a (by omega) hl
   refine ⟨k + 2, ?_⟩
   rw [f_on s hs c hc hc0 k acc a i h hz hb, hk, List.drop_eq_getElem_cons h, sepF, if_neg hb, cut_step s a i ha h]
theorem fields_f : ∃ k, Q.toolchestref02_Fields.f k s c = some ((sepF (Q.u8 c) s.data.toList []).map bs) := by
 have hz : s.data.toList.length = s.size := (Lib.size_eq s).symm
 obtain ⟨k, hk⟩ := fields_loop s hs c hc hc0 hz s.size 0 (by omega) (by omega) [] 0 (Nat.le_refl _) (Nat.le_refl _)
 exact ⟨k, by unfold Q.toolchestref02_Fields.f; rw [show (0 : Int) = ((0 : Nat) : Int) from rfl, hk]; rfl⟩
end
/-! ### ref05.Key -/
theorem joinG_snoc (g : List UInt8) (y : List UInt8) : ∀ l : List (List UInt8), joinG g (l ++ [y]) = if l = [] then y else joinG g l ++ g ++ y
 | [] => rfl
 | [x] => by simp [joinG]
 | x :: z :: l => by
  have ih := joinG_snoc g y (z :: l)
  rw [if_neg (by simp)] at ih ⊢
  show x ++ g ++ joinG g ((z :: l) ++ [y]) = x ++ g ++ joinG g (z :: l) ++ g ++ y
  rw [ih]
  simp [List.append_assoc]
theorem bs_append (a b : List UInt8) : bs a ++ bs b = bs (a ++ b) := by
 have e : (bs a ++ bs b).data.toList = a ++ b := by rw [ByteArray.data_append, Array.toList_append, bs_toList, bs_toList]
 rw [← bs_of (bs a ++ bs b), e]
section
variable (nu fo bl re : Bool) (t c : Int) (fs : List (List UInt8)) (g : List UInt8) (p m : Nat) (hn : fs.length ≤ 1000001) (hp : p ≤ 1000) (hm : m = if t = 0 then fs.length else min t.toNat fs.length) (ht : 0 ≤ t) (hg : g.length ≤ 1)
 (hL : ∀ j, j ≤ m - p → (joinG g ((fs.drop p).take j)).length ≤ 1000000)
include hn hp hm ht hg hL
theorem key_loop : ∀ n j, m - p - j = n → j ≤ m - p → ∃ k, Q.toolchestref05_Key.l0 k (fs.map bs) (bs g) (bs (joinG g ((fs.drop p).take j))) ((p + 1 + j : Nat) : Int) nu fo bl re ((p + 1 : Nat) : Int) t c = some (bs (joinG g ((fs.drop p).take (m - p)))) := by
 intro n
 induction n with
 | zero =>
  intro j hj hjm
  obtain rfl : j = m - p := by omega
  refine ⟨2, ?_⟩
  rw [Q.toolchestref05_Key.l0, List.length_map]
  by_cases h1 : ((p + 1 + (m - p) : Nat) : Int) ≤ (fs.length : Int)
  ·rw [if_pos h1]
   by_cases h2 : t = 0
   ·rw [if_pos h2] at hm; omega
   ·rw [if_neg h2] at hm ⊢
    rw [Q.toolchestref05_Key.j2, if_neg (by rw [decide_eq_true_eq]; omega)]
  ·rw [if_neg h1, Q.toolchestref05_Key.j2, if_neg (by decide)]
 | succ n ih =>
  intro j hj hjm
  have hj1 : j < m - p := by omega
  have hmn : m ≤ fs.length := by rw [hm]; split <;> omega
  obtain ⟨k, hk⟩ := ih (j + 1) (by omega) (by omega)
  refine ⟨k + 2, ?_⟩
  have hpj : p + j < fs.length := by omega
  have hidx : wrap64 (((p + 1 + j : Nat) : Int) - 1) = ((p + j : Nat) : Int) := by unfold wrap64; omega
  have hrd : rdOf ByteArray.empty (fs.map bs) ((p + j : Nat) : Int) = bs fs[p + j] := by
   unfold rdOf
   rw [Int.toNat_natCast, List.getD_eq_getElem?_getD, List.getElem?_map, List.getElem?_eq_getElem hpj]; rfl
  have htk : (fs.drop p).take (j + 1) = (fs.drop p).take j ++ [fs[p + j]] := by
   rw [List.take_add_one, List.getElem?_drop, List.getElem?_eq_getElem hpj]; rfl
  have hL0 := hL j (by omega)
  have hL1 := hL (j + 1) (by omega)
  rw [htk, joinG_snoc] at hL1 hk
  have hgo : Q.toolchestref05_Key.l0 (k + 2) (fs.map bs) (bs g) (bs (joinG g ((fs.drop p).take j))) ((p + 1 + j : Nat) : Int) nu fo bl re ((p + 1 : Nat) : Int) t c =
    Q.toolchestref05_Key.j2 (k + 1) (fs.map bs) (bs g) (bs (joinG g ((fs.drop p).take j))) ((p + 1 + j : Nat) : Int) true nu fo bl re ((p + 1 : Nat) : Int) t c := by
   rw [Q.toolchestref05_Key.l0, List.length_map, if_pos (by omega)]
   by_cases h2 : t = 0
   ·rw [if_pos h2]
   ·rw [if_neg h2] at hm ⊢
    rw [decide_eq_true (by omega)]
  rw [hgo, Q.toolchestref05_Key.j2, if_pos rfl]
  have hup : wrap64 (((p + 1 + j : Nat) : Int) + 1) = ((p + 1 + (j + 1) : Nat) : Int) := by unfold wrap64; omega
  have c1 : (0 : Int) ≤ ((p + j : Nat) : Int) := Int.natCast_nonneg _
  have c2 : ((p + j : Nat) : Int) < (fs.length : Int) := Int.ofNat_lt.2 hpj
  clear hm hmn hjm hj hj1 hL hn
  by_cases h0 : j = 0
  ·subst h0
   have e0 : (fs.drop p).take 0 = [] := rfl
   have ej : joinG g ([] : List (List UInt8)) = [] := rfl
   rw [e0, if_pos rfl] at hk hL1
   rw [if_neg (by omega), hidx, if_pos c1, List.length_map, if_pos c2, hrd, e0, ej]
   rw [if_pos (by rw [bs_size, bs_size, List.length_nil]; omega), hup, bs_append, List.nil_append]
   exact hk
  ·have hne : (fs.drop p).take j ≠ [] := by
    intro e
    have := congrArg List.length e
    rw [List.length_take, List.length_drop, List.length_nil] at this
    omega
   rw [if_neg hne] at hk hL1
   rw [List.length_append, List.length_append] at hL1
   rw [if_pos (by omega), if_pos (by rw [bs_size, bs_size]; omega), hidx, if_pos c1, List.length_map, if_pos c2, hrd, bs_append, bs_append, if_pos (by rw [bs_size, bs_size, List.length_append]; omega), hup]
   exact hk
end
theorem refCheck_f (nu fo bl re : Bool) (f t c : Int) (hc : 0 ≤ c ∧ c ≤ 255) : Q.toolchestref05_Check.f nu fo bl re f t c = some (checkO f t (Q.u8 c)) := by
 have hu := Q.u8_nat hc
 have h10 : c = 10 ↔ Q.u8 c = 10 := by
  rw [← UInt8.toNat_inj]
  show _ ↔ (Q.u8 c).toNat = 10
  omega
 generalize Q.u8 c = cb at h10 ⊢
 clear hu
 unfold Q.toolchestref05_Check.f checkO
 by_cases h1 : f < 0
 ·rw [if_pos h1]; congr 1; symm; rw [decide_eq_false_iff_not]; omega
 ·rw [if_neg h1]
  by_cases h2 : f > 1000
  ·rw [if_pos h2]; congr 1; symm; rw [decide_eq_false_iff_not]; omega
  ·rw [if_neg h2]
   by_cases h3 : c = 10
   ·rw [if_pos h3]; congr 1; symm; rw [decide_eq_false_iff_not]; exact fun e => e.2.2.1 (h10.1 h3)
   ·rw [if_neg h3]
    have h3' : cb ≠ 10 := fun e => h3 (h10.2 e)
    by_cases h4 : t = 0
    ·rw [if_pos h4]; congr 1; symm; rw [decide_eq_true_eq]; exact ⟨by omega, by omega, h3', .inl h4⟩
    ·rw [if_neg h4]
     by_cases h5 : f > 0
     ·rw [if_pos h5]
      by_cases h6 : t ≥ f
      ·rw [if_pos h6]; congr 1; rw [decide_eq_decide]
       exact ⟨fun h => ⟨by omega, by omega, h3', .inr ⟨h5, h6, h⟩⟩, fun h => by have := h.2.2.2; omega⟩
      ·rw [if_neg h6]; congr 1; symm; rw [decide_eq_false_iff_not]; intro h; have := h.2.2.2; omega
     ·rw [if_neg h5]; congr 1; symm; rw [decide_eq_false_iff_not]; intro h; have := h.2.2.2; omega
theorem lift {α : Type} {F : Nat → Option α} (hm : ∀ k, LeO (F k) (F (k + 1))) {k : Nat} {r : α} (h : F k = some r) : ∀ d, F (k + d) = some r
 | 0 => h
 | d + 1 => hm _ _ (lift hm h d)
theorem fieldsOf_len (c : UInt8) (l : List UInt8) : (fieldsOf c l).length ≤ l.length + 1 := by
 rw [← (fields_tile c l).len]; exact ends_len c l
theorem cutL_len (a b : Nat) (l : List UInt8) : (cutL a b l).length ≤ l.length := by
 unfold cutL; rw [List.length_take, List.length_drop]; omega
theorem refKey_f (nu fo bl re : Bool) (f t c : Int) (hc : 0 ≤ c ∧ c ≤ 255) (s : ByteArray) (hs : s.size ≤ 1000000) : ∃ k, Q.toolchestref05_Key.f k nu fo bl re f t c s = some (bs (keyO f t (Q.u8 c) s.data.toList)) := by
 have hz : s.data.toList.length = s.size := (Lib.size_eq s).symm
 cases hck : checkO f t (Q.u8 c) with
 | false =>
  refine ⟨0, ?_⟩
  unfold Q.toolchestref05_Key.f keyO
  rw [refCheck_f nu fo bl re f t c hc, Option.bind_some, hck, if_neg (by decide), if_neg (by decide)]
  rfl
 | true =>
  have hck2 := hck
  unfold checkO at hck2
  rw [decide_eq_true_eq] at hck2
  obtain ⟨q1, q2, q3, q4⟩ := hck2
  by_cases hf : f = 0
  ·refine ⟨0, ?_⟩
   unfold Q.toolchestref05_Key.f keyO
   rw [refCheck_f nu fo bl re f t c hc, Option.bind_some, hck, if_pos rfl, if_pos hf, if_pos rfl, if_pos hf, bs_of]
  ·have ht : t = 0 ∨ f ≤ t := by omega
   have ht0 : 0 ≤ t := by omega
   have hT := fields_tile (Q.u8 c) s.data.toList
   have hkey := Tile.key hT f t (by omega) ht
   have hn : (fieldsOf (Q.u8 c) s.data.toList).length ≤ 1000001 := by have := fieldsOf_len (Q.u8 c) s.data.toList; omega
   have hg : (gapOf (Q.u8 c)).length ≤ 1 := by unfold gapOf; split <;> simp
   obtain ⟨p, hp⟩ : ∃ p : Nat, f = ((p + 1 : Nat) : Int) := ⟨(f - 1).toNat, by omega⟩
   have hpe : (f - 1).toNat = p := by omega
   have hp0 : p ≤ 1000 := by omega
   rw [hpe] at hkey
   have hL : ∀ j, j ≤ (if t = 0 then (fieldsOf (Q.u8 c) s.data.toList).length else min t.toNat (fieldsOf (Q.u8 c) s.data.toList).length) - p → (joinG (gapOf (Q.u8 c)) (((fieldsOf (Q.u8 c) s.data.toList).drop p).take j)).length ≤ 1000000 := by
    intro j hj
    cases j with
    | zero => exact Nat.zero_le _
    | succ j =>
     have e := Tile.key hT f ((p + 1 + j : Nat) : Int) (by omega) (.inr (by omega))
     rw [hpe, if_neg (by omega)] at e
     have hmin : min ((p + 1 + j : Nat) : Int).toNat (fieldsOf (Q.u8 c) s.data.toList).length - p = j + 1 := by
      rw [Int.toNat_natCast]
      have : (if t = 0 then (fieldsOf (Q.u8 c) s.data.toList).length else min t.toNat (fieldsOf (Q.u8 c) s.data.toList).length) ≤ (fieldsOf (Q.u8 c) s.data.toList).length := by split <;> omega
      omega
     rw [hmin] at e
     rw [← e]
     unfold keyP
     exact Nat.le_trans (cutL_len _ _ _) (by omega)
   obtain ⟨k3, hk3⟩ := key_loop nu fo bl re t c (fieldsOf (Q.u8 c) s.data.toList) (gapOf (Q.u8 c)) p _ hn hp0 rfl ht0 hg hL _ 0 rfl (Nat.zero_le _)
   obtain ⟨k1, hk1⟩ := parts_f s hs
   have hK : keyO f t (Q.u8 c) s.data.toList = joinG (gapOf (Q.u8 c)) (((fieldsOf (Q.u8 c) s.data.toList).drop p).take ((if t = 0 then (fieldsOf (Q.u8 c) s.data.toList).length else min t.toNat (fieldsOf (Q.u8 c) s.data.toList).length) - p)) := by
    unfold keyO
    rw [if_pos hck, if_neg hf, hkey]
   have hj : Q.toolchestref05_Key.j0 (k3 + 1) ((fieldsOf (Q.u8 c) s.data.toList).map bs) (bs (gapOf (Q.u8 c))) nu fo bl re f t c = some (bs (keyO f t (Q.u8 c) s.data.toList)) := by
    rw [Q.toolchestref05_Key.j0, hK, hp]
    exact hk3
   have lj := fun d => lift (F := fun k => Q.toolchestref05_Key.j0 k ((fieldsOf (Q.u8 c) s.data.toList).map bs) (bs (gapOf (Q.u8 c))) nu fo bl re f t c) (fun k => (Q.toolchestref05_Key.mono_l k).1 _ _ _ _ _ _ _ _ _) hj d
   have l1 := fun d => lift (F := fun k => Q.toolchestref05_Parts.f k s) (fun k => Q.toolchestref05_Parts.mono s k) hk1 d
   by_cases hc0 : c = 0
   ·refine ⟨k1 + (k3 + 1), ?_⟩
    have hu0 : Q.u8 c = 0 := by rw [hc0]; rfl
    have eF : fieldsOf (Q.u8 c) s.data.toList = blF s.data.toList [] false := by unfold fieldsOf; rw [if_pos hu0]
    have eG : bs (gapOf (Q.u8 c)) = (⟨#[]⟩ : ByteArray) := by unfold gapOf; rw [if_pos hu0]; rfl
    unfold Q.toolchestref05_Key.f
    rw [refCheck_f nu fo bl re f t c hc, Option.bind_some, hck, if_pos rfl, if_neg hf, l1 (k3 + 1), Option.bind_some, if_pos hc0, ← eF, ← eG, Nat.add_comm k1 (k3 + 1)]
    exact lj k1
   ·obtain ⟨k2, hk2⟩ := fields_f s hs c hc hc0
    have l2 := fun d => lift (F := fun k => Q.toolchestref02_Fields.f k s c) (fun k => Q.toolchestref02_Fields.mono s c k) hk2 d
    refine ⟨k1 + k2 + (k3 + 1), ?_⟩
    have hu0 : ¬ Q.u8 c = 0 := fun e => by
     have := Q.u8_nat hc
     rw [e] at this
     exact hc0 this.symm
    have eF : fieldsOf (Q.u8 c) s.data.toList = sepF (Q.u8 c) s.data.toList [] := by unfold fieldsOf; rw [if_neg hu0]
    have eG : bs (gapOf (Q.u8 c)) = strOfNums [c] := by unfold gapOf; rw [if_neg hu0]; rfl
    unfold Q.toolchestref05_Key.f
    rw [refCheck_f nu fo bl re f t c hc, Option.bind_some, hck, if_pos rfl, if_neg hf, show k1 + k2 + (k3 + 1) = k1 + (k2 + (k3 + 1)) by omega, l1 (k2 + (k3 + 1)), Option.bind_some, if_neg hc0,
     show k1 + (k2 + (k3 + 1)) = k2 + (k1 + (k3 + 1)) by omega, l2 (k1 + (k3 + 1)), Option.bind_some, ← eF, ← eG, show k2 + (k1 + (k3 + 1)) = (k3 + 1) + (k1 + k2) by omega]
    exact lj (k1 + k2)
end Go.Proofs.YtlicjpbmlmongaaGreatDoor.K
end
section
/- What ref05.Number and ref05.bytes answer. -/
set_option linter.unusedVariables false
namespace Go.Proofs.YtlicjpbmlmongaaGreatDoor.K
open Go.RowKit Go.Proofs.YtlicjpbmlmongaaGreatDoor.H Go.Proofs.YtlicjpbmlmongaaGreatDoorW.PrintWords
theorem bs_list (l : List UInt8) : (bs l).toList = l := by rw [Lib.toList_data, bs_toList]
theorem bytes_f (a b : ByteArray) : Q.toolchestref05_bytes.f a b = some (cmpB a.data.toList b.data.toList) := by
 unfold Q.toolchestref05_bytes.f cmpB
 rw [Lib.toList_data, Lib.toList_data]
 split
 ·rfl
 ·split <;> rfl
theorem cmpB_nz {a b : List UInt8} (h : ¬ a = b) : ¬ cmpB a b = 0 := by
 unfold cmpB
 intro e
 by_cases h1 : Op.bytesLess a b = true
 ·rw [if_pos h1] at e; omega
 ·rw [if_neg h1] at e
  by_cases h2 : Op.bytesLess b a = true
  ·rw [if_pos h2] at e; omega
  ·exact h (less_total a b (by simpa using h1) (by simpa using h2))
theorem cmpB_self (a : List UInt8) : cmpB a a = 0 := by unfold cmpB; rw [less_irrefl]; rfl
theorem mul_wrap {x y : Int} (hx : x = -1 ∨ x = 0 ∨ x = 1) (hy : y = -1 ∨ y = 0 ∨ y = 1) : wrap64 (x * y) = y * x := by
 rcases hx with h | h | h <;> rcases hy with g | g | g <;> rw [h, g] <;> (unfold wrap64; omega)
theorem cmpB_one (a b : List UInt8) : cmpB a b = -1 ∨ cmpB a b = 0 ∨ cmpB a b = 1 := by
 unfold cmpB; split
 ·exact .inl rfl
 ·split
  ·exact .inr (.inr rfl)
  ·exact .inr (.inl rfl)
theorem refNumber_f (a b : ByteArray) (ha : a.size ≤ 4611686018427387) (hb : b.size ≤ 4611686018427387) : Q.toolchestref05_Number.f a b = some (numC a.data.toList b.data.toList) := by
 unfold Q.toolchestref05_Number.f Q.toolchestref05_Of.f
 rw [if_pos ha, if_pos hb, Option.bind_some, Option.bind_some]
 have hsx := numL_sign a.data.toList
 have hsy := numL_sign b.data.toList
 unfold numC
 generalize numL a.data.toList = x at hsx ⊢
 generalize numL b.data.toList = y at hsy ⊢
 dsimp only
 rw [bs_list, bs_list, bytes_f, bytes_f, bs_toList, bs_toList, bs_toList, bs_toList, bs_size, bs_size]
 unfold cmpN cmpW
 by_cases h1 : x.sign = y.sign
 ·rw [if_pos h1, show cmpI x.sign y.sign = 0 by rw [h1]; unfold cmpI; simp]
  unfold orC
  rw [if_pos rfl]
  by_cases h2 : (x.whole.length : Int) = (y.whole.length : Int)
  ·rw [if_pos h2, show cmpI (x.whole.length : Int) (y.whole.length : Int) = 0 by rw [h2]; unfold cmpI; simp, if_pos rfl]
   by_cases h3 : x.whole = y.whole
   ·rw [if_pos h3, Option.bind_some, mul_wrap (cmpB_one _ _) hsx, if_pos (by rw [h3]; exact cmpB_self _)]
   ·rw [if_neg h3, Option.bind_some, mul_wrap (cmpB_one _ _) hsx, if_neg (cmpB_nz h3)]
  ·rw [if_neg h2]
   have hne : ¬ cmpI (x.whole.length : Int) (y.whole.length : Int) = 0 := by
    unfold cmpI; split
    ·decide
    ·split
     ·decide
     ·omega
   rw [if_neg hne]
   by_cases h4 : (x.whole.length : Int) < (y.whole.length : Int)
   ·rw [if_pos h4, mul_wrap (.inl rfl) hsx]
    unfold cmpI; rw [if_pos h4]
   ·rw [if_neg h4, mul_wrap (.inr (.inr rfl)) hsx]
    unfold cmpI; rw [if_neg h4, if_pos (by omega)]
 ·rw [if_neg h1]
  have hne : ¬ cmpI x.sign y.sign = 0 := by
   unfold cmpI; split
   ·decide
   ·split
    ·decide
    ·omega
  unfold orC
  rw [if_neg hne]
  unfold cmpI
  by_cases h4 : x.sign < y.sign
  ·rw [if_pos h4, if_pos h4]
  ·rw [if_neg h4, if_neg h4, if_pos (by omega)]
end Go.Proofs.YtlicjpbmlmongaaGreatDoor.K
end
section
/- The reference compares as the plain order does. -/
set_option linter.unusedVariables false
namespace Go.Proofs.YtlicjpbmlmongaaGreatDoor.Pure
open Go.RowKit Go.Proofs.YtlicjpbmlmongaaGreatDoor.H Go.Proofs.YtlicjpbmlmongaaGreatDoorW.PrintWords Go.Proofs.YtlicjpbmlmongaaGreatDoor.K
theorem key_size (f t : Int) (c : UInt8) (s : ByteArray) : (bs (keyO f t c s.data.toList)).size ≤ s.size := by
 rw [bs_size, Lib.size_eq]; exact keyO_len f t c _
theorem refCompare_f (nu fo bl re : Bool) (f t c : Int) (hc : 0 ≤ c ∧ c ≤ 255) (a b : ByteArray) (ha : a.size ≤ 1000000) (hb : b.size ≤ 1000000) :
  ∃ k, Q.toolchestref05_Compare.f k nu fo bl re f t c a b = some (cmpO nu fo bl re f t (Q.u8 c) a.data.toList b.data.toList) := by
 cases hck : checkO f t (Q.u8 c) with
 | false =>
  refine ⟨0, ?_⟩
  unfold Q.toolchestref05_Compare.f cmpO
  rw [refCheck_f nu fo bl re f t c hc, Option.bind_some, hck, if_neg (by decide), if_neg (by decide)]
 | true =>
  obtain ⟨k1, hk1⟩ := refKey_f nu fo bl re f t c hc a ha
  obtain ⟨k2, hk2⟩ := refKey_f nu fo bl re f t c hc b hb
  have l1 := fun d => lift (F := fun k => Q.toolchestref05_Key.f k nu fo bl re f t c a) (fun k => Q.toolchestref05_Key.mono nu fo bl re f t c a k) hk1 d
  have l2 := fun d => lift (F := fun k => Q.toolchestref05_Key.f k nu fo bl re f t c b) (fun k => Q.toolchestref05_Key.mono nu fo bl re f t c b k) hk2 d
  have s1 := key_size f t (Q.u8 c) a
  have s2 := key_size f t (Q.u8 c) b
  refine ⟨k1 + k2, ?_⟩
  unfold Q.toolchestref05_Compare.f cmpO byO
  rw [refCheck_f nu fo bl re f t c hc, Option.bind_some, hck, if_pos rfl, if_pos rfl, l1 k2, Option.bind_some, Nat.add_comm k1 k2, l2 k1, Option.bind_some]
  have hneg : ∀ x y, wrap64 (-numC x y) = -numC x y := fun x y => one_neg (Ord.num.one x y)
  have hnegB : ∀ x y, wrap64 (-cmpB x y) = -cmpB x y := fun x y => one_neg (cmpB_one x y)
  cases nu with
  | true =>
   rw [if_pos rfl, if_pos rfl, refNumber_f _ _ (by omega) (by omega), Option.bind_some, bs_toList, bs_toList, hneg]
   cases re <;> rfl
  | false =>
   simp only [if_neg (show ¬ ((false : Bool) = true) by decide)]
   unfold Q.toolchestref05_fit.f
   rw [if_pos (by omega), if_pos (by omega), Option.bind_some, Option.bind_some, bytes_f, Option.bind_some, bs_toList, bs_toList, bs_toList, bs_toList, hnegB]
   split <;> rfl
end Go.Proofs.YtlicjpbmlmongaaGreatDoor.Pure
end

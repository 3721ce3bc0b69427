/- Written by merge.py out of Evs, Heap, SOrd0, SPile, SRow, SPile2, SHeapW, Twin, SSort. -/
import Derived.Test.YtlicjpbmlmongaaGreatDoorHelp
import Derived.Test.YtlicjpbmlmongaaGreatDoorWMore
import Derived.Lib.Strings
import Derived.Test.YtlicjpbmlmongaaGreatDoorQx18
import Derived.Test.YtlicjpbmlmongaaGreatDoorKComp
import Derived.Deep.RegionHeld3
import Derived.RegionTactic
import Derived.Laws.OwnMore
import Derived.Deep.QuietTactic
import Derived.BigQuiet
import Derived.BigRegion
import Derived.IntWalk
import Derived.Handy
import Derived.Laws.MakeOwn
import Derived.Laws.Rows
import Derived.Deep.AppendLies
section
/- Rounds that suffice, untold how many; small words on numbers and bytes. -/
set_option linter.unusedVariables false
set_option linter.unusedSimpArgs false
namespace Go.Proofs.YtlicjpbmlmongaaGreatDoor.P
open Go.RowKit Go.Proofs.YtlicjpbmlmongaaGreatDoorW.PrintWords Go.Proofs.YtlicjpbmlmongaaGreatDoorW.PrintLast
/-- With rounds enough, g tells r. -/
def Ev {α : Type} (g : Nat → Option α) (r : α) : Prop := ∃ k0, ∀ k, k0 ≤ k → g k = some r
theorem Ev.step {α : Type} {g G : Nat → Option α} {r : α} (h : Ev g r) (hg : ∀ k, g k = some r → G (k + 1) = some r) : Ev G r := by
 obtain ⟨k0, hk⟩ := h
 refine ⟨k0 + 1, fun k hk1 => ?_⟩
 obtain ⟨j, rfl⟩ : ∃ j, k = j + 1 := ⟨k - 1, by omega⟩
 exact hg j (hk j (by omega))
theorem Ev.next {α β : Type} {g : Nat → Option α} {G : Nat → Option β} {r : α} {s : β} (h : Ev g r) (hg : ∀ k, g k = some r → G (k + 1) = some s) : Ev G s := by
 obtain ⟨k0, hk⟩ := h
 refine ⟨k0 + 1, fun k hk1 => ?_⟩
 obtain ⟨j, rfl⟩ : ∃ j, k = j + 1 := ⟨k - 1, by omega⟩
 exact hg j (hk j (by omega))
theorem Ev.now {α : Type} {G : Nat → Option α} {r : α} (hg : ∀ k, G (k + 1) = some r) : Ev G r := by
 refine ⟨1, fun k hk1 => ?_⟩
 obtain ⟨j, rfl⟩ : ∃ j, k = j + 1 := ⟨k - 1, by omega⟩
 exact hg j
theorem Ev.map {α β : Type} {g : Nat → Option α} {G : Nat → Option β} {r : α} {s : β} (h : Ev g r) (hg : ∀ k, g k = some r → G k = some s) : Ev G s := by
 obtain ⟨k0, hk⟩ := h
 exact ⟨k0, fun k hk1 => hg k (hk k hk1)⟩
theorem Ev.and {α β : Type} {g : Nat → Option α} {h : Nat → Option β} {r : α} {s : β} (x : Ev g r) (y : Ev h s) : ∃ k0, ∀ k, k0 ≤ k → g k = some r ∧ h k = some s := by
 obtain ⟨a, ha⟩ := x
 obtain ⟨b, hb⟩ := y
 exact ⟨max a b, fun k hk => ⟨ha k (by omega), hb k (by omega)⟩⟩
theorem Ev.at_ {α : Type} {g : Nat → Option α} {r : α} (x : Ev g r) : ∃ k, g k = some r := by obtain ⟨a, ha⟩ := x; exact ⟨a, ha a (Nat.le_refl _)⟩
theorem rdOf_at (l : List ByteArray) (i : Nat) (h : i < l.length) : rdOf ByteArray.empty l (i : Int) = l[i] := by simp [rdOf, List.getD_eq_getElem?_getD, List.getElem?_eq_getElem h]
theorem nat_lt {a b : Nat} (h : a < b) : (a : Int) < (b : Int) := by omega
theorem nat_le {a b : Nat} (h : a ≤ b) : (a : Int) ≤ (b : Int) := by omega
theorem not_nat_lt {a b : Nat} (h : ¬ a < b) : ¬ (a : Int) < (b : Int) := by omega
theorem nat_nn (a : Nat) : (0 : Int) ≤ (a : Int) := by omega
theorem wrap_one (a : Nat) (h : a ≤ 4000000000000000) : wrap64 ((a : Int) + 1) = ((a + 1 : Nat) : Int) := by unfold wrap64; omega
end Go.Proofs.YtlicjpbmlmongaaGreatDoor.P
end
section
/- Heaps over lists, and what they give out: no program in sight. -/
set_option linter.unusedVariables false
set_option linter.unusedSimpArgs false
namespace Go.Proofs.YtlicjpbmlmongaaGreatDoor.Hp
variable {α : Type}
def swapL (d : α) (l : List α) (i j : Nat) : List α := (l.set i (l.getD j d)).set j (l.getD i d)
theorem swap_len (d : α) (l : List α) (i j : Nat) : (swapL d l i j).length = l.length := by simp [swapL]
theorem getD_at (d : α) (l : List α) (i : Nat) (h : i < l.length) : l.getD i d = l[i] := by rw [List.getD_eq_getElem?_getD, List.getElem?_eq_getElem h]; rfl
theorem getD_set (d : α) (l : List α) (i k : Nat) (x : α) (h : i < l.length) : (l.set i x).getD k d = if k = i then x else l.getD k d := by
 rw [List.getD_eq_getElem?_getD, List.getD_eq_getElem?_getD, List.getElem?_set]
 by_cases e : i = k
 ·subst e; rw [if_pos rfl, if_pos h, if_pos rfl]; rfl
 ·rw [if_neg e, if_neg (fun e2 => e e2.symm)]
theorem swap_at (d : α) (l : List α) (i j k : Nat) (hi : i < l.length) (hj : j < l.length) : (swapL d l i j).getD k d = if k = j then l.getD i d else if k = i then l.getD j d else l.getD k d := by
 unfold swapL
 rw [getD_set _ _ _ _ _ (by simpa using hj), getD_set _ _ _ _ _ hi]
theorem swap_perm (d : α) (l : List α) (i j : Nat) (hi : i < l.length) (hj : j < l.length) : (swapL d l i j).Perm l := by
 unfold swapL
 rw [getD_at d l i hi, getD_at d l j hj]
 exact List.set_set_perm hi hj
/-- The lesser one of two children. -/
def pick (lt : α → α → Bool) (d : α) (n : Nat) (l : List α) (j : Nat) : Nat := if j + 1 < n ∧ lt (l.getD (j + 1) d) (l.getD j d) = true then j + 1 else j
def downL (lt : α → α → Bool) (d : α) (n : Nat) : Nat → List α → Nat → List α
 | 0, l, _ => l
 | f + 1, l, i => if n ≤ 2 * i + 1 then l else if lt (l.getD (pick lt d n l (2 * i + 1)) d) (l.getD i d) = true then downL lt d n f (swapL d l i (pick lt d n l (2 * i + 1))) (pick lt d n l (2 * i + 1)) else l
/-- An order, told by what stands ahead. -/
structure Ord (lt : α → α → Bool) : Prop where
 asym : ∀ a b, lt a b = true → lt b a = false
 trans : ∀ a b c, lt b a = false → lt c b = false → lt c a = false
theorem Ord.irr {lt : α → α → Bool} (h : Ord lt) (a : α) : lt a a = false := by
 cases e : lt a a with
 | false => rfl
 | true => exact absurd (h.asym a a e) (by rw [e]; decide)
def Hp (lt : α → α → Bool) (d : α) (n k : Nat) (l : List α) : Prop := ∀ p, k ≤ p → ∀ c, (c = 2 * p + 1 ∨ c = 2 * p + 2) → c < n → lt (l.getD c d) (l.getD p d) = false
def HpX (lt : α → α → Bool) (d : α) (n k i : Nat) (l : List α) : Prop :=
 (∀ p, k ≤ p → p ≠ i → ∀ c, (c = 2 * p + 1 ∨ c = 2 * p + 2) → c < n → lt (l.getD c d) (l.getD p d) = false) ∧
 (∀ q, k ≤ q → (i = 2 * q + 1 ∨ i = 2 * q + 2) → ∀ c, (c = 2 * i + 1 ∨ c = 2 * i + 2) → c < n → lt (l.getD c d) (l.getD q d) = false)
theorem pick_or (lt : α → α → Bool) (d : α) (n : Nat) (l : List α) (j : Nat) : pick lt d n l j = j ∨ pick lt d n l j = j + 1 := by unfold pick; split <;> simp
theorem pick_lt (lt : α → α → Bool) (d : α) (n : Nat) (l : List α) (j : Nat) (h : j < n) : pick lt d n l j < n := by
 unfold pick
 split
 ·rename_i h; exact h.1
 ·exact h
theorem pick_min {lt : α → α → Bool} (ho : Ord lt) (d : α) (n : Nat) (l : List α) (i c : Nat) (hc : c = 2 * i + 1 ∨ c = 2 * i + 2) (hn : c < n) : lt (l.getD c d) (l.getD (pick lt d n l (2 * i + 1)) d) = false := by
 unfold pick
 by_cases h : 2 * i + 1 + 1 < n ∧ lt (l.getD (2 * i + 1 + 1) d) (l.getD (2 * i + 1) d) = true
 ·rw [if_pos h]
  rcases hc with rfl | rfl
  ·exact ho.asym _ _ h.2
  ·exact ho.irr _
 ·rw [if_neg h]
  rcases hc with rfl | rfl
  ·exact ho.irr _
  ·cases e : lt (l.getD (2 * i + 2) d) (l.getD (2 * i + 1) d) with
   | false => rfl
   | true => exact absurd ⟨by omega, e⟩ h
theorem down_hp {lt : α → α → Bool} (ho : Ord lt) (d : α) (n k : Nat) : ∀ (f : Nat) (l : List α) (i : Nat), n ≤ l.length → k ≤ i → n - i ≤ f → HpX lt d n k i l → Hp lt d n k (downL lt d n f l i)
 | 0, l, i, hl, hk, hf, hx => by
  intro p hp c hc hn
  by_cases e : p = i
  ·subst e; omega
  ·exact hx.1 p hp e c hc hn
 | f + 1, l, i, hl, hk, hf, hx => by
  simp only [downL]
  by_cases h1 : n ≤ 2 * i + 1
  ·rw [if_pos h1]
   intro p hp c hc hn
   by_cases e : p = i
   ·subst e; omega
   ·exact hx.1 p hp e c hc hn
  ·rw [if_neg h1]
   obtain ⟨j, hj⟩ : ∃ j, pick lt d n l (2 * i + 1) = j := ⟨_, rfl⟩
   have hjo := pick_or lt d n l (2 * i + 1)
   have hjn := pick_lt lt d n l (2 * i + 1) (by omega)
   have hmin := fun c hc hn => pick_min ho d n l i c hc hn
   rw [hj] at hjo hjn ⊢
   simp only [hj] at hmin
   by_cases h2 : lt (l.getD j d) (l.getD i d) = true
   ·rw [if_pos h2]
    refine down_hp ho d n k f (swapL d l i j) j (by rw [swap_len]; exact hl) (by omega) (by omega) ⟨fun p hp hpj c hc hn => ?_, fun q hq hjq c hc hn => ?_⟩
    ·rw [swap_at d l i j c (by omega) (by omega), swap_at d l i j p (by omega) (by omega), if_neg hpj]
     by_cases hpi : p = i
     ·subst hpi
      rw [if_pos rfl]
      by_cases hcj : c = j
      ·rw [if_pos hcj]; exact ho.asym _ _ h2
      ·rw [if_neg hcj, if_neg (by omega)]
       exact hmin c hc hn
     ·rw [if_neg hpi, if_neg (show ¬ c = j by omega)]
      by_cases hci : c = i
      ·rw [if_pos hci]
       exact hx.2 p hp (by omega) j (by omega) hjn
      ·rw [if_neg hci]
       exact hx.1 p hp hpi c hc hn
    ·have : q = i := by omega
     subst this
     rw [swap_at d l q j c (by omega) (by omega), swap_at d l q j q (by omega) (by omega), if_neg (by omega), if_neg (by omega), if_neg (by omega), if_pos rfl]
     exact hx.1 j (by omega) (by omega) c hc hn
   ·rw [if_neg h2]
    intro p hp c hc hn
    by_cases e : p = i
    ·subst e
     exact ho.trans _ _ _ (by simpa using h2) (hmin c hc hn)
    ·exact hx.1 p hp e c hc hn
theorem down_len (lt : α → α → Bool) (d : α) (n : Nat) : ∀ (f : Nat) (l : List α) (i : Nat), (downL lt d n f l i).length = l.length
 | 0, l, i => rfl
 | f + 1, l, i => by
  simp only [downL]
  split
  ·rfl
  ·split
   ·rw [down_len lt d n f, swap_len]
   ·rfl
theorem down_perm (lt : α → α → Bool) (d : α) (n : Nat) : ∀ (f : Nat) (l : List α) (i : Nat), n ≤ l.length → (downL lt d n f l i).Perm l
 | 0, l, i, h => List.Perm.refl _
 | f + 1, l, i, h => by
  simp only [downL]
  split
  ·exact List.Perm.refl _
  ·have hjn := pick_lt lt d n l (2 * i + 1) (by omega)
   split
   ·exact (down_perm lt d n f _ _ (by rw [swap_len]; exact h)).trans (swap_perm d l i _ (by omega) (by omega))
   ·exact List.Perm.refl _
theorem down_high (lt : α → α → Bool) (d : α) (n : Nat) : ∀ (f : Nat) (l : List α) (i k : Nat), n ≤ l.length → n ≤ k → (downL lt d n f l i).getD k d = l.getD k d
 | 0, l, i, k, h, hk => rfl
 | f + 1, l, i, k, h, hk => by
  simp only [downL]
  split
  ·rfl
  ·have hjn := pick_lt lt d n l (2 * i + 1) (by omega)
   split
   ·rw [down_high lt d n f _ _ k (by rw [swap_len]; exact h) hk, swap_at d l i _ k (by omega) (by omega), if_neg (by omega), if_neg (by omega)]
   ·rfl
theorem down_fuel (lt : α → α → Bool) (d : α) (n : Nat) : ∀ (f g : Nat) (l : List α) (i : Nat), n - i ≤ f → n - i ≤ g → downL lt d n f l i = downL lt d n g l i
 | 0, 0, l, i, _, _ => rfl
 | 0, g + 1, l, i, h, _ => by simp only [downL]; rw [if_pos (by omega)]
 | f + 1, 0, l, i, _, h => by simp only [downL]; rw [if_pos (by omega)]
 | f + 1, g + 1, l, i, h1, h2 => by
  simp only [downL]
  split
  ·rfl
  ·have hjo := pick_or lt d n l (2 * i + 1)
   split
   ·exact down_fuel lt d n f g _ _ (by omega) (by omega)
   ·rfl
/-- The lists that come of Init: i rounds are left. -/
def initL (lt : α → α → Bool) (d : α) (n : Nat) : Nat → List α → List α
 | 0, l => l
 | i + 1, l => initL lt d n i (downL lt d n n l i)
theorem init_len (lt : α → α → Bool) (d : α) (n : Nat) : ∀ (i : Nat) (l : List α), (initL lt d n i l).length = l.length
 | 0, l => rfl
 | i + 1, l => by simp only [initL]; rw [init_len, down_len]
theorem init_perm (lt : α → α → Bool) (d : α) (n : Nat) : ∀ (i : Nat) (l : List α), n ≤ l.length → (initL lt d n i l).Perm l
 | 0, l, _ => List.Perm.refl _
 | i + 1, l, h => by simp only [initL]; exact (init_perm lt d n i _ (by rw [down_len]; exact h)).trans (down_perm lt d n n l i h)
theorem init_hp {lt : α → α → Bool} (ho : Ord lt) (d : α) (n : Nat) : ∀ (i : Nat) (l : List α), n ≤ l.length → Hp lt d n i l → Hp lt d n 0 (initL lt d n i l)
 | 0, l, _, h => h
 | i + 1, l, hl, h => by
  simp only [initL]
  refine init_hp ho d n i _ (by rw [down_len]; exact hl) (down_hp ho d n i n l i hl (Nat.le_refl _) (by omega) ⟨fun p hp hpi c hc hn => h p (by omega) c hc hn, fun q hq hiq => by omega⟩)
theorem hp_start (lt : α → α → Bool) (d : α) (l : List α) : Hp lt d l.length (l.length / 2) l := fun p hp c hc hn => by omega
theorem hp_root {lt : α → α → Bool} (ho : Ord lt) (d : α) (n : Nat) (l : List α) (h : Hp lt d n 0 l) : ∀ m i, i ≤ m → i < n → lt (l.getD i d) (l.getD 0 d) = false
 | 0, i, hi, _ => by
  obtain rfl : i = 0 := by omega
  exact ho.irr _
 | m + 1, i, hi, hn => by
  rcases Nat.eq_zero_or_pos i with rfl | h0
  ·exact ho.irr _
  ·exact ho.trans _ _ _ (hp_root ho d n l h m ((i - 1) / 2) (by omega) (by omega)) (h ((i - 1) / 2) (Nat.zero_le _) i (by omega) hn)
/-- What Pop leaves, the one that is handed out behind it. -/
def popL (lt : α → α → Bool) (d : α) (l : List α) : List α := downL lt d (l.length - 1) (l.length - 1) (swapL d l 0 (l.length - 1)) 0
theorem pop_len (lt : α → α → Bool) (d : α) (l : List α) : (popL lt d l).length = l.length := by unfold popL; rw [down_len, swap_len]
theorem pop_last (lt : α → α → Bool) (d : α) (l : List α) (h : 0 < l.length) : (popL lt d l).getD (l.length - 1) d = l.getD 0 d := by
 unfold popL
 rw [down_high lt d _ _ _ _ _ (by rw [swap_len]; omega) (Nat.le_refl _), swap_at d l 0 _ _ h (by omega), if_pos rfl]
theorem split_last (d : α) (l : List α) (h : 0 < l.length) : l = l.take (l.length - 1) ++ [l.getD (l.length - 1) d] := by
 rw [getD_at d l _ (by omega)]
 conv => lhs; rw [← List.take_append_drop (l.length - 1) l]
 congr 1
 rw [List.drop_eq_getElem_cons (by omega), List.drop_eq_nil_of_le (by omega)]
theorem pop_perm (lt : α → α → Bool) (d : α) (l : List α) (h : 0 < l.length) : (l.getD 0 d :: (popL lt d l).take (l.length - 1)).Perm l := by
 have h1 : (popL lt d l).Perm l := by
  unfold popL
  exact (down_perm lt d _ _ _ _ (by rw [swap_len]; omega)).trans (swap_perm d l 0 _ h (by omega))
 have h2 := split_last d (popL lt d l) (by rw [pop_len]; exact h)
 rw [pop_len, pop_last lt d l h] at h2
 refine List.Perm.trans ?_ h1
 rw [h2]
 rw [List.take_left' (by rw [List.length_take, pop_len]; omega)]
 exact (List.perm_append_singleton _ _).symm
theorem getD_take (d : α) (l : List α) (n k : Nat) (h : k < n) : (l.take n).getD k d = l.getD k d := by
 rw [List.getD_eq_getElem?_getD, List.getD_eq_getElem?_getD, List.getElem?_take, if_pos h]
theorem pop_hp {lt : α → α → Bool} (ho : Ord lt) (d : α) (l : List α) (h : 0 < l.length) (hp : Hp lt d l.length 0 l) : Hp lt d (l.length - 1) 0 ((popL lt d l).take (l.length - 1)) := by
 have h1 : Hp lt d (l.length - 1) 0 (popL lt d l) := by
  unfold popL
  refine down_hp ho d _ 0 _ _ 0 (by rw [swap_len]; omega) (Nat.le_refl _) (by omega) ⟨fun p _ hp0 c hc hn => ?_, fun q _ h0 => by omega⟩
  rw [swap_at d l 0 _ c h (by omega), swap_at d l 0 _ p h (by omega), if_neg (by omega), if_neg (by omega), if_neg (by omega), if_neg (by omega)]
  exact hp p (Nat.zero_le _) c hc (by omega)
 intro p hp2 c hc hn
 rw [getD_take d _ _ _ hn, getD_take d _ _ _ (by omega)]
 exact h1 p hp2 c hc hn
/-- What is handed out, one behind the other. -/
def drain (lt : α → α → Bool) (d : α) : Nat → List α → List α
 | 0, _ => []
 | f + 1, l => if l.length = 0 then [] else l.getD 0 d :: drain lt d f ((popL lt d l).take (l.length - 1))
theorem drain_perm (lt : α → α → Bool) (d : α) : ∀ (f : Nat) (l : List α), l.length ≤ f → (drain lt d f l).Perm l
 | 0, l, h => by
  obtain rfl : l = [] := List.eq_nil_of_length_eq_zero (by omega)
  exact List.Perm.refl _
 | f + 1, l, h => by
  simp only [drain]
  by_cases h0 : l.length = 0
  ·rw [if_pos h0, List.eq_nil_of_length_eq_zero h0]
  ·rw [if_neg h0]
   exact (List.Perm.cons _ (drain_perm lt d f _ (by rw [List.length_take, pop_len]; omega))).trans (pop_perm lt d l (by omega))
theorem drain_sorted {lt : α → α → Bool} (ho : Ord lt) (d : α) : ∀ (f : Nat) (l : List α), l.length ≤ f → Hp lt d l.length 0 l → (drain lt d f l).Pairwise (fun a b => lt b a = false)
 | 0, l, h, _ => List.Pairwise.nil
 | f + 1, l, h, hp => by
  simp only [drain]
  by_cases h0 : l.length = 0
  ·rw [if_pos h0]; exact List.Pairwise.nil
  ·rw [if_neg h0]
   have hl : ((popL lt d l).take (l.length - 1)).length = l.length - 1 := by rw [List.length_take, pop_len]; omega
   refine List.Pairwise.cons (fun x hx => ?_) (drain_sorted ho d f _ (by rw [hl]; omega) (by rw [hl]; exact pop_hp ho d l (by omega) hp))
   have h1 := (drain_perm lt d f _ (by rw [hl]; omega)).mem_iff.1 hx
   have h2 := (pop_perm lt d l (by omega)).mem_iff.1 (List.mem_cons_of_mem _ h1)
   obtain ⟨i, hi, rfl⟩ := List.mem_iff_getElem.1 h2
   have := hp_root ho d l.length l hp i i (Nat.le_refl _) hi
   rwa [getD_at d l i hi] at this
/-- What is handed out after Init: all of it, in order. -/
def heapL (lt : α → α → Bool) (d : α) (l : List α) : List α := drain lt d l.length (initL lt d l.length (l.length / 2) l)
theorem heap_perm (lt : α → α → Bool) (d : α) (l : List α) : (heapL lt d l).Perm l :=
 (drain_perm lt d _ _ (by rw [init_len]; exact Nat.le_refl _)).trans (init_perm lt d _ _ l (Nat.le_refl _))
theorem heap_sorted {lt : α → α → Bool} (ho : Ord lt) (d : α) (l : List α) : (heapL lt d l).Pairwise (fun a b => lt b a = false) := by
 have h := init_hp ho d l.length (l.length / 2) l (Nat.le_refl _) (hp_start lt d l)
 refine drain_sorted ho d _ _ (by rw [init_len]; exact Nat.le_refl _) ?_
 rw [init_len]; exact h
end Go.Proofs.YtlicjpbmlmongaaGreatDoor.Hp
end
section
/- The whole order of lines: what sorts.whole tells. -/
set_option linter.unusedVariables false
set_option linter.unusedSimpArgs false
namespace Go.Proofs.YtlicjpbmlmongaaGreatDoor.P
open Go.RowKit Go.Proofs.YtlicjpbmlmongaaGreatDoor.Q Go.Proofs.YtlicjpbmlmongaaGreatDoor.H Go.Proofs.YtlicjpbmlmongaaGreatDoor.K Go.Proofs.YtlicjpbmlmongaaGreatDoorW.PrintWords Go.Proofs.YtlicjpbmlmongaaGreatDoorW.PrintLast
/-- Two lines by an order, and as bytes where that says nothing. -/
def wholeO (nu fo bl re : Bool) (f t : Int) (c : UInt8) (a b : List UInt8) : Int := orC (cmpO nu fo bl re f t c a b) (if re = true then - cmpB a b else cmpB a b)
theorem Ord.wholeO (nu fo bl re : Bool) (f t : Int) (c : UInt8) : Ord (wholeO nu fo bl re f t c) := by
 unfold P.wholeO
 cases re
 ·exact (Ord.cmpO nu fo bl false f t c).or Ord.bytes
 ·exact (Ord.cmpO nu fo bl true f t c).or Ord.bytes.rev
theorem cmpB_one (a b : List UInt8) : cmpB a b = -1 ∨ cmpB a b = 0 ∨ cmpB a b = 1 := Ord.bytes.one a b
theorem whole_f (nu fo bl re : Bool) (f t c : Int) (hc : 0 ≤ c ∧ c ≤ 255) (a b : ByteArray) (ha : a.size ≤ 1000000) (hb : b.size ≤ 1000000) :
  Ev (fun k => sorts_whole.f k nu fo bl re f t c a b) (wholeO nu fo bl re f t (u8 c) a.data.toList b.data.toList) := by
 refine ⟨3, fun k hk => ?_⟩
 obtain ⟨j, rfl⟩ : ∃ j, k = j + 3 := ⟨k - 3, by omega⟩
 show sorts_whole.f (j + 3) nu fo bl re f t c a b = _
 unfold sorts_whole.f
 have hw : wrap64 (-cmpB a.data.toList b.data.toList) = -cmpB a.data.toList b.data.toList := by
  rcases cmpB_one a.data.toList b.data.toList with h | h | h <;> rw [h] <;> (unfold wrap64; omega)
 rw [cmpS_f, Option.bind_some]
 unfold wholeO
 cases re
 ·rw [if_neg (by decide), comp_f hc (by omega) (by omega), Option.bind_some, or2, Option.bind_some, if_neg (by decide)]
 ·rw [if_pos rfl, comp_f hc (by omega) (by omega), Option.bind_some, hw, or2, Option.bind_some, if_pos rfl]
theorem less_cmp (a b : List UInt8) : Op.bytesLess a b = decide (cmpB a b < 0) := by
 unfold cmpB
 cases h : Op.bytesLess a b
 ·rw [if_neg (by decide)]; split <;> rfl
 ·rw [if_pos rfl]; rfl
end Go.Proofs.YtlicjpbmlmongaaGreatDoor.P
end
section
/- sorts.Sort's order of two lines that came at places. -/
set_option linter.unusedVariables false
set_option linter.unusedSimpArgs false
namespace Go.Proofs.YtlicjpbmlmongaaGreatDoor.H
open Go.RowKit Go.Shelf Go.Proofs Go.Proofs.YtlicjpbmlmongaaGreatDoor.Q Go.Proofs.YtlicjpbmlmongaaGreatDoor.K Go.Proofs.YtlicjpbmlmongaaGreatDoor.P Go.Proofs.YtlicjpbmlmongaaGreatDoorW.PrintWords Go.Proofs.YtlicjpbmlmongaaGreatDoorW.PrintLast
/-- A line, and where it came. -/
abbrev LN := ByteArray × Nat
def cellsN (x : LN) : List Value := [.string x.1, .int .i64 (x.2 : Int)]
def aggN (x : LN) : Value := .agg #[.string x.1, .int .i64 (x.2 : Int)]
def lineObj (x : LN) : Obj := .cells #[.string x.1, .int .i64 (x.2 : Int)] 64 (0, 0)
/-- Two lines by an order, and by where they came. -/
def lineC (c : List UInt8 → List UInt8 → Int) (x y : LN) : Int := orC (c x.1.data.toList y.1.data.toList) (cmpI (x.2 : Int) (y.2 : Int))
theorem lineC_ord {c : List UInt8 → List UInt8 → Int} (h : Ord c) : Ord (lineC c) := (h.map (fun x : LN => x.1.data.toList)).or (Ord.ints.map (fun x : LN => (x.2 : Int)))
def ltC (c : LN → LN → Int) (x y : LN) : Bool := decide (c x y < 0)
theorem ltC_ord {c : LN → LN → Int} (h : Ord c) : Hp.Ord (ltC c) where
 asym := fun a b e => by
  unfold ltC at *
  have e := of_decide_eq_true e
  have := h.back a b
  exact decide_eq_false (by omega)
 trans := fun a b d e1 e2 => by
  unfold ltC at *
  have e1 := of_decide_eq_false e1
  have e2 := of_decide_eq_false e2
  have h1 := h.back a b
  have h2 := h.back b d
  have h3 := h.back a d
  have := (h.go a b d (by omega) (by omega)).1
  exact decide_eq_false (by omega)
/-- What the walk of the order reads. -/
structure S1 (w : World) (x y : LN) (B8 B3 : Nat) (F : Value) (nu fo bl re : Bool) (f t : Int) (c : UInt8) (V : World) : Prop where
 low : Below w.heap.size w V
 b4 : V.heap[w.heap.size]? = some (lineObj x)
 b5 : V.heap[w.heap.size + 1]? = some (lineObj y)
 b8 : V.cell? ⟨B8, 0, none⟩ = some F
 b3 : V.heap[B3]? = some (ordObj nu fo bl re f t c)
theorem S1.cells {w : World} {x y : LN} {B8 B3 : Nat} {F : Value} {nu fo bl re : Bool} {f t : Int} {c : UInt8} {V : World} (h : S1 w x y B8 B3 F nu fo bl re f t c V) : V.cell? ⟨w.heap.size, 0, none⟩ = some (.string x.1) ∧ V.cell? ⟨w.heap.size, 1, none⟩ = some (.int .i64 (x.2 : Int)) ∧ V.cell? ⟨w.heap.size + 1, 0, none⟩ = some (.string y.1) ∧ V.cell? ⟨w.heap.size + 1, 1, none⟩ = some (.int .i64 (y.2 : Int)) ∧ V.cell? ⟨B8, 0, none⟩ = some F ∧ V.cell? ⟨B3, 0, none⟩ = some (.bool nu) ∧ V.cell? ⟨B3, 1, none⟩ = some (.bool fo) ∧ V.cell? ⟨B3, 2, none⟩ = some (.bool bl) ∧ V.cell? ⟨B3, 3, none⟩ = some (.bool re) ∧ V.cell? ⟨B3, 4, none⟩ = some (.int .i64 f) ∧ V.cell? ⟨B3, 5, none⟩ = some (.int .i64 t) ∧ V.cell? ⟨B3, 6, none⟩ = some (.int .u8 (c.toNat : Int)) := by
 obtain ⟨h0, h1, h2, h3⟩ := ord_cells7 h.b3
 obtain ⟨h4, h5, h6⟩ := ord_cells h.b3
 exact ⟨by rw [Lib.cell_of_heap h.b4]; rfl, by rw [Lib.cell_of_heap h.b4]; rfl, by rw [Lib.cell_of_heap h.b5]; rfl, by rw [Lib.cell_of_heap h.b5]; rfl, h.b8, h0, h1, h2, h3, h4, h5, h6⟩
theorem S1.all {w : World} {x y : LN} {B8 B3 : Nat} {F : Value} {nu fo bl re : Bool} {f t : Int} {c : UInt8} {V : World} (h : S1 w x y B8 B3 F nu fo bl re f t c V) : S1 w x y B8 B3 F nu fo bl re f t c V ∧ V.cell? ⟨w.heap.size, 0, none⟩ = some (.string x.1) ∧ V.cell? ⟨w.heap.size, 1, none⟩ = some (.int .i64 (x.2 : Int)) ∧ V.cell? ⟨w.heap.size + 1, 0, none⟩ = some (.string y.1) ∧ V.cell? ⟨w.heap.size + 1, 1, none⟩ = some (.int .i64 (y.2 : Int)) ∧ V.cell? ⟨B8, 0, none⟩ = some F ∧ V.cell? ⟨B3, 0, none⟩ = some (.bool nu) ∧ V.cell? ⟨B3, 1, none⟩ = some (.bool fo) ∧ V.cell? ⟨B3, 2, none⟩ = some (.bool bl) ∧ V.cell? ⟨B3, 3, none⟩ = some (.bool re) ∧ V.cell? ⟨B3, 4, none⟩ = some (.int .i64 f) ∧ V.cell? ⟨B3, 5, none⟩ = some (.int .i64 t) ∧ V.cell? ⟨B3, 6, none⟩ = some (.int .u8 (c.toNat : Int)) := ⟨h, h.cells⟩
theorem S1.on {w : World} {x y : LN} {B8 B3 : Nat} {F : Value} {nu fo bl re : Bool} {f t : Int} {c : UInt8} {V V' : World} (h : S1 w x y B8 B3 F nu fo bl re f t c V) (k : Below V.heap.size V V') : S1 w x y B8 B3 F nu fo bl re f t c V' :=
 ⟨bth h.low k, (k.block _ (Array.getElem?_eq_some_iff.1 h.b4).1).trans h.b4, (k.block _ (Array.getElem?_eq_some_iff.1 h.b5).1).trans h.b5, pw_cell_below k h.b8, (k.block _ (Array.getElem?_eq_some_iff.1 h.b3).1).trans h.b3⟩
theorem S1.drew {w : World} {x y : LN} {B8 B3 : Nat} {F : Value} {nu fo bl re : Bool} {f t : Int} {c : UInt8} {V : World} (h : S1 w x y B8 B3 F nu fo bl re f t c V) : S1 w x y B8 B3 F nu fo bl re f t c V.drew := h.on (bdr (Below.refl _ _))
theorem S1.keep {w : World} {x y : LN} {B8 B3 : Nat} {F : Value} {nu fo bl re : Bool} {f t : Int} {c : UInt8} {V V' : World} (k : Below V.heap.size V V') (h : S1 w x y B8 B3 F nu fo bl re f t c V ∧ V.cell? ⟨w.heap.size, 0, none⟩ = some (.string x.1) ∧ V.cell? ⟨w.heap.size, 1, none⟩ = some (.int .i64 (x.2 : Int)) ∧ V.cell? ⟨w.heap.size + 1, 0, none⟩ = some (.string y.1) ∧ V.cell? ⟨w.heap.size + 1, 1, none⟩ = some (.int .i64 (y.2 : Int)) ∧ V.cell? ⟨B8, 0, none⟩ = some F ∧ V.cell? ⟨B3, 0, none⟩ = some (.bool nu) ∧ V.cell? ⟨B3, 1, none⟩ = some (.bool fo) ∧ V.cell? ⟨B3, 2, none⟩ = some (.bool bl) ∧ V.cell? ⟨B3, 3, none⟩ = some (.bool re) ∧ V.cell? ⟨B3, 4, none⟩ = some (.int .i64 f) ∧ V.cell? ⟨B3, 5, none⟩ = some (.int .i64 t) ∧ V.cell? ⟨B3, 6, none⟩ = some (.int .u8 (c.toNat : Int))) : S1 w x y B8 B3 F nu fo bl re f t c V' ∧ V'.cell? ⟨w.heap.size, 0, none⟩ = some (.string x.1) ∧ V'.cell? ⟨w.heap.size, 1, none⟩ = some (.int .i64 (x.2 : Int)) ∧ V'.cell? ⟨w.heap.size + 1, 0, none⟩ = some (.string y.1) ∧ V'.cell? ⟨w.heap.size + 1, 1, none⟩ = some (.int .i64 (y.2 : Int)) ∧ V'.cell? ⟨B8, 0, none⟩ = some F ∧ V'.cell? ⟨B3, 0, none⟩ = some (.bool nu) ∧ V'.cell? ⟨B3, 1, none⟩ = some (.bool fo) ∧ V'.cell? ⟨B3, 2, none⟩ = some (.bool bl) ∧ V'.cell? ⟨B3, 3, none⟩ = some (.bool re) ∧ V'.cell? ⟨B3, 4, none⟩ = some (.int .i64 f) ∧ V'.cell? ⟨B3, 5, none⟩ = some (.int .i64 t) ∧ V'.cell? ⟨B3, 6, none⟩ = some (.int .u8 (c.toNat : Int)) := (h.1.on k).all
theorem or2_calls (a b : Int) (V : World) : Calls Tryz.prog 27 #[.slice (some ⟨V.heap.size, 0, none⟩) 2 2] (V.alloc (.cells #[.int .i64 a, .int .i64 b] 3)) fun e w' => e = .returned (.int .i64 (orC a b)) ∧ Below (V.alloc (.cells #[.int .i64 a, .int .i64 b] 3)).heap.size (V.alloc (.cells #[.int .i64 a, .int .i64 b] 3)) w' :=
 (cmp_Or_int.calls 3 (some ⟨V.heap.size, 0, none⟩) 2 [a, b] (orC a b) (V.alloc (.cells #[.int .i64 a, .int .i64 b] 3)) (C_ints V .i64 3 [a, b] (by simp)) (by simp) (or2 0 a b)).mono fun e w' h => ⟨h.1, h.2.below⟩
set_option maxHeartbeats 4000000 in
set_option maxRecDepth 100000 in
theorem sort1W_calls (nu fo bl re : Bool) (f t : Int) (c : UInt8) (x y : LN) (hx : x.1.size ≤ 1000000) (hy : y.1.size ≤ 1000000) (B8 B3 : Nat) (w : World)
  (h8 : w.cell? ⟨B8, 0, none⟩ = some (.func (.func 24) #[] #[])) (h3 : w.heap[B3]? = some (ordObj nu fo bl re f t c)) :
  Calls Tryz.prog 26 #[aggN x, aggN y, .pointer (some ⟨B8, 0, none⟩), .pointer (some ⟨B3, 0, none⟩)] w fun e w' => e = .returned (.bool (ltC (lineC (wholeO nu fo bl re f t c)) x y)) ∧ Below w.heap.size w w' := by
 obtain ⟨kw, hkw⟩ := (whole_f nu fo bl re f t (c.toNat : Int) ⟨by omega, by have := c.toNat_lt; omega⟩ x.1 y.1 hx hy).at_
 rw [u8_of] at hkw
 obtain ⟨Wn, hWn⟩ : ∃ n, wholeO nu fo bl re f t c x.1.data.toList y.1.data.toList = n := ⟨_, rfl⟩
 rw [hWn] at hkw
 have HK := Lib.hid (fun V => sorts_whole.calls kw nu fo bl re f t (c.toNat : Int) x.1 y.1 Wn V hkw)
 have HR := Lib.hid (show ltC (lineC (wholeO nu fo bl re f t c)) x y = decide (orC Wn (cmpI (x.2 : Int) (y.2 : Int)) < 0) by unfold ltC lineC; rw [hWn])
 have HS : Hid (S1 w x y B8 B3 (.func (.func 24) #[] #[]) nu fo bl re f t c ((w.alloc (.cells #[.string x.1, .int .i64 (x.2 : Int)] 64)).alloc (.cells #[.string y.1, .int .i64 (y.2 : Int)] 64))) := Lib.hid ⟨bal (bal (Below.refl _ _) _) _, (Lib.alloc_old _ _ _ (by simp)).trans (heap_alloc_new w _), by
  have := heap_alloc_new (w.alloc (.cells #[.string x.1, .int .i64 (x.2 : Int)] 64)) (.cells #[.string y.1, .int .i64 (y.2 : Int)] 64)
  rw [World.size_alloc] at this
  exact this, pw_cell_below (bal (bal (Below.refl _ _) _) _) h8, ((bal (bal (Below.refl w.heap.size w) _) _).block _ (Array.getElem?_eq_some_iff.1 h3).1).trans h3⟩
 clear hkw hWn h8 h3
 unfold aggN
 go_enter Tryz.func26, Tryz.ntmps26
 go_wp2_with fail
 go_region_held3 (fun V => S1 w x y B8 B3 (.func (.func 24) #[] #[]) nu fo bl re f t c V ∧ V.cell? ⟨w.heap.size, 0, none⟩ = some (.string x.1) ∧ V.cell? ⟨w.heap.size, 1, none⟩ = some (.int .i64 (x.2 : Int)) ∧ V.cell? ⟨w.heap.size + 1, 0, none⟩ = some (.string y.1) ∧ V.cell? ⟨w.heap.size + 1, 1, none⟩ = some (.int .i64 (y.2 : Int)) ∧ V.cell? ⟨B8, 0, none⟩ = some (.func (.func 24) #[] #[]) ∧ V.cell? ⟨B3, 0, none⟩ = some (.bool nu) ∧ V.cell? ⟨B3, 1, none⟩ = some (.bool fo) ∧ V.cell? ⟨B3, 2, none⟩ = some (.bool bl) ∧ V.cell? ⟨B3, 3, none⟩ = some (.bool re) ∧ V.cell? ⟨B3, 4, none⟩ = some (.int .i64 f) ∧ V.cell? ⟨B3, 5, none⟩ = some (.int .i64 t) ∧ V.cell? ⟨B3, 6, none⟩ = some (.int .u8 (c.toNat : Int))) (with_reducible first | assumption | exact S1.keep hbq (by assumption) | exact S1.keep (bal (Below.refl _ _) _) (by assumption) | exact S1.keep (bdr (Below.refl _ _)) (by assumption) | exact S1.all (S1.on HS.out.drew hbq) | exact S1.all (S1.on HS.out hbq) | exact S1.all HS.out.drew | exact S1.all HS.out) ((first
  | (go_at_call 24; with_reducible refine (HK.out _).mono ?_; rintro e w' ⟨rfl, hbq⟩)
  | (go_at_call 28; with_reducible refine (cmp_Compare_int.calls _ _ _ _ rfl).mono ?_; rintro e w' ⟨rfl, hbq⟩)
  | (go_at_call 27; with_reducible refine (or2_calls _ _ _).mono ?_; rintro e w' ⟨rfl, hbq⟩)))
 all_goals go_wp2
 all_goals go_ret
 all_goals refine ⟨?_, (show S1 w x y B8 B3 (.func (.func 24) #[] #[]) nu fo bl re f t c _ ∧ _ from by assumption).1.low⟩
 all_goals (rw [HR.out]; rfl)
set_option maxHeartbeats 4000000 in
set_option maxRecDepth 100000 in
theorem sort1C_calls (nu fo bl re : Bool) (f t : Int) (c : UInt8) (x y : LN) (hx : x.1.size ≤ 1000000) (hy : y.1.size ≤ 1000000) (B8 B3 : Nat) (w : World)
  (h8 : w.cell? ⟨B8, 0, none⟩ = some (.func (.func 25) #[] #[])) (h3 : w.heap[B3]? = some (ordObj nu fo bl re f t c)) :
  Calls Tryz.prog 26 #[aggN x, aggN y, .pointer (some ⟨B8, 0, none⟩), .pointer (some ⟨B3, 0, none⟩)] w fun e w' => e = .returned (.bool (ltC (lineC (cmpO nu fo bl re f t c)) x y)) ∧ Below w.heap.size w w' := by
 obtain ⟨Wn, hWn⟩ : ∃ n, cmpO nu fo bl re f t c x.1.data.toList y.1.data.toList = n := ⟨_, rfl⟩
 have hkw := fun V => comp_walk nu fo bl re f t c x.1 y.1 (by omega) (by omega) V
 rw [hWn] at hkw
 have HK := Lib.hid hkw
 have HR := Lib.hid (show ltC (lineC (cmpO nu fo bl re f t c)) x y = decide (orC Wn (cmpI (x.2 : Int) (y.2 : Int)) < 0) by unfold ltC lineC; rw [hWn])
 have HS : Hid (S1 w x y B8 B3 (.func (.func 25) #[] #[]) nu fo bl re f t c ((w.alloc (.cells #[.string x.1, .int .i64 (x.2 : Int)] 64)).alloc (.cells #[.string y.1, .int .i64 (y.2 : Int)] 64))) := Lib.hid ⟨bal (bal (Below.refl _ _) _) _, (Lib.alloc_old _ _ _ (by simp)).trans (heap_alloc_new w _), by
  have := heap_alloc_new (w.alloc (.cells #[.string x.1, .int .i64 (x.2 : Int)] 64)) (.cells #[.string y.1, .int .i64 (y.2 : Int)] 64)
  rw [World.size_alloc] at this
  exact this, pw_cell_below (bal (bal (Below.refl _ _) _) _) h8, ((bal (bal (Below.refl w.heap.size w) _) _).block _ (Array.getElem?_eq_some_iff.1 h3).1).trans h3⟩
 clear hkw hWn h8 h3
 unfold aggN
 go_enter Tryz.func26, Tryz.ntmps26
 go_wp2_with fail
 go_region_held3 (fun V => S1 w x y B8 B3 (.func (.func 25) #[] #[]) nu fo bl re f t c V ∧ V.cell? ⟨w.heap.size, 0, none⟩ = some (.string x.1) ∧ V.cell? ⟨w.heap.size, 1, none⟩ = some (.int .i64 (x.2 : Int)) ∧ V.cell? ⟨w.heap.size + 1, 0, none⟩ = some (.string y.1) ∧ V.cell? ⟨w.heap.size + 1, 1, none⟩ = some (.int .i64 (y.2 : Int)) ∧ V.cell? ⟨B8, 0, none⟩ = some (.func (.func 25) #[] #[]) ∧ V.cell? ⟨B3, 0, none⟩ = some (.bool nu) ∧ V.cell? ⟨B3, 1, none⟩ = some (.bool fo) ∧ V.cell? ⟨B3, 2, none⟩ = some (.bool bl) ∧ V.cell? ⟨B3, 3, none⟩ = some (.bool re) ∧ V.cell? ⟨B3, 4, none⟩ = some (.int .i64 f) ∧ V.cell? ⟨B3, 5, none⟩ = some (.int .i64 t) ∧ V.cell? ⟨B3, 6, none⟩ = some (.int .u8 (c.toNat : Int))) (with_reducible first | assumption | exact S1.keep hbq (by assumption) | exact S1.keep (bal (Below.refl _ _) _) (by assumption) | exact S1.keep (bdr (Below.refl _ _)) (by assumption) | exact S1.all (S1.on HS.out.drew hbq) | exact S1.all (S1.on HS.out hbq) | exact S1.all HS.out.drew | exact S1.all HS.out) ((first
  | (go_at_call 25; with_reducible refine (HK.out _).mono ?_; rintro e w' ⟨rfl, hbq⟩)
  | (go_at_call 28; with_reducible refine (cmp_Compare_int.calls _ _ _ _ rfl).mono ?_; rintro e w' ⟨rfl, hbq⟩)
  | (go_at_call 27; with_reducible refine (or2_calls _ _ _).mono ?_; rintro e w' ⟨rfl, hbq⟩)))
 all_goals go_wp2
 all_goals go_ret
 all_goals refine ⟨?_, (show S1 w x y B8 B3 (.func (.func 25) #[] #[]) nu fo bl re f t c _ ∧ _ from by assumption).1.low⟩
 all_goals (rw [HR.out]; rfl)
end Go.Proofs.YtlicjpbmlmongaaGreatDoor.H
end
section
/- A cell of a row of the call's own is written. -/
set_option linter.unusedVariables false
set_option linter.unusedSimpArgs false
namespace Go.Proofs.YtlicjpbmlmongaaGreatDoor.H
open Go.RowKit Go.Proofs.YtlicjpbmlmongaaGreatDoorW.PrintWords
theorem own_setj {W : World} {base g n cap size : Nat} {e : TypeId} {xs : List Value} (h : W.ownsRow base e size (.slice (some ⟨g, 0, none⟩) n cap) n xs) (j : Nat) (hj : j < xs.length) (u : Value) :
  (W.setCell ⟨g, j, none⟩ u).ownsRow base e size (.slice (some ⟨g, 0, none⟩) n cap) n (xs.set j u) := by
 obtain ⟨h1, h2⟩ := h
 refine ⟨by rw [List.length_set]; exact h1, ?_⟩
 rcases h2 with ⟨h2, _⟩ | ⟨g', cap', cur, he, hb, hh, hn, hm, hs, ht⟩
 ·cases h2
 ·cases he
  refine .inr ⟨g, cap, cur.setIfInBounds j u, rfl, hb, ?_, hn, hm, by simp [hs], ?_⟩
  ·have hlt : g < W.heap.size := (Array.getElem?_eq_some_iff.1 hh).1
   have hg : W.heap[g] = .cells cur e (0, 0) := by rw [Array.getElem?_eq_getElem hlt] at hh; exact Option.some.inj hh
   simp [World.setCell, hlt, Array.getElem_modify, hg]
  ·rw [Array.toList_setIfInBounds, ← ht, List.take_set]
end Go.Proofs.YtlicjpbmlmongaaGreatDoor.H
end
section
/- The pile of lines: its methods. -/
set_option linter.unusedVariables false
set_option linter.unusedSimpArgs false
namespace Go.Proofs.YtlicjpbmlmongaaGreatDoor.H
open Go.RowKit Go.Shelf Go.Proofs Go.Proofs.YtlicjpbmlmongaaGreatDoor.Q Go.Proofs.YtlicjpbmlmongaaGreatDoor.K Go.Proofs.YtlicjpbmlmongaaGreatDoor.P Go.Proofs.YtlicjpbmlmongaaGreatDoorW.PrintWords Go.Proofs.YtlicjpbmlmongaaGreatDoorW.PrintLast
def flatN (L : List LN) : List Value := L.flatMap cellsN
theorem flatN_len (L : List LN) : (flatN L).length = L.length * 2 := by
 induction L with
 | nil => rfl
 | cons x L ih => simp only [flatN, List.flatMap_cons, List.length_append, cellsN, List.length_cons, List.length_nil] at ih ⊢; omega
theorem flatN_get (L : List LN) : ∀ (i : Nat) (hi : i < L.length), (flatN L)[i * 2]? = some (.string L[i].1) ∧ (flatN L)[i * 2 + 1]? = some (.int .i64 (L[i].2 : Int)) := by
 induction L with
 | nil => intro i hi; simp at hi
 | cons h L ih =>
  intro i hi
  match i, hi with
  | 0, _ => exact ⟨rfl, rfl⟩
  | i + 1, hi =>
   obtain ⟨a, b⟩ := ih i (by simpa using hi)
   have e : flatN (h :: L) = .string h.1 :: .int .i64 (h.2 : Int) :: flatN L := rfl
   rw [e]
   refine ⟨?_, ?_⟩
   ·rw [show (i + 1) * 2 = i * 2 + 1 + 1 by omega]; exact a
   ·rw [show (i + 1) * 2 + 1 = i * 2 + 1 + 1 + 1 by omega]; exact b
theorem flatN_app (L M : List LN) : flatN (L ++ M) = flatN L ++ flatN M := List.flatMap_append
theorem flatN_set (L : List LN) : ∀ (i : Nat) (hi : i < L.length) (x : LN), ((flatN L).set (i * 2) (.string x.1)).set (i * 2 + 1) (.int .i64 (x.2 : Int)) = flatN (L.set i x) := by
 induction L with
 | nil => intro i hi; simp at hi
 | cons h L ih =>
  intro i hi x
  match i, hi with
  | 0, _ => rfl
  | i + 1, hi =>
   have e : ∀ (x : LN) (M : List LN), flatN (x :: M) = .string x.1 :: .int .i64 (x.2 : Int) :: flatN M := fun _ _ => rfl
   rw [e, show (i + 1) * 2 = i * 2 + 1 + 1 by omega]
   simp only [List.set_cons_succ]
   rw [e, ih i (by simpa using hi) x]
/-- Lists of texts lie as they lay. -/
def KStr (W W' : World) : Prop := ∀ (b : Nat) (cs : Array Value) (fz : Nat × Nat), W.heap[b]? = some (.cells cs 9 fz) → W'.heap[b]? = W.heap[b]?
theorem KStr.trans {A B C : World} (h : KStr A B) (k : KStr B C) : KStr A C := fun b cs fz e => (k b cs fz ((h b cs fz e).trans e)).trans (h b cs fz e)
theorem KStr.below {A B : World} (h : Below A.heap.size A B) : KStr A B := fun b cs fz e => h.block b (Array.getElem?_eq_some_iff.1 e).1
theorem KStr.row {A B : World} (h : KStr A B) {base n : Nat} {v : Value} {xs : List Value} (ho : A.ownsRow base 9 1 v n xs) : B.ownsRow base 9 1 v n xs := by
 refine ⟨ho.1, ?_⟩
 rcases ho.2 with h1 | ⟨g, cap, cur, he, h1, h2, h3, h4, h5⟩
 ·exact .inl h1
 ·exact .inr ⟨g, cap, cur, he, h1, (h g cur (0, 0) h2).trans h2, h3, h4, h5⟩
theorem KStr.set {A : World} {b : Nat} {cs : Array Value} {t : TypeId} {fz : Nat × Nat} (hb : A.heap[b]? = some (.cells cs t fz)) (ht : t ≠ 9) (o : Nat) (v : Value) : KStr A (A.setCell ⟨b, o, none⟩ v) := fun k cs' fz' e => by
 by_cases hk : k = b
 ·subst hk
  rw [hb] at e
  injection e with e
  injection e with _ e _
  exact absurd e ht
 ·exact Below.heap_setCell _ _ _ k hk
theorem own_block_at {W : World} {base e s n g cap : Nat} {xs : List Value} (h : W.ownsRow base e s (.slice (some ⟨g, 0, none⟩) n cap) n xs) : ∃ cs, W.heap[g]? = some (.cells cs e (0, 0)) := by
 rcases h.2 with ⟨h', _⟩ | ⟨g', cap', cur, h', hb, hg, _⟩
 ·cases h'
 ·simp only [Value.slice.injEq, Option.some.injEq, Addr.mk.injEq, and_true, true_and] at h'
  obtain ⟨rfl, rfl⟩ := h'
  exact ⟨cur, hg⟩
theorem KStr.set1 {A : World} {g : Nat} {t : TypeId} (hb : ∃ cs, A.heap[g]? = some (.cells cs t (0, 0))) (ht : t ≠ 9) (o : Nat) (v : Value) : KStr A (A.setCell ⟨g, o, none⟩ v) ∧ ∃ cs, (A.setCell ⟨g, o, none⟩ v).heap[g]? = some (.cells cs t (0, 0)) := by
 obtain ⟨cs, hb⟩ := hb
 exact ⟨KStr.set hb ht o v, _, heap_setCell_same _ _ _ _ _ _ hb⟩
theorem KStr.set4 {A : World} {g : Nat} {t : TypeId} (hb : ∃ cs, A.heap[g]? = some (.cells cs t (0, 0))) (ht : t ≠ 9) (a b c d : Nat) (u v x y : Value) : KStr A ((((A.setCell ⟨g, a, none⟩ u).setCell ⟨g, b, none⟩ v).setCell ⟨g, c, none⟩ x).setCell ⟨g, d, none⟩ y) := by
 obtain ⟨k1, h1⟩ := KStr.set1 hb ht a u
 obtain ⟨k2, h2⟩ := KStr.set1 h1 ht b v
 obtain ⟨k3, h3⟩ := KStr.set1 h2 ht c x
 obtain ⟨k4, _⟩ := KStr.set1 h3 ht d y
 exact ((k1.trans k2).trans k3).trans k4
/-- The order's function value. -/
def fnV (B8 B3 : Nat) : Value := .func (.func 26) #[] #[.pointer (some ⟨B8, 0, none⟩), .pointer (some ⟨B3, 0, none⟩)]
/-- The pile. -/
structure PS (Bp B8 B3 base : Nat) (o8 o3 : Obj) (v : Value) (L : List LN) (W : World) : Prop where
 b8 : W.heap[B8]? = some o8
 b3 : W.heap[B3]? = some o3
 bp : W.heap[Bp]? = some (.cells #[v, fnV B8 B3] 70 (0, 0))
 own : W.ownsRow base 64 2 v L.length (flatN L)
 lt8 : B8 < Bp
 lt3 : B3 < Bp
 ltp : Bp < base
theorem PS.below {Bp B8 B3 base : Nat} {o8 o3 : Obj} {v : Value} {L : List LN} {W W' : World} (h : PS Bp B8 B3 base o8 o3 v L W) (k : Below W.heap.size W W') : PS Bp B8 B3 base o8 o3 v L W' :=
 ⟨(k.block _ (Array.getElem?_eq_some_iff.1 h.b8).1).trans h.b8, (k.block _ (Array.getElem?_eq_some_iff.1 h.b3).1).trans h.b3, (k.block _ (Array.getElem?_eq_some_iff.1 h.bp).1).trans h.bp, pw_own_below h.own k, h.lt8, h.lt3, h.ltp⟩
/-- The pile's list is turned. -/
theorem PS.setp {Bp B8 B3 base : Nat} {o8 o3 : Obj} {v : Value} {L : List LN} {W : World} (h : PS Bp B8 B3 base o8 o3 v L W) {v' : Value} {L' : List LN} (ho : W.ownsRow base 64 2 v' L'.length (flatN L')) : PS Bp B8 B3 base o8 o3 v' L' (W.setCell ⟨Bp, 0, none⟩ v') :=
 ⟨(Below.heap_setCell _ _ _ _ (by show B8 ≠ Bp; have := h.lt8; omega)).trans h.b8, (Below.heap_setCell _ _ _ _ (by show B3 ≠ Bp; have := h.lt3; omega)).trans h.b3, blk_put h.bp 0 v' rfl,
  own_other ho (grownBy_setCell' W Bp _) (.inr (fun e => by have := own_base ho Bp e; have := h.ltp; omega)), h.lt8, h.lt3, h.ltp⟩
/-- What tells two lines apart, by the order's function. -/
def Tells (B8 B3 : Nat) (o8 o3 : Obj) (lt : LN → LN → Bool) (P : LN → Prop) : Prop := ∀ (x y : LN) (V : World), P x → P y → V.heap[B8]? = some o8 → V.heap[B3]? = some o3 →
 Calls Tryz.prog 26 #[aggN x, aggN y, .pointer (some ⟨B8, 0, none⟩), .pointer (some ⟨B3, 0, none⟩)] V fun e w' => e = .returned (.bool (lt x y)) ∧ Below V.heap.size V w'
theorem own_cellN {W : World} {base g cap n : Nat} {L : List LN} (h : W.ownsRow base 64 2 (.slice (some ⟨g, 0, none⟩) n cap) n (flatN L)) (i : Nat) (hi : i < L.length) : W.cell? ⟨g, i * 2, none⟩ = some (.string L[i].1) ∧ W.cell? ⟨g, i * 2 + 1, none⟩ = some (.int .i64 (L[i].2 : Int)) := by
 obtain ⟨a, b⟩ := flatN_get L i hi
 have h1 := h.cells (g := g) rfl (i * 2) _ a
 have h2 := h.cells (g := g) rfl (i * 2 + 1) _ b
 rw [add_plain] at h1 h2
 exact ⟨by simpa using h1, by simpa using h2⟩
theorem own_formN {W : World} {base e s n : Nat} {v : Value} {xs : List Value} (h : W.ownsRow base e s v n xs) (hn : 0 < n) : ∃ g cap, v = .slice (some ⟨g, 0, none⟩) n cap ∧ base ≤ g ∧ g < W.heap.size ∧ n ≤ cap ∧ cap ≤ maxLen := by
 rcases h.2 with ⟨_, h0⟩ | ⟨g, cap, cur, he, h1, h2, h3, h4, _⟩
 ·omega
 ·exact ⟨g, cap, he, h1, (Array.getElem?_eq_some_iff.1 h2).1, h3, h4⟩
theorem own_sliceN {W : World} {base e s n : Nat} {v : Value} {xs : List Value} (h : W.ownsRow base e s v n xs) : ∃ a c, v = .slice a n c := by
 rcases h.2 with ⟨rfl, rfl⟩ | ⟨g, cap, cur, he, _⟩
 ·exact ⟨none, 0, rfl⟩
 ·exact ⟨_, cap, he⟩
set_option maxHeartbeats 1000000 in
set_option maxRecDepth 100000 in
theorem len_calls (Bp B8 B3 base : Nat) (o8 o3 : Obj) (v : Value) (L : List LN) (w : World) (h : PS Bp B8 B3 base o8 o3 v L w) :
  Calls Tryz.prog 30 #[.pointer (some ⟨Bp, 0, none⟩)] w fun e w' => e = .returned (.int .i64 (L.length : Int)) ∧ w = w' := by
 have c0 : w.cell? ⟨Bp, 0, none⟩ = some v := by rw [Lib.cell_of_heap h.bp]; rfl
 obtain ⟨a, c, rfl⟩ := own_sliceN h.own
 clear h
 go_enter Tryz.func30, Tryz.ntmps30
 go_wp2
 go_ret
 exact ⟨rfl, rfl⟩
set_option maxHeartbeats 4000000 in
set_option maxRecDepth 100000 in
theorem less_calls (Bp B8 B3 base : Nat) (o8 o3 : Obj) (lt : LN → LN → Bool) (P : LN → Prop) (HT : Tells B8 B3 o8 o3 lt P) (v : Value) (L : List LN) (w : World) (h : PS Bp B8 B3 base o8 o3 v L w) (i j : Nat) (hi : i < L.length) (hj : j < L.length) (hl : L.length ≤ 1000000) (hP : ∀ x ∈ L, P x) :
  Calls Tryz.prog 215 #[.pointer (some ⟨Bp, 0, none⟩), .int .i64 (i : Int), .int .i64 (j : Int)] w fun e w' => e = .returned (.bool (lt L[i] L[j])) ∧ Below w.heap.size w w' := by
 have c0 : w.cell? ⟨Bp, 0, none⟩ = some v := by rw [Lib.cell_of_heap h.bp]; rfl
 have c1 : w.cell? ⟨Bp, 1, none⟩ = some (fnV B8 B3) := by rw [Lib.cell_of_heap h.bp]; rfl
 obtain ⟨g, cap, rfl, hb, hg, hc, hm⟩ := own_formN h.own (by omega)
 obtain ⟨d0, d1⟩ := own_cellN h.own i hi
 obtain ⟨e0, e1⟩ := own_cellN h.own j hj
 obtain ⟨x, hx⟩ : ∃ x, L[i] = x := ⟨_, rfl⟩
 obtain ⟨y, hy⟩ : ∃ y, L[j] = y := ⟨_, rfl⟩
 have HC := Lib.hid (fun V (k : Below w.heap.size w V) => HT x y V (hP x (hx ▸ List.getElem_mem hi)) (hP y (hy ▸ List.getElem_mem hj)) ((k.block _ (Array.getElem?_eq_some_iff.1 h.b8).1).trans h.b8) ((k.block _ (Array.getElem?_eq_some_iff.1 h.b3).1).trans h.b3))
 rw [hx] at d0 d1 ⊢
 rw [hy] at e0 e1 ⊢
 unfold fnV at c1
 unfold aggN at HC
 have HS := Lib.hid (show ∀ V, Below w.heap.size w V → V.cell? ⟨Bp, 0, none⟩ = some (.slice (some ⟨g, 0, none⟩) L.length cap) ∧ V.cell? ⟨Bp, 1, none⟩ = some (.func (.func 26) #[] #[.pointer (some ⟨B8, 0, none⟩), .pointer (some ⟨B3, 0, none⟩)]) ∧ V.cell? ⟨g, i * 2, none⟩ = some (.string x.1) ∧ V.cell? ⟨g, i * 2 + 1, none⟩ = some (.int .i64 (x.2 : Int)) ∧ V.cell? ⟨g, j * 2, none⟩ = some (.string y.1) ∧ V.cell? ⟨g, j * 2 + 1, none⟩ = some (.int .i64 (y.2 : Int)) from fun V k => ⟨pw_cell_below k c0, pw_cell_below k c1, pw_cell_below k d0, pw_cell_below k d1, pw_cell_below k e0, pw_cell_below k e1⟩)
 clear h hP HT hx hy c0 c1 d0 d1 e0 e1
 go_enter Tryz.func215, Tryz.ntmps215
 go_wp2_with fail
 go_region_held3 (fun V => Below w.heap.size w V ∧ V.cell? ⟨Bp, 0, none⟩ = some (.slice (some ⟨g, 0, none⟩) L.length cap) ∧ V.cell? ⟨Bp, 1, none⟩ = some (.func (.func 26) #[] #[.pointer (some ⟨B8, 0, none⟩), .pointer (some ⟨B3, 0, none⟩)]) ∧ V.cell? ⟨g, i * 2, none⟩ = some (.string x.1) ∧ V.cell? ⟨g, i * 2 + 1, none⟩ = some (.int .i64 (x.2 : Int)) ∧ V.cell? ⟨g, j * 2, none⟩ = some (.string y.1) ∧ V.cell? ⟨g, j * 2 + 1, none⟩ = some (.int .i64 (y.2 : Int)))
  (with_reducible first | assumption | exact ⟨by assumption, HS.out _ (by assumption)⟩ | exact ⟨bdr (Below.refl _ _), HS.out _ (bdr (Below.refl _ _))⟩ | exact ⟨Below.refl _ _, HS.out _ (Below.refl _ _)⟩) ((first
  | (go_at_call 26; with_reducible refine (HC.out _ (show Below w.heap.size w _ ∧ _ from by assumption).1).mono ?_; rintro e w' ⟨rfl, hbq⟩; have hbq := bth (show Below w.heap.size w _ ∧ _ from by assumption).1 hbq)))
 all_goals go_wp2
 all_goals go_ret
 all_goals exact ⟨rfl, (show Below w.heap.size w _ ∧ _ from by assumption).1⟩
theorem own_setN {W : World} {base g cap n : Nat} {L : List LN} (h : W.ownsRow base 64 2 (.slice (some ⟨g, 0, none⟩) n cap) n (flatN L)) (i : Nat) (hi : i < L.length) (x : LN) :
  ((W.setCell ⟨g, i * 2, none⟩ (.string x.1)).setCell ⟨g, i * 2 + 1, none⟩ (.int .i64 (x.2 : Int))).ownsRow base 64 2 (.slice (some ⟨g, 0, none⟩) n cap) n (flatN (L.set i x)) := by
 have h1 := own_setj h (i * 2) (by rw [flatN_len]; omega) (.string x.1)
 have h2 := own_setj h1 (i * 2 + 1) (by rw [List.length_set, flatN_len]; omega) (.int .i64 (x.2 : Int))
 rw [flatN_set L i hi x] at h2
 exact h2
set_option maxHeartbeats 4000000 in
set_option maxRecDepth 100000 in
theorem swap_calls (Bp B8 B3 base : Nat) (o8 o3 : Obj) (v : Value) (L : List LN) (w : World) (h : PS Bp B8 B3 base o8 o3 v L w) (i j : Nat) (hi : i < L.length) (hj : j < L.length) (hl : L.length ≤ 1000000) (d : LN) :
  Calls Tryz.prog 217 #[.pointer (some ⟨Bp, 0, none⟩), .int .i64 (i : Int), .int .i64 (j : Int)] w fun e w' => e = .returned (.tuple #[]) ∧ PS Bp B8 B3 base o8 o3 v (Hp.swapL d L i j) w' ∧ Below base w w' ∧ KStr w w' := by
 have c0 : w.cell? ⟨Bp, 0, none⟩ = some v := by rw [Lib.cell_of_heap h.bp]; rfl
 obtain ⟨g, cap, rfl, hb, hg, hc, hm⟩ := own_formN h.own (by omega)
 obtain ⟨d0, d1⟩ := own_cellN h.own i hi
 obtain ⟨e0, e1⟩ := own_cellN h.own j hj
 have f0 := h.own.frozenAt (i * 2)
 have f1 := h.own.frozenAt (i * 2 + 1)
 have f2 := h.own.frozenAt (j * 2)
 have f3 := h.own.frozenAt (j * 2 + 1)
 have hw1 := own_setN h.own i hi L[j]
 have hw2 := own_setN hw1 j (by simpa using hj) L[i]
 have HSW := Lib.hid (show (L.set i L[j]).set j L[i] = Hp.swapL d L i j by unfold Hp.swapL; rw [Hp.getD_at d L i hi, Hp.getD_at d L j hj])
 have hjs : j < (L.set i L[j]).length := by simpa using hj
 obtain ⟨m0, m1⟩ := own_cellN hw1 j hjs
 have n0 := hw1.frozenAt (j * 2)
 have n1 := hw1.frozenAt (j * 2 + 1)
 obtain ⟨x, hx⟩ : ∃ x, L[i] = x := ⟨_, rfl⟩
 obtain ⟨y, hy⟩ : ∃ y, L[j] = y := ⟨_, rfl⟩
 obtain ⟨z, hz⟩ : ∃ z, (L.set i L[j])[j] = z := ⟨_, rfl⟩
 rw [hz] at m0 m1
 rw [hx] at d0 d1 hw2 HSW
 rw [hy] at e0 e1 hw1 hw2 m0 m1 n0 n1 HSW
 have HH := Lib.hid h
 have H2 := Lib.hid hw2
 clear h hw1 hw2 hx hy hz hjs
 go_enter Tryz.func217, Tryz.ntmps217
 go_wp2_with fail
 go_region
 all_goals go_wp2
 go_end0
 have hbl := (((((Below.refl base w).setCell (p := ⟨g, i * 2, none⟩) hb (.string y.1)).setCell (p := ⟨g, i * 2 + 1, none⟩) hb (.int .i64 (y.2 : Int))).setCell (p := ⟨g, j * 2, none⟩) hb (.string x.1)).setCell (p := ⟨g, j * 2 + 1, none⟩) hb (.int .i64 (x.2 : Int)))
 have ho := H2.out
 rw [HSW.out] at ho
 refine ⟨rfl, ⟨(hbl.block _ (by have := HH.out.lt8; have := HH.out.ltp; omega)).trans HH.out.b8, (hbl.block _ (by have := HH.out.lt3; have := HH.out.ltp; omega)).trans HH.out.b3, (hbl.block _ HH.out.ltp).trans HH.out.bp, ?_, HH.out.lt8, HH.out.lt3, HH.out.ltp⟩, ⟨hbl.os, hbl.tape, hbl.output, hbl.size, hbl.block⟩, ?_⟩
 rotate_left
 ·exact fun b cs' fz e => KStr.set4 (own_block_at HH.out.own) (by decide) _ _ _ _ _ _ _ _ b cs' fz e
 rw [Hp.swap_len]
 first | exact ho | exact World.ownsRow.drew ho
theorem own_shortN {w : World} {base e g cap m s : Nat} {xs : List Value} (h : w.ownsRow base e s (.slice (some ⟨g, 0, none⟩) m cap) m xs) (n : Nat) (hn : n ≤ m) :
  w.ownsRow base e s (.slice (some ⟨g, 0, none⟩) n cap) n (xs.take (n * s)) := by
 have hl := h.1
 have hle : n * s ≤ m * s := Nat.mul_le_mul_right s hn
 rcases h.2 with ⟨h', _⟩ | ⟨g', cap', cur, h', hb, hg, hnc, hcm, hcs, htake⟩
 ·cases h'
 ·simp only [Value.slice.injEq, Option.some.injEq, Addr.mk.injEq, and_true, true_and] at h'
  obtain ⟨rfl, rfl⟩ := h'
  refine ⟨by rw [List.length_take]; omega, .inr ⟨g, cap, cur, rfl, hb, hg, by omega, hcm, hcs, ?_⟩⟩
  rw [← htake, List.take_take]
  congr 1
  omega
theorem flatN_take (L : List LN) : ∀ k, (flatN L).take (k * 2) = flatN (L.take k) := by
 induction L with
 | nil => intro k; simp [flatN]
 | cons h L ih =>
  intro k
  have e : ∀ (x : LN) (M : List LN), flatN (x :: M) = .string x.1 :: .int .i64 (x.2 : Int) :: flatN M := fun _ _ => rfl
  cases k with
  | zero => simp [flatN]
  | succ k => rw [e, show (k + 1) * 2 = k * 2 + 1 + 1 by omega, List.take_succ_cons, List.take_succ_cons, ih k, List.take_succ_cons, e]
set_option maxHeartbeats 4000000 in
set_option maxRecDepth 100000 in
theorem pop_calls (Bp B8 B3 base : Nat) (o8 o3 : Obj) (v : Value) (L : List LN) (w : World) (h : PS Bp B8 B3 base o8 o3 v L w) (k : Nat) (hk : L.length = k + 1) (hl : L.length ≤ 1000000) :
  Calls Tryz.prog 216 #[.pointer (some ⟨Bp, 0, none⟩)] w fun e w' => e = .returned (.iface 64 (aggN (L[k]'(by omega)))) ∧ (∃ v', PS Bp B8 B3 base o8 o3 v' (L.take k) w') ∧ Below Bp w w' ∧ KStr w w' := by
 have c0 : w.cell? ⟨Bp, 0, none⟩ = some v := by rw [Lib.cell_of_heap h.bp]; rfl
 have z0 : w.frozen? ⟨Bp, 0, none⟩ = false := Lib.frozen_of_heap h.bp 0
 obtain ⟨g, cap, rfl, hb, hg, hc, hm⟩ := own_formN h.own (by omega)
 obtain ⟨d0, d1⟩ := own_cellN h.own k (by omega)
 have hlt : Bp < w.heap.size := by have := h.ltp; omega
 have ho := own_shortN h.own k (by omega)
 rw [flatN_take] at ho
 obtain ⟨x, hx⟩ : ∃ x, L[k] = x := ⟨_, rfl⟩
 rw [hx] at d0 d1
 have HX := Lib.hid hx
 have HH := Lib.hid h
 have HO := Lib.hid ho
 rw [hk] at c0 hl hc
 have i1 : ((k : Int) + 1 - 1) = (k : Int) := by omega
 clear h ho hx
 go_enter Tryz.func216, Tryz.ntmps216
 go_wp2_with fail
 go_region
 all_goals go_wp2
 obtain ⟨W1, hW1⟩ : ∃ W1, (w.alloc (.cells #[.string x.1, .int .i64 (x.2 : Int)] 64)).drew = W1 := ⟨_, rfl⟩
 have hbl : Below w.heap.size w W1 := by rw [← hW1]; exact bdr (bal (Below.refl _ _) _)
 have hbx : W1.heap[w.heap.size]? = some (.cells #[.string x.1, .int .i64 (x.2 : Int)] 64 (0, 0)) := by rw [← hW1]; exact heap_alloc_new w _
 rw [hW1]
 clear hW1
 have c1 := pw_cell_below hbl c0
 have z1 : W1.frozen? ⟨Bp, 0, none⟩ = false := (hbl.frozen (p := ⟨Bp, 0, none⟩) hlt).trans z0
 have q0 : (W1.setCell ⟨Bp, 0, none⟩ (.slice (some ⟨g, 0, none⟩) k cap)).cell? ⟨w.heap.size, 0, none⟩ = some (.string x.1) := by
  rw [World.cell?_setCell_other (h := fun e' => by injection e' with e1; omega), Lib.cell_of_heap hbx]; rfl
 have q1 : (W1.setCell ⟨Bp, 0, none⟩ (.slice (some ⟨g, 0, none⟩) k cap)).cell? ⟨w.heap.size, 1, none⟩ = some (.int .i64 (x.2 : Int)) := by
  rw [World.cell?_setCell_other (h := fun e' => by injection e' with e1; omega), Lib.cell_of_heap hbx]; rfl
 have HB1 := Lib.hid hbl
 clear hbl hbx c0 z0 d0 d1
 go_region
 all_goals go_wp2
 go_ret
 have hps := (HH.out.below HB1.out).setp (v' := .slice (some ⟨g, 0, none⟩) k cap) (L' := L.take k) (by
  rw [List.length_take, Nat.min_eq_left (by omega)]
  exact pw_own_below HO.out HB1.out)
 refine ⟨by rw [HX.out]; rfl, ⟨.slice (some ⟨g, 0, none⟩) k cap, hps.below (bdr (Below.refl _ _))⟩, ?_⟩
 have hb2 := (HB1.out.mono (Nat.le_of_lt hlt)).setCell (p := ⟨Bp, 0, none⟩) (Nat.le_refl _) (.slice (some ⟨g, 0, none⟩) k cap)
 refine ⟨⟨hb2.os, hb2.tape, hb2.output, hb2.size, hb2.block⟩, ?_⟩
 have hk1 := (KStr.below HB1.out).trans (KStr.set (HH.out.below HB1.out).bp (by decide) 0 (.slice (some ⟨g, 0, none⟩) k cap))
 exact fun b cs fz e => hk1 b cs fz e
end Go.Proofs.YtlicjpbmlmongaaGreatDoor.H
end
section
/- container/heap over the pile: down, Init, Pop. -/
set_option linter.unusedVariables false
set_option linter.unusedSimpArgs false
namespace Go.Proofs.YtlicjpbmlmongaaGreatDoor.H
open Go.RowKit Go.Shelf Go.Proofs Go.Proofs.YtlicjpbmlmongaaGreatDoor.Q Go.Proofs.YtlicjpbmlmongaaGreatDoor.K Go.Proofs.YtlicjpbmlmongaaGreatDoor.P Go.Proofs.YtlicjpbmlmongaaGreatDoorW.PrintWords Go.Proofs.YtlicjpbmlmongaaGreatDoorW.PrintLast
def ifV (Bp : Nat) : Value := .iface 62 (.pointer (some ⟨Bp, 0, none⟩))
theorem down_stop (lt : LN → LN → Bool) (d : LN) (n f k : Nat) (l : List LN) (h : n ≤ 2 * k + 1) : Hp.downL lt d n f l k = l := by
 cases f with
 | zero => rfl
 | succ f => simp only [Hp.downL]; rw [if_pos h]
theorem down_step (lt : LN → LN → Bool) (d : LN) (n k j : Nat) (l : List LN) (h : ¬ n ≤ 2 * k + 1) (hj : Hp.pick lt d n l (2 * k + 1) = j) :
  Hp.downL lt d n (n - k) l k = if lt (l.getD j d) (l.getD k d) = true then Hp.downL lt d n (n - j) (Hp.swapL d l k j) j else l := by
 obtain ⟨f, hf⟩ : ∃ f, n - k = f + 1 := ⟨n - k - 1, by omega⟩
 have ho := Hp.pick_or lt d n l (2 * k + 1)
 rw [hf]
 simp only [Hp.downL]
 rw [if_neg h, hj]
 rw [hj] at ho
 split
 ·exact Hp.down_fuel lt d n f (n - j) _ j (by omega) (Nat.le_refl _)
 ·rfl
theorem swap_mem (d : LN) (l : List LN) (i j : Nat) (hi : i < l.length) (hj : j < l.length) (P : LN → Prop) (h : ∀ x ∈ l, P x) : ∀ x ∈ Hp.swapL d l i j, P x := fun x hx => h x ((Hp.swap_perm d l i j hi hj).mem_iff.1 hx)
/-- The state of down. -/
structure DSn (Bp B8 B3 base : Nat) (o8 o3 : Obj) (lt : LN → LN → Bool) (d : LN) (P : LN → Prop) (v : Value) (L : List LN) (n i : Nat) (w : World) (k : Nat) (L2 : List LN) (W : World) : Prop where
 ps : PS Bp B8 B3 base o8 o3 v L2 W
 low : Below Bp w W
 len : L2.length = L.length
 mem : ∀ x ∈ L2, P x
 eq : Hp.downL lt d n (n - k) L2 k = Hp.downL lt d n n L i
 ks : KStr w W
theorem DSn.below {Bp B8 B3 base : Nat} {o8 o3 : Obj} {lt : LN → LN → Bool} {d : LN} {P : LN → Prop} {v : Value} {L : List LN} {n i : Nat} {w : World} {k : Nat} {L2 : List LN} {W W' : World} (h : DSn Bp B8 B3 base o8 o3 lt d P v L n i w k L2 W) (hB : Bp < W.heap.size) (hb : Below W.heap.size W W') : DSn Bp B8 B3 base o8 o3 lt d P v L n i w k L2 W' :=
 ⟨h.ps.below hb, h.low.trans (hb.mono (Nat.le_of_lt hB)), h.len, h.mem, h.eq, h.ks.trans (KStr.below hb)⟩
theorem DSn.lt {Bp B8 B3 base : Nat} {o8 o3 : Obj} {lt : LN → LN → Bool} {d : LN} {P : LN → Prop} {v : Value} {L : List LN} {n i : Nat} {w : World} {k : Nat} {L2 : List LN} {W : World} (h : DSn Bp B8 B3 base o8 o3 lt d P v L n i w k L2 W) : Bp < W.heap.size := (Array.getElem?_eq_some_iff.1 h.ps.bp).1
set_option maxHeartbeats 4000000 in
set_option maxRecDepth 100000 in
theorem down_calls (Bp B8 B3 base : Nat) (o8 o3 : Obj) (lt : LN → LN → Bool) (d : LN) (P : LN → Prop) (HT : Tells B8 B3 o8 o3 lt P) (v : Value) (L : List LN) (w : World) (h : PS Bp B8 B3 base o8 o3 v L w) (hl : L.length ≤ 1000000) (hP : ∀ x ∈ L, P x) (n i : Nat) (hn : n ≤ L.length) (hi : i ≤ n) :
  Calls Tryz.prog 92 #[ifV Bp, .int .i64 (i : Int), .int .i64 (n : Int)] w fun e w' => (∃ b, e = .returned (.bool b)) ∧ PS Bp B8 B3 base o8 o3 v (Hp.downL lt d n n L i) w' ∧ Below Bp w w' ∧ KStr w w' := by
 unfold ifV
 have HH := Lib.hid (show DSn Bp B8 B3 base o8 o3 lt d P v L n i w i L w from ⟨h, Below.refl _ _, rfl, hP, Hp.down_fuel lt d n _ _ L i (Nat.le_refl _) (by omega), fun _ _ _ _ => rfl⟩)
 have HTT := Lib.hid HT
 clear h hP HT
 go_enter Tryz.func92, Tryz.ntmps92
 go_wp2
 go_loopw [7] (fun iv wr => ∃ (k : Nat) (L2 : List LN), k ≤ n ∧ i ≤ k ∧ iv = .int .i64 (k : Int) ∧ Hid (DSn Bp B8 B3 base o8 o3 lt d P v L n i w k L2 wr)) (fun iv _ => n - (intOf iv).toNat)
 case atStart => exact ⟨i, L, hi, Nat.le_refl _, rfl, HH⟩
 case round =>
  obtain ⟨k, L2, hk, hik, rfl, hst⟩ := hrel
  obtain ⟨a, ha⟩ : ∃ a, 2 * k + 1 = a := ⟨_, rfl⟩
  have hk1 : 2 * (k : Int) + 1 = (a : Int) := by omega
  by_cases h1 : n ≤ a
  ·have g1 : decide ((n : Int) ≤ (a : Int)) = true := decide_eq_true (by omega)
   have HE := Lib.hid (show PS Bp B8 B3 base o8 o3 v (Hp.downL lt d n n L i) wr ∧ Below Bp w wr ∧ KStr w wr by
    have e := hst.out.eq
    rw [down_stop lt d n _ k _ (by omega)] at e
    rw [← e]
    exact ⟨hst.out.ps, hst.out.low, hst.out.ks⟩)
   clear hst
   go_wp2
   go_ret
   exact ⟨⟨_, rfl⟩, HE.out⟩
  ·have g1 : decide ((n : Int) ≤ (a : Int)) = false := decide_eq_false (by omega)
   have g2 : ¬ (a : Int) < 0 := by omega
   have g3 : decide ((a : Int) < 0) = false := decide_eq_false g2
   have hpk : Hp.pick lt d n L2 (2 * k + 1) = if a + 1 < n ∧ lt (L2.getD (a + 1) d) (L2.getD a d) = true then a + 1 else a := by unfold Hp.pick; rw [ha]
   have hl2 : L2.length ≤ 1000000 := by rw [hst.out.len]; exact hl
   have ha2 : a < L2.length := by rw [hst.out.len]; omega
   have hk2 : k < L2.length := by rw [hst.out.len]; omega
   obtain ⟨b, hb⟩ : ∃ b, a + 1 = b := ⟨_, rfl⟩
   have hb1 : (a : Int) + 1 = (b : Int) := by omega
   rw [hb] at hpk
   by_cases h2 : b < n
   ·have hb2 : b < L2.length := by rw [hst.out.len]; omega
    have g4 : decide ((b : Int) < (n : Int)) = true := decide_eq_true (by omega)
    obtain ⟨r, hr⟩ : ∃ r, lt L2[b] L2[a] = r := ⟨_, rfl⟩
    have LS := Lib.hid (fun V hV => less_calls Bp B8 B3 base o8 o3 lt P HTT.out v L2 V hV b a hb2 ha2 hl2 hst.out.mem)
    rw [hr] at LS
    go_wp2_with fail
    with_reducible refine (LS.out _ hst.out.ps).mono ?_
    rintro e w2 ⟨rfl, hbq⟩
    have D2 := Lib.hid (hst.out.below hst.out.lt hbq)
    clear hbq
    rw [Hp.getD_at d L2 b hb2, Hp.getD_at d L2 a ha2, hr] at hpk
    cases r
    ·rw [if_neg (by simp)] at hpk
     have hds := down_step lt d n k a L2 (by omega) hpk
     rw [Hp.getD_at d L2 a ha2, Hp.getD_at d L2 k hk2] at hds
     obtain ⟨q, hq⟩ : ∃ q, lt L2[a] L2[k] = q := ⟨_, rfl⟩
     have LT := Lib.hid (fun V hV => less_calls Bp B8 B3 base o8 o3 lt P HTT.out v L2 V hV a k ha2 hk2 hl2 hst.out.mem)
     rw [hq] at LT hds
     have SW := Lib.hid (fun V hV => swap_calls Bp B8 B3 base o8 o3 v L2 V hV k a hk2 ha2 hl2 d)
     have HDS := Lib.hid hds
     clear hds hpk
     go_wp2_with fail
     with_reducible refine (LT.out _ D2.out.ps).mono ?_
     rintro e w3 ⟨rfl, hbq⟩
     have D3 := Lib.hid (D2.out.below D2.out.lt hbq)
     clear hbq
     cases q
     ·have HE := Lib.hid (show PS Bp B8 B3 base o8 o3 v (Hp.downL lt d n n L i) w3 ∧ Below Bp w w3 ∧ KStr w w3 by
       have e := D3.out.eq
       rw [HDS.out, if_neg (by simp)] at e
       rw [← e]
       exact ⟨D3.out.ps, D3.out.low, D3.out.ks⟩)
      go_wp2
      go_ret
      exact ⟨⟨_, rfl⟩, HE.out⟩
     ·go_wp2_with fail
      with_reducible refine (SW.out _ D3.out.ps).mono ?_
      rintro e w4 ⟨rfl, hp4, hb4, hk4⟩
      have D4 := Lib.hid (show DSn Bp B8 B3 base o8 o3 lt d P v L n i w a (Hp.swapL d L2 k a) w4 from ⟨hp4, D3.out.low.trans (hb4.mono (Nat.le_of_lt D3.out.ps.ltp)), by rw [Hp.swap_len]; exact D3.out.len, swap_mem d L2 k a hk2 ha2 P D3.out.mem, by
       have e := D3.out.eq
       rw [HDS.out] at e
       simp only [if_true] at e
       exact e, D3.out.ks.trans hk4⟩)
      clear hp4 hb4 hk4
      go_wp2
      go_roundw
      case rel => exact ⟨a, _, by omega, by omega, rfl, D4⟩
      case measure => simp [intOf]; omega
    ·rw [if_pos ⟨h2, rfl⟩] at hpk
     have hds := down_step lt d n k b L2 (by omega) hpk
     rw [Hp.getD_at d L2 b hb2, Hp.getD_at d L2 k hk2] at hds
     obtain ⟨q, hq⟩ : ∃ q, lt L2[b] L2[k] = q := ⟨_, rfl⟩
     have LT := Lib.hid (fun V hV => less_calls Bp B8 B3 base o8 o3 lt P HTT.out v L2 V hV b k hb2 hk2 hl2 hst.out.mem)
     rw [hq] at LT hds
     have SW := Lib.hid (fun V hV => swap_calls Bp B8 B3 base o8 o3 v L2 V hV k b hk2 hb2 hl2 d)
     have HDS := Lib.hid hds
     clear hds hpk
     go_wp2_with fail
     with_reducible refine (LT.out _ D2.out.ps).mono ?_
     rintro e w3 ⟨rfl, hbq⟩
     have D3 := Lib.hid (D2.out.below D2.out.lt hbq)
     clear hbq
     cases q
     ·have HE := Lib.hid (show PS Bp B8 B3 base o8 o3 v (Hp.downL lt d n n L i) w3 ∧ Below Bp w w3 ∧ KStr w w3 by
       have e := D3.out.eq
       rw [HDS.out, if_neg (by simp)] at e
       rw [← e]
       exact ⟨D3.out.ps, D3.out.low, D3.out.ks⟩)
      go_wp2
      go_ret
      exact ⟨⟨_, rfl⟩, HE.out⟩
     ·go_wp2_with fail
      with_reducible refine (SW.out _ D3.out.ps).mono ?_
      rintro e w4 ⟨rfl, hp4, hb4, hk4⟩
      have D4 := Lib.hid (show DSn Bp B8 B3 base o8 o3 lt d P v L n i w b (Hp.swapL d L2 k b) w4 from ⟨hp4, D3.out.low.trans (hb4.mono (Nat.le_of_lt D3.out.ps.ltp)), by rw [Hp.swap_len]; exact D3.out.len, swap_mem d L2 k b hk2 hb2 P D3.out.mem, by
       have e := D3.out.eq
       rw [HDS.out] at e
       simp only [if_true] at e
       exact e, D3.out.ks.trans hk4⟩)
      clear hp4 hb4 hk4
      go_wp2
      go_roundw
      case rel => exact ⟨b, _, by omega, by omega, rfl, D4⟩
      case measure => simp [intOf]; omega
   ·have g4 : decide ((b : Int) < (n : Int)) = false := decide_eq_false (by omega)
    rw [if_neg (fun h => h2 h.1)] at hpk
    have D2 := Lib.hid hst.out
    have hds := down_step lt d n k a L2 (by omega) hpk
    rw [Hp.getD_at d L2 a ha2, Hp.getD_at d L2 k hk2] at hds
    obtain ⟨q, hq⟩ : ∃ q, lt L2[a] L2[k] = q := ⟨_, rfl⟩
    have LT := Lib.hid (fun V hV => less_calls Bp B8 B3 base o8 o3 lt P HTT.out v L2 V hV a k ha2 hk2 hl2 hst.out.mem)
    rw [hq] at LT hds
    have SW := Lib.hid (fun V hV => swap_calls Bp B8 B3 base o8 o3 v L2 V hV k a hk2 ha2 hl2 d)
    have HDS := Lib.hid hds
    clear hds hpk
    go_wp2_with fail
    with_reducible refine (LT.out _ D2.out.ps).mono ?_
    rintro e w3 ⟨rfl, hbq⟩
    have D3 := Lib.hid (D2.out.below D2.out.lt hbq)
    clear hbq
    cases q
    ·have HE := Lib.hid (show PS Bp B8 B3 base o8 o3 v (Hp.downL lt d n n L i) w3 ∧ Below Bp w w3 ∧ KStr w w3 by
      have e := D3.out.eq
      rw [HDS.out, if_neg (by simp)] at e
      rw [← e]
      exact ⟨D3.out.ps, D3.out.low, D3.out.ks⟩)
     go_wp2
     go_ret
     exact ⟨⟨_, rfl⟩, HE.out⟩
    ·go_wp2_with fail
     with_reducible refine (SW.out _ D3.out.ps).mono ?_
     rintro e w4 ⟨rfl, hp4, hb4, hk4⟩
     have D4 := Lib.hid (show DSn Bp B8 B3 base o8 o3 lt d P v L n i w a (Hp.swapL d L2 k a) w4 from ⟨hp4, D3.out.low.trans (hb4.mono (Nat.le_of_lt D3.out.ps.ltp)), by rw [Hp.swap_len]; exact D3.out.len, swap_mem d L2 k a hk2 ha2 P D3.out.mem, by
      have e := D3.out.eq
      rw [HDS.out] at e
      simp only [if_true] at e
      exact e, D3.out.ks.trans hk4⟩)
     clear hp4 hb4 hk4
     go_wp2
     go_roundw
     case rel => exact ⟨a, _, by omega, by omega, rfl, D4⟩
     case measure => simp [intOf]; omega
set_option maxHeartbeats 4000000 in
set_option maxRecDepth 100000 in
theorem init_calls (Bp B8 B3 base : Nat) (o8 o3 : Obj) (lt : LN → LN → Bool) (d : LN) (P : LN → Prop) (HT : Tells B8 B3 o8 o3 lt P) (v : Value) (L : List LN) (w : World) (h : PS Bp B8 B3 base o8 o3 v L w) (hl : L.length ≤ 1000000) (hP : ∀ x ∈ L, P x) :
  Calls Tryz.prog 29 #[ifV Bp] w fun e w' => e = .returned (.tuple #[]) ∧ PS Bp B8 B3 base o8 o3 v (Hp.initL lt d L.length (L.length / 2) L) w' ∧ Below Bp w w' := by
 have hBw : Bp < w.heap.size := (Array.getElem?_eq_some_iff.1 h.bp).1
 have HH := Lib.hid (And.intro h hP)
 have HTT := Lib.hid HT
 have hLen := fun V hV => len_calls Bp B8 B3 base o8 o3 v L V hV
 obtain ⟨n, hn⟩ : ∃ n, L.length = n := ⟨_, rfl⟩
 rw [hn] at hLen hl ⊢
 have HLE := Lib.hid hLen
 have HN := Lib.hid hn
 obtain ⟨m, hm⟩ : ∃ m, n / 2 = m := ⟨_, rfl⟩
 have hmi : (n : Int) / 2 = (m : Int) := by omega
 have hmt : (n : Int).tdiv 2 = (m : Int) := by rw [Int.tdiv_eq_ediv_of_nonneg (by omega)]; exact hmi
 have hmn : m ≤ n := by omega
 rw [hm]
 clear h hP HT hn hLen
 unfold ifV
 go_enter Tryz.func29, Tryz.ntmps29
 go_wp2_with fail
 with_reducible refine (HLE.out _ HH.out.1).mono ?_
 rintro e w1 ⟨rfl, hw1⟩
 subst hw1
 go_wp2
 clear hm
 go_loopw [3] (fun iv wr => ∃ (k : Nat) (L2 : List LN), k ≤ m ∧ iv = .int .i64 ((k : Int) - 1) ∧ Hid (PS Bp B8 B3 base o8 o3 v L2 wr ∧ Below Bp w wr ∧ L2.length = n ∧ (∀ x ∈ L2, P x) ∧ Hp.initL lt d n k L2 = Hp.initL lt d n m L)) (fun iv _ => (intOf iv + 1).toNat)
 case atStart => exact ⟨m, L, Nat.le_refl _, rfl, Lib.hid ⟨HH.out.1, Below.refl _ _, HN.out, HH.out.2, rfl⟩⟩
 case round =>
  obtain ⟨k, L2, hk, rfl, hst⟩ := hrel
  by_cases h0 : 0 < k
  ·obtain ⟨j, rfl⟩ : ∃ j, k = j + 1 := ⟨k - 1, by omega⟩
   have hj1 : (((j + 1 : Nat) : Int) - 1) = (j : Int) := by omega
   rw [hj1]
   have HD := Lib.hid (down_calls Bp B8 B3 base o8 o3 lt d P HTT.out v L2 wr hst.out.1 (by rw [hst.out.2.2.1]; exact hl) hst.out.2.2.2.1 n j (by rw [hst.out.2.2.1]; exact Nat.le_refl _) (by omega))
   unfold ifV at HD
   have g0 : (0 : Int) ≤ (j : Int) := by omega
   have hjn : j ≤ 1000000 := by omega
   go_wp2_with fail
   with_reducible refine HD.out.mono ?_
   rintro e w2 ⟨⟨b, rfl⟩, hp2, hb2, -⟩
   have D2 := Lib.hid (show PS Bp B8 B3 base o8 o3 v (Hp.downL lt d n n L2 j) w2 ∧ Below Bp w w2 ∧ (Hp.downL lt d n n L2 j).length = n ∧ (∀ x ∈ Hp.downL lt d n n L2 j, P x) ∧ Hp.initL lt d n j (Hp.downL lt d n n L2 j) = Hp.initL lt d n m L from ⟨hp2, hst.out.2.1.trans hb2, by rw [Hp.down_len]; exact hst.out.2.2.1, fun x hx => hst.out.2.2.2.1 x ((Hp.down_perm lt d n n L2 j (by rw [hst.out.2.2.1]; exact Nat.le_refl _)).mem_iff.1 hx), hst.out.2.2.2.2⟩)
   clear hp2 hb2
   go_wp2
   go_roundw
   case rel => exact ⟨j, _, by omega, rfl, D2⟩
   case measure => simp [intOf]
  ·obtain rfl : k = 0 := by omega
   have HE := Lib.hid (show PS Bp B8 B3 base o8 o3 v (Hp.initL lt d n m L) wr ∧ Below Bp w wr by
    have e := hst.out.2.2.2.2
    rw [← e]
    exact ⟨hst.out.1, hst.out.2.1⟩)
   clear hst
   go_wp2
   go_end0
   exact ⟨rfl, HE.out⟩
set_option maxHeartbeats 4000000 in
set_option maxRecDepth 100000 in
theorem hpop_calls (Bp B8 B3 base : Nat) (o8 o3 : Obj) (lt : LN → LN → Bool) (d : LN) (P : LN → Prop) (HT : Tells B8 B3 o8 o3 lt P) (v : Value) (L : List LN) (w : World) (h : PS Bp B8 B3 base o8 o3 v L w) (hl : L.length ≤ 1000000) (hP : ∀ x ∈ L, P x) (k : Nat) (hk : L.length = k + 1) :
  Calls Tryz.prog 31 #[ifV Bp] w fun e w' => e = .returned (.iface 64 (aggN (L.getD 0 d))) ∧ (∃ v', PS Bp B8 B3 base o8 o3 v' ((Hp.popL lt d L).take k) w') ∧ Below Bp w w' ∧ KStr w w' := by
 have hBw : Bp < w.heap.size := (Array.getElem?_eq_some_iff.1 h.bp).1
 have hpl : Hp.popL lt d L = Hp.downL lt d k k (Hp.swapL d L 0 k) 0 := by unfold Hp.popL; rw [hk]; rfl
 have hlast := Hp.pop_last lt d L (by omega)
 have hpn := Hp.pop_len lt d L
 rw [show L.length - 1 = k by omega, hpl] at hlast
 rw [hpl] at hpn
 have HLE := Lib.hid (show ∀ V, PS Bp B8 B3 base o8 o3 v L V → Calls Tryz.prog 30 #[.pointer (some ⟨Bp, 0, none⟩)] V fun e w' => e = .returned (.int .i64 ((k : Int) + 1)) ∧ V = w' from fun V hV => by
  have := len_calls Bp B8 B3 base o8 o3 v L V hV
  rwa [show ((L.length : Nat) : Int) = (k : Int) + 1 by omega] at this)
 have HSW := Lib.hid (show ∀ V, PS Bp B8 B3 base o8 o3 v L V → Calls Tryz.prog 217 #[.pointer (some ⟨Bp, 0, none⟩), .int .i64 0, .int .i64 (k : Int)] V fun e w' => e = .returned (.tuple #[]) ∧ PS Bp B8 B3 base o8 o3 v (Hp.swapL d L 0 k) w' ∧ Below base V w' ∧ KStr V w' from fun V hV => swap_calls Bp B8 B3 base o8 o3 v L V hV 0 k (by omega) (by omega) hl d)
 obtain ⟨L1, hL1⟩ : ∃ L1, Hp.swapL d L 0 k = L1 := ⟨_, rfl⟩
 have hl1 : L1.length = k + 1 := by rw [← hL1, Hp.swap_len]; exact hk
 have hP1 : ∀ x ∈ L1, P x := by rw [← hL1]; exact swap_mem d L 0 k (by omega) (by omega) P hP
 rw [hL1] at HSW hlast hpn
 have HD := Lib.hid (show ∀ V, PS Bp B8 B3 base o8 o3 v L1 V → Calls Tryz.prog 92 #[ifV Bp, .int .i64 0, .int .i64 (k : Int)] V fun e w' => (∃ b, e = .returned (.bool b)) ∧ PS Bp B8 B3 base o8 o3 v (Hp.downL lt d k k L1 0) w' ∧ Below Bp V w' ∧ KStr V w' from fun V hV => down_calls Bp B8 B3 base o8 o3 lt d P HT v L1 V hV (by omega) hP1 k 0 (by omega) (by omega))
 rw [hpl, hL1]
 obtain ⟨L2, hL2⟩ : ∃ L2, Hp.downL lt d k k L1 0 = L2 := ⟨_, rfl⟩
 rw [hL2] at HD hlast hpn ⊢
 have hl2 : L2.length = k + 1 := by omega
 have HPO := Lib.hid (show ∀ V, PS Bp B8 B3 base o8 o3 v L2 V → Calls Tryz.prog 216 #[.pointer (some ⟨Bp, 0, none⟩)] V fun e w' => e = .returned (.iface 64 (aggN (L.getD 0 d))) ∧ (∃ v', PS Bp B8 B3 base o8 o3 v' (L2.take k) w') ∧ Below Bp V w' ∧ KStr V w' from fun V hV => by
  have := pop_calls Bp B8 B3 base o8 o3 v L2 V hV k hl2 (by omega)
  rwa [← Hp.getD_at d L2 k (by omega), hlast] at this)
 obtain ⟨X0, hX0⟩ : ∃ X0, L.getD 0 d = X0 := ⟨_, rfl⟩
 rw [hX0] at HPO ⊢
 have HH := Lib.hid h
 have hk6 : k ≤ 1000000 := by omega
 have hBb := h.ltp
 clear h hP HT hpl hlast hpn hL1 hP1 hL2 hl1 hl2 hX0
 unfold ifV at HD ⊢
 go_enter Tryz.func31, Tryz.ntmps31
 go_wp2_with fail
 with_reducible refine (HLE.out _ HH.out).mono ?_
 rintro e w1 ⟨rfl, hw1⟩
 subst hw1
 go_wp2_with fail
 with_reducible refine (HSW.out _ HH.out).mono ?_
 rintro e w2 ⟨rfl, hp2, hb2, hk2⟩
 have P2 := Lib.hid hp2
 have B2 := Lib.hid (hb2.mono (Nat.le_of_lt hBb))
 have K2 := Lib.hid hk2
 clear hp2 hb2 hk2
 go_wp2_with fail
 with_reducible refine (HD.out _ P2.out).mono ?_
 rintro e w3 ⟨⟨b3, rfl⟩, hp3, hb3, hk3⟩
 have P3 := Lib.hid hp3
 have B3' := Lib.hid (B2.out.trans hb3)
 have K3 := Lib.hid (K2.out.trans hk3)
 clear hp3 hb3 hk3
 go_wp2_with fail
 with_reducible refine (HPO.out _ P3.out).mono ?_
 rintro e w4 ⟨rfl, hp4, hb4, hk4⟩
 have P4 := Lib.hid hp4
 have B4 := Lib.hid (And.intro (B3'.out.trans hb4) (K3.out.trans hk4))
 clear hp4 hb4 hk4
 go_wp2
 go_ret
 exact ⟨rfl, P4.out, B4.out⟩
end Go.Proofs.YtlicjpbmlmongaaGreatDoor.H
end
section
/- TwinTexts makes a copy of its own with a mark behind it; LeftTexts says of such a copy that it is still what it was made of. -/
set_option linter.unusedVariables false
set_option linter.unusedSimpArgs false
namespace Go.Proofs.YtlicjpbmlmongaaGreatDoor.H
open Go.RowKit Go.Proofs.YtlicjpbmlmongaaGreatDoorW.PrintWords
/-- The mark behind a copy. -/
abbrev spareText : ByteArray := ⟨#[115, 112, 97, 114, 101]⟩
set_option maxHeartbeats 1000000 in
set_option maxRecDepth 100000 in
theorem twinTexts (A : Option Addr) (c : Nat) (l : List ByteArray) (w : World) (hr : Kd.C Kd.string w A l.length l) (hc : l.length ≤ c) (hl : (l.length + 1) * 16 ≤ 140737488355328) :
  Calls Tryz.prog 7 #[.slice A l.length c] w fun e w' => ∃ g cap, e = .returned (.slice (some ⟨g, 0, none⟩) l.length cap) ∧
   w'.ownsRow w.heap.size 9 1 (.slice (some ⟨g, 0, none⟩) (l.length + 1) cap) (l.length + 1) (strs (l ++ [⟨#[115, 112, 97, 114, 101]⟩])) ∧ Below w.heap.size w w' := by
 obtain ⟨i0, hi, hz0, hz1, hz2⟩ := info_parts infoS
 have hr' := Lib.hid hr
 clear hr
 have hl63 : l.length ≤ 9223372036854775807 := by omega
 go_enter Tryz.func7, Tryz.ntmps7
 go_wp2_with (first | (at_make; refine wpList_make_own _ rfl _ _ 24 rfl w.heap.size 9 i0 _ 1 Tryz.underlying24 hi hz0 hz1 .i64 .i64 _ (l.length + 1) rfl rfl ?h1 ?h2 ?h3 ?h4 ?_))
 case h1 => simp
 case h2 => rw [hz2]; omega
 case h3 => unfold maxLen; omega
 case h4 => exact Nat.le_refl _
 intro w1 hown1 hg1
 have hB1 := Lib.hid ((Below.refl w.heap.size w).grown hg1 (Nat.le_refl _) (fun k hk => by cases hk))
 have hown1' := Lib.hid hown1
 clear hown1 hg1
 go_wp2
 go_loopw [3, 4] (fun v i wr => ∃ k : Nat, k ≤ l.length ∧ i = .int .i64 k ∧ v = .slice (some ⟨w.heap.size, 0, none⟩) k (l.length + 1) ∧ Hid (wr.ownsRow w.heap.size 9 1 (.slice (some ⟨w.heap.size, 0, none⟩) k (l.length + 1)) k (strs (l.take k))) ∧ Hid (Below w.heap.size w wr)) (fun _ i _ => l.length - (intOf i).toNat)
 case atStart => exact ⟨0, Nat.zero_le _, rfl, rfl, by simpa [strs] using hown1', hB1⟩
 case round =>
  obtain ⟨k, hk, rfl, rfl, ho, hb⟩ := hrel
  by_cases hlt : k < l.length
  ·obtain ⟨ad, hA, hcell⟩ := C_at hr'.out hb.out k hlt
   subst hA
   go_wp2_with (at_builtin; refine wpList_append_fits _ rfl _ _ 24 rfl w.heap.size 9 i0 1 Tryz.underlying24 hi hz1 w.heap.size k (l.length + 1) _ rfl (ho.out.alloc _) ⟨wr.heap.size, 0, none⟩ 1 1 [.string l[k]] rfl rfl (cell_one_new _ _ _) ?c2 ?c3 ?_)
   case c2 => simp [Value.oneCell']
   case c3 => omega
   intro w2 ho2 hg2
   have ho2' := Lib.hid ho2
   have hb2 := Lib.hid (((bal hb.out (.cells #[.string l[k]] 9)).grown hg2 (by simp; have := hb.out.size; omega) (fun j hj => by cases hj; exact Nat.le_refl _)))
   clear ho2 hg2 ho hb
   go_wp2
   go_roundw
   case rel => exact ⟨k + 1, by omega, by go_num, rfl, Lib.hid (by rw [strs_take k hlt]; exact ho2'.out), hb2⟩
   case measure => simp [intOf]; omega
  ·obtain rfl : k = l.length := by omega
   go_wp2_with (at_builtin; refine wpList_append_fits _ rfl _ _ 24 rfl w.heap.size 9 i0 1 Tryz.underlying24 hi hz1 w.heap.size l.length (l.length + 1) _ rfl (ho.out.alloc _) ⟨wr.heap.size, 0, none⟩ 1 1 [.string ⟨#[115, 112, 97, 114, 101]⟩] rfl rfl (cell_one_new _ _ _) ?c2 ?c3 ?_)
   case c2 => simp [Value.oneCell']
   case c3 => omega
   intro w2 ho2 hg2
   have ho2' := Lib.hid ho2
   have hb2 := Lib.hid (((bal hb.out (.cells #[.string ⟨#[115, 112, 97, 114, 101]⟩] 9)).grown hg2 (by simp; have := hb.out.size; omega) (fun j hj => by cases hj; exact Nat.le_refl _)))
   clear ho2 hg2 ho hb
   go_wp2
   go_ret
   exact ⟨_, _, rfl, by simpa [strs] using ho2'.out, hb2.out⟩
set_option maxHeartbeats 1000000 in
set_option maxRecDepth 100000 in
theorem leftTexts (g cap base : Nat) (A : Option Addr) (c : Nat) (l : List ByteArray) (w : World) (hr : Kd.C Kd.string w A l.length l) (hc : l.length ≤ c)
  (ho : w.ownsRow base 9 1 (.slice (some ⟨g, 0, none⟩) (l.length + 1) cap) (l.length + 1) (strs (l ++ [⟨#[115, 112, 97, 114, 101]⟩]))) :
  Calls Tryz.prog 11 #[.slice (some ⟨g, 0, none⟩) l.length cap, .slice A l.length c] w fun e w' => e = .returned (.bool true) ∧ Below w.heap.size w w' := by
 have hr' := Lib.hid hr
 have ho' := Lib.hid ho
 have hcap : l.length < cap := by have := (twin_cap ho).1; omega
 have hmx : cap ≤ 9223372036854775807 := by have := (twin_cap ho).2; unfold maxLen at this; omega
 have hl63 : l.length ≤ 9223372036854775807 := by omega
 have b1 : (l.length != l.length) = false := by simp
 have b2 : decide (cap ≤ l.length) = false := by simp; omega
 clear hr ho
 go_enter Tryz.func11, Tryz.ntmps11
 go_wp2
 go_loopw [5] (fun i wr => ∃ k : Nat, k ≤ l.length ∧ i = .int .i64 k ∧ Hid (Below w.heap.size w wr)) (fun i _ => l.length - (intOf i).toNat)
 case atStart => exact ⟨0, Nat.zero_le _, rfl, Lib.hid (Below.refl _ _)⟩
 case round =>
  obtain ⟨k, hk, rfl, hb⟩ := hrel
  by_cases hlt : k < l.length
  ·obtain ⟨ad, hA, hcell⟩ := C_at hr'.out hb.out k hlt
   subst hA
   have hcell2 : wr.cell? ⟨g, k, none⟩ = some (.string l[k]) := pw_cell_below hb.out (by have := own_at ho'.out k (by simp; omega); simpa [List.getElem_append_left hlt] using this)
   have h5 : k < cap := by omega
   go_wp2
   go_quiet (fail)
   go_wp2
   go_roundw
   case rel => exact ⟨k + 1, by omega, by go_num, Lib.hid (bdn hb.out _)⟩
   case measure => simp [intOf]; omega
  ·obtain rfl : k = l.length := by omega
   have hcell2 : wr.cell? ⟨g, l.length, none⟩ = some (.string ⟨#[115, 112, 97, 114, 101]⟩) := pw_cell_below hb.out (by have := own_at ho'.out l.length (by simp); simpa using this)
   go_wp2
   go_ret
   exact ⟨rfl, hb.out⟩
end Go.Proofs.YtlicjpbmlmongaaGreatDoor.H
end
section
/- sorts.Sort: lines in order. -/
set_option linter.unusedVariables false
set_option linter.unusedSimpArgs false
namespace Go.Proofs.YtlicjpbmlmongaaGreatDoor.H
open Go.RowKit Go.Shelf Go.Proofs Go.Proofs.YtlicjpbmlmongaaGreatDoor.Q Go.Proofs.YtlicjpbmlmongaaGreatDoor.K Go.Proofs.YtlicjpbmlmongaaGreatDoor.P Go.Proofs.YtlicjpbmlmongaaGreatDoorW.PrintWords Go.Proofs.YtlicjpbmlmongaaGreatDoorW.PrintLast
/-- A list of texts of the call's own, from block base on. -/
def Txs (base : Nat) (v : Value) (L : List ByteArray) (W : World) : Prop := W.ownsRow base 9 1 v L.length (strs L)
theorem Txs.nil (base : Nat) (W : World) : Txs base (.slice none 0 0) [] W := World.ownsRow_nil _ _ _ _
theorem Txs.below {base : Nat} {v : Value} {L : List ByteArray} {W W' : World} (h : Txs base v L W) (hb : Below W.heap.size W W') : Txs base v L W' := pw_own_below h hb
theorem Txs.reads {base : Nat} {v : Value} {L : List ByteArray} {W : World} (h : Txs base v L W) : ∃ A c, v = .slice A L.length c ∧ L.length ≤ c ∧ Kd.C Kd.string W A L.length L := Kd.R_reads (R_of_own h)
theorem infoLn : (Tryz.prog.info? 64).map (fun i => (i.zero, i.size, i.bytes)) = some (some (.agg #[.string ⟨#[]⟩, .int .i64 0]), 2, 24) := by kernel_rfl
section
variable {ops : Array Oper} {rest : List Oper} {o : Oper} {a : Act} {Q : Exit → Act → World → Prop}
/-- append(l, s). -/
theorem app_txt (w : World) (base : Nat) (hgd : o.guard = none) (s x : Operand) (ho : o.op = .call { callee := .builtin .append, args := #[s, x], argTypes := #[24, 24] })
  (v : Value) (L L2 : List ByteArray) (c : ByteArray) (hL2 : L ++ [c] = L2) (hs : a.eval s = v) (hx : a.eval x = .slice (some ⟨w.heap.size, 0, none⟩) 1 1) (HO : Txs base v L w) (hbase : base ≤ w.heap.size) (hl : L.length + 1 ≤ 8000000000000)
  (h : ∀ v1 w1, Txs base v1 L2 w1 → w.grownBy w1 v.ownBlock → wpList Tryz.prog ops Q rest (a.put o.dst v1) w1) :
  wpList Tryz.prog ops Q (o :: rest) a (w.alloc (.cells #[.string c] 9)) := by
 subst hL2
 obtain ⟨i0, hi, hz0, hz1, hz2⟩ := info_parts infoS
 refine wpList_append_own _ hgd s x 24 ho base 9 i0 (.string ⟨#[]⟩) 1 16 Tryz.underlying24 hi hz0 hz1 hz2 rfl (by decide) v L.length (strs L) hs (World.ownsRow.alloc HO _) ⟨w.heap.size, 0, none⟩ 1 1 [.string c] hx rfl ?c1 ?c2 ?c3 ?c4 ?c5 ?_
 case c1 =>
  intro j u hj
  match j, hj with
  | 0, hj => simp at hj; subst hj; simp [Addr.add]
 case c2 => intro u hu; simp at hu; subst hu; rfl
 case c3 => unfold maxLen; omega
 case c4 => omega
 case c5 => simp; omega
 intro v1 w1 hown hg _
 refine h v1 w1 ?_ ⟨hg.os, hg.tape, hg.output, by have := hg.size; simp at this; omega, fun k hk hr => (hg.block k (by simp; omega) hr).trans (Lib.alloc_old w _ k hk)⟩
 unfold Txs
 rw [strs_append, List.length_append, List.length_singleton]
 exact hown
/-- append(l, line{s, i}). -/
theorem app_line (w : World) (base : Nat) (hgd : o.guard = none) (s x : Operand) (ho : o.op = .call { callee := .builtin .append, args := #[s, x], argTypes := #[68, 68] })
  (v : Value) (L L2 : List LN) (c : LN) (n : Int) (hn : (c.2 : Int) = n) (hL2 : L ++ [c] = L2) (hs : a.eval s = v) (hx : a.eval x = .slice (some ⟨w.heap.size, 0, none⟩) 1 1) (HO : w.ownsRow base 64 2 v L.length (flatN L)) (hbase : base ≤ w.heap.size) (hl : L.length + 1 ≤ 1000000000000)
  (h : ∀ v1 w1, w1.ownsRow base 64 2 v1 L2.length (flatN L2) → w.grownBy w1 v.ownBlock → wpList Tryz.prog ops Q rest (a.put o.dst v1) w1) :
  wpList Tryz.prog ops Q (o :: rest) a (w.alloc (.cells #[.string c.1, .int .i64 n] 64)) := by
 subst hL2 hn
 obtain ⟨i0, hi, hz0, hz1, hz2⟩ := info_parts infoLn
 refine wpList_append_own _ hgd s x 68 ho base 64 i0 (.agg #[.string ⟨#[]⟩, .int .i64 0]) 2 24 Tryz.underlying68 hi hz0 hz1 hz2 rfl (by decide) v L.length (flatN L) hs (World.ownsRow.alloc HO _) ⟨w.heap.size, 0, none⟩ 1 1 [.string c.1, .int .i64 (c.2 : Int)] hx rfl ?c1 ?c2 ?c3 ?c4 ?c5 ?_
 case c1 =>
  intro j u hj
  match j, hj with
  | 0, hj => simp at hj; subst hj; simp [Addr.add]
  | 1, hj => simp at hj; subst hj; simp [Addr.add]
 case c2 => intro u hu; simp at hu; rcases hu with rfl | rfl <;> rfl
 case c3 => unfold maxLen; omega
 case c4 => omega
 case c5 => simp; omega
 intro v1 w1 hown hg _
 refine h v1 w1 ?_ ⟨hg.os, hg.tape, hg.output, by have := hg.size; simp at this; omega, fun k hk hr => (hg.block k (by simp; omega) hr).trans (Lib.alloc_old w _ k hk)⟩
 rw [flatN_app, List.length_append, List.length_singleton]
 exact hown
end
/-- A line put behind the pile's. -/
theorem PS.grow {Bp B8 B3 base : Nat} {o8 o3 : Obj} {v : Value} {L : List LN} {W W1 : World} (h : PS Bp B8 B3 base o8 o3 v L W) (hg : W.grownBy W1 v.ownBlock) {v1 : Value} {L1 : List LN} (ho : W1.ownsRow base 64 2 v1 L1.length (flatN L1)) : PS Bp B8 B3 base o8 o3 v1 L1 (W1.setCell ⟨Bp, 0, none⟩ v1) := by
 have hne : ∀ b, b < base → v.ownBlock ≠ some b := fun b hb e => by have := own_base h.own b e; omega
 have k : ∀ b o, b < base → W.heap[b]? = some o → W1.heap[b]? = some o := fun b o hb e => (hg.block b (Array.getElem?_eq_some_iff.1 e).1 (fun e2 => hne b hb e2.symm)).trans e
 exact ⟨(Below.heap_setCell _ _ _ _ (by show B8 ≠ Bp; have := h.lt8; omega)).trans (k _ _ (by have := h.lt8; have := h.ltp; omega) h.b8), (Below.heap_setCell _ _ _ _ (by show B3 ≠ Bp; have := h.lt3; omega)).trans (k _ _ (by have := h.lt3; have := h.ltp; omega) h.b3), blk_put (k _ _ h.ltp h.bp) 0 v1 rfl,
  own_other ho (grownBy_setCell' W1 Bp _) (.inr (fun e => by have := own_base ho Bp e; have := h.ltp; omega)), h.lt8, h.lt3, h.ltp⟩
theorem PS.size {Bp B8 B3 base : Nat} {o8 o3 : Obj} {v : Value} {L : List LN} {W : World} (h : PS Bp B8 B3 base o8 o3 v L W) : Bp < W.heap.size := (Array.getElem?_eq_some_iff.1 h.bp).1
/-- A list of texts grows; the pile lies elsewhere. -/
theorem PS.other {Bp B8 B3 base : Nat} {o8 o3 : Obj} {v : Value} {L : List LN} {W W1 : World} (h : PS Bp B8 B3 base o8 o3 v L W) {u : Value} {n : Nat} {xs : List Value} (ho : W.ownsRow base 9 1 u n xs) (hg : W.grownBy W1 u.ownBlock) : PS Bp B8 B3 base o8 o3 v L W1 := by
 have hne : ∀ b, b < base → u.ownBlock ≠ some b := fun b hb e => by have := own_base ho b e; omega
 have k : ∀ b o, b < base → W.heap[b]? = some o → W1.heap[b]? = some o := fun b o hb e => (hg.block b (Array.getElem?_eq_some_iff.1 e).1 (fun e2 => hne b hb e2.symm)).trans e
 exact ⟨k _ _ (by have := h.lt8; have := h.ltp; omega) h.b8, k _ _ (by have := h.lt3; have := h.ltp; omega) h.b3, k _ _ h.ltp h.bp, own_other h.own hg (ne_other (ne_types ho h.own (by decide))), h.lt8, h.lt3, h.ltp⟩
/-- The lines with their places. -/
def tagL (l : List ByteArray) : List LN := l.zipIdx
theorem tag_take (l : List ByteArray) (k : Nat) (h : k < l.length) : tagL (l.take (k + 1)) = tagL (l.take k) ++ [(l[k], k)] := by
 unfold tagL
 rw [List.take_succ_eq_append_getElem h, List.zipIdx_append]
 simp [Nat.min_eq_left (Nat.le_of_lt h)]
theorem tag_mem (l : List ByteArray) (x : LN) (h : x ∈ tagL l) : x.1 ∈ l ∧ x.2 < l.length := by
 unfold tagL at h
 obtain ⟨a, i⟩ := x
 have := List.mem_zipIdx_iff_getElem?.1 h
 obtain ⟨h1, h2⟩ := List.getElem?_eq_some_iff.1 this
 exact ⟨h2 ▸ List.getElem_mem h1, h1⟩
theorem tag_len (l : List ByteArray) : (tagL l).length = l.length := by simp [tagL]
/-- What is told of one line more. -/
def stepF (un : Bool) (c : List UInt8 → List UInt8 → Int) (out : List ByteArray) (s : ByteArray) : List ByteArray :=
 if un = false ∨ out = [] ∨ c (out.getLastD ⟨#[]⟩).data.toList s.data.toList ≠ 0 then out ++ [s] else out
def outF (un : Bool) (c : List UInt8 → List UInt8 → Int) (E : List LN) : List ByteArray := E.foldl (fun o x => stepF un c o x.1) []
theorem outF_snoc (un : Bool) (c : List UInt8 → List UInt8 → Int) (E : List LN) (x : LN) : outF un c (E ++ [x]) = stepF un c (outF un c E) x.1 := by unfold outF; rw [List.foldl_append]; rfl
theorem stepF_len (un : Bool) (c : List UInt8 → List UInt8 → Int) (out : List ByteArray) (s : ByteArray) : (stepF un c out s).length ≤ out.length + 1 := by unfold stepF; split <;> simp
theorem outF_len (un : Bool) (c : List UInt8 → List UInt8 → Int) (E : List LN) : (outF un c E).length ≤ E.length := by
 have h : ∀ (E : List LN) (o : List ByteArray), (E.foldl (fun o x => stepF un c o x.1) o).length ≤ o.length + E.length := by
  intro E
  induction E with
  | nil => intro o; exact Nat.le_refl _
  | cons x E ih => intro o; rw [List.foldl_cons, List.length_cons]; have := ih (stepF un c o x.1); have := stepF_len un c o x.1; omega
 have := h E []
 unfold outF
 simpa using this
/-- By what Sort goes. -/
def byC (un nu fo bl re : Bool) (f t : Int) (c : UInt8) : List UInt8 → List UInt8 → Int := if un = true then cmpO nu fo bl re f t c else wholeO nu fo bl re f t c
theorem byC_ord (un nu fo bl re : Bool) (f t : Int) (c : UInt8) : Ord (byC un nu fo bl re f t c) := by
 unfold byC
 split
 ·exact Ord.cmpO nu fo bl re f t c
 ·exact Ord.wholeO nu fo bl re f t c
/-- What Sort hands out, before lines that are alike are left out. -/
def orderL (un nu fo bl re : Bool) (f t : Int) (c : UInt8) (l : List ByteArray) : List LN := Hp.heapL (ltC (lineC (byC un nu fo bl re f t c))) (⟨#[]⟩, 0) (tagL l)
def sortL (un nu fo bl re : Bool) (f t : Int) (c : UInt8) (l : List ByteArray) : List ByteArray := outF un (cmpO nu fo bl re f t c) (orderL un nu fo bl re f t c l)
def ordV (nu fo bl re : Bool) (f t : Int) (c : UInt8) : Value := .agg #[.bool nu, .bool fo, .bool bl, .bool re, .int .i64 f, .int .i64 t, .int .u8 (c.toNat : Int)]
def okL (m : Nat) (x : LN) : Prop := x.1.size ≤ 1000000 ∧ x.2 < m
theorem typeAssert_line (v : Value) (w : World) : (Instr.typeAssert (.iface 64 v) 20 64 false).run Tryz.prog w = .ok v w := by
 simp [Instr.typeAssert, run_underlying Tryz.underlying64]
theorem field_line (s : ByteArray) (n : Int) (w : World) : (Instr.field 64 (.agg #[.string s, .int .i64 n]) 0).run Tryz.prog w = .ok (.string s) w := by
 kernel_rfl
/-- How many the pile holds. -/
def pileN (Bp : Nat) (W : World) : Nat := match W.cell? ⟨Bp, 0, none⟩ with | some (.slice _ n _) => n | _ => 0
theorem PS.pileN {Bp B8 B3 base : Nat} {o8 o3 : Obj} {v : Value} {L : List LN} {W : World} (h : PS Bp B8 B3 base o8 o3 v L W) : H.pileN Bp W = L.length := by
 obtain ⟨a, c, rfl⟩ := own_sliceN h.own
 unfold H.pileN
 rw [Lib.cell_of_heap h.bp]
 rfl
/-- The state while lines are handed out. -/
structure SO (un nu fo bl re : Bool) (f t : Int) (c : UInt8) (l : List ByteArray) (w : World) (Bp B8 B3 base : Nat) (o8 : Obj) (v : Value) (V : World) (n : Nat) : Prop where
 ex : ∃ vp L2 E, PS Bp B8 B3 base o8 (ordObj nu fo bl re f t c) vp L2 V ∧ Txs base v (outF un (cmpO nu fo bl re f t c) E) V ∧ L2.length = n ∧ (∀ x ∈ L2, okL l.length x) ∧ E.length + n = l.length ∧ (∀ x ∈ outF un (cmpO nu fo bl re f t c) E, x.size ≤ 1000000) ∧ E ++ Hp.drain (ltC (lineC (byC un nu fo bl re f t c))) (⟨#[]⟩, 0) n L2 = orderL un nu fo bl re f t c l
 low : Below w.heap.size w V
set_option maxHeartbeats 4000000 in
set_option maxRecDepth 100000 in
theorem sortA_calls (nu fo bl re : Bool) (f t : Int) (c : UInt8) (hck : checkO f t c = true) (A : Option Addr) (cap : Nat) (l : List ByteArray) (w : World) (hr : Kd.C Kd.string w A l.length l) (hc : l.length ≤ cap) (hl : l.length ≤ 65536) (hs : ∀ s ∈ l, s.size ≤ 1000000) :
  Calls Tryz.prog 8 #[ordV nu fo bl re f t c, .slice A l.length cap, .bool false] w fun e w' => ∃ v, e = .returned (.tuple #[v, .int .i64 0]) ∧ Txs w.heap.size v (sortL false nu fo bl re f t c l) w' ∧ Below w.heap.size w w' := by
 have HR := Lib.hid hr
 have HS := Lib.hid hs
 have HCK := Lib.hid (show ∀ V, Calls Tryz.prog 23 #[.agg #[.bool nu, .bool fo, .bool bl, .bool re, .int .i64 f, .int .i64 t, .int .u8 (c.toNat : Int)]] V fun e w' => e = .returned (.bool true) ∧ Below V.heap.size V w' from fun V => by
  have h := keys_Check.calls 1 nu fo bl re f t (c.toNat : Int) (checkO f t c) V (check_f 0 nu fo bl re f t c)
  rwa [hck] at h)
 have d1 : decide ((65536 : Int) < (l.length : Int)) = false := decide_eq_false (by omega)
 clear hr hs hck
 unfold ordV
 go_enter Tryz.func8, Tryz.ntmps8
 go_wp2_with fail
 with_reducible refine (HCK.out _).mono ?_
 rintro e w1 ⟨rfl, hb1⟩
 have hBo : w1.heap[w.heap.size]? = some (ordObj nu fo bl re f t c) := (hb1.block w.heap.size (by simp)).trans (World.alloc_heap_new w _)
 have hlow1 : Below w.heap.size w w1 := bth (bal (Below.refl _ _) _) hb1
 have hlt1 : w.heap.size < w1.heap.size := (Array.getElem?_eq_some_iff.1 hBo).1
 clear hb1
 have HB1 := Lib.hid (And.intro hBo hlow1)
 clear hBo hlow1
 obtain ⟨B, hB⟩ : ∃ B, w1.heap.size = B := ⟨_, rfl⟩
 obtain ⟨W0, hW0⟩ : ∃ W0, ((w1.alloc (.cells #[(.func (.func 24) #[] #[])] 61)).alloc (.cells #[.slice none 0 0, .func (.func 26) #[] #[.pointer (some ⟨w1.heap.size, 0, none⟩), .pointer (some ⟨w.heap.size, 0, none⟩)]] 70)) = W0 := ⟨_, rfl⟩
 have hp0 : PS (B + 1) B w.heap.size (B + 1 + 1) (.cells #[(.func (.func 24) #[] #[])] 61 (0, 0)) (ordObj nu fo bl re f t c) (.slice none 0 0) [] W0 := by
  rw [← hW0, ← hB]
  refine ⟨(Lib.alloc_old _ _ _ (by simp)).trans (heap_alloc_new w1 _), (Lib.alloc_old _ _ _ (by simp; omega)).trans ((Lib.alloc_old _ _ _ (by omega)).trans HB1.out.1), ?_, World.ownsRow_nil _ _ _ _, by omega, by omega, by omega⟩
  have := heap_alloc_new (w1.alloc (.cells #[(.func (.func 24) #[] #[])] 61)) (.cells #[.slice none 0 0, fnV w1.heap.size w.heap.size] 70)
  rw [World.size_alloc] at this
  exact this
 have hl0 : Below w.heap.size w W0 := by
  rw [← hW0]
  exact bal (bal HB1.out.2 _) _
 have HW := Lib.hid hW0
 have HP0 := Lib.hid (And.intro hp0 hl0)
 rw [hB] at hlt1
 clear hW0 hp0 hl0
 go_wp2
 simp only [hB] at HW ⊢
 clear hB
 rw [HW.out]
 go_loopw [10, 11, 28] (fun _ _ i wr => ∃ k : Nat, k ≤ l.length ∧ i = .int .i64 (k : Int) ∧ Hid (∃ vp, PS (B + 1) B w.heap.size (B + 1 + 1) (.cells #[(.func (.func 24) #[] #[])] 61 (0, 0)) (ordObj nu fo bl re f t c) vp (tagL (l.take k)) wr ∧ Below w.heap.size w wr)) (fun _ _ i _ => l.length - (intOf i).toNat)
 case atStart => exact ⟨0, Nat.zero_le _, rfl, Lib.hid ⟨_, by rw [List.take_zero]; exact HP0.out⟩⟩
 case round =>
  obtain ⟨k, hk, rfl, hst'⟩ := hrel
  obtain ⟨vp, hps, hlow⟩ := hst'.out
  clear hst'
  by_cases hlt : k < l.length
  ·have c0 : wr.cell? ⟨B + 1, 0, none⟩ = some vp := by rw [Lib.cell_of_heap hps.bp]; rfl
   obtain ⟨ad, rfl, hx⟩ := C_at HR.out hlow k hlt
   obtain ⟨x, hxe⟩ : ∃ x, l[k] = x := ⟨_, rfl⟩
   have htg := (tag_take l k hlt).symm
   rw [hxe] at hx htg
   have hbz := hps.size
   have PSH := Lib.hid (And.intro hps hlow)
   have HTG := Lib.hid htg
   have hln := Lib.hid (show (tagL (l.take k)).length + 1 ≤ 1000000000000 by rw [tag_len, List.length_take]; omega)
   have hbb := Lib.hid (show B + 1 + 1 ≤ wr.heap.size by omega)
   clear hps hlow htg hxe
   go_wp2_with (at_builtin; go_loud (refine app_line wr (B + 1 + 1) rfl (.tmp 37) (.tmp 41) rfl vp (tagL (l.take k)) (tagL (l.take (k + 1))) (x, k) (k : Int) rfl HTG.out rfl rfl PSH.out.1.own hbb.out hln.out ?_))
   intro v1 w5 ho5 hg5
   obtain ⟨a5, n5, rfl⟩ := own_sliceN ho5
   have hkeep : w5.heap[B + 1]? = wr.heap[B + 1]? := hg5.block _ hbz (fun e => by have := own_base PSH.out.1.own _ e.symm; omega)
   have c5 : w5.cell? ⟨B + 1, 0, none⟩ = some vp := by rw [Lib.cell_of_heap (hkeep.trans PSH.out.1.bp)]; rfl
   have f5 : w5.frozen? ⟨B + 1, 0, none⟩ = false := Lib.frozen_of_heap (hkeep.trans PSH.out.1.bp) 0
   have P5 := Lib.hid (And.intro (PSH.out.1.grow hg5 ho5) ((PSH.out.2.grown hg5 PSH.out.2.size (fun b hb => by have := own_base PSH.out.1.own b hb; omega)).setCell (p := ⟨B + 1, 0, none⟩) (by show w.heap.size ≤ B + 1; omega) (.slice a5 (tagL (l.take (k + 1))).length n5)))
   clear ho5 hg5 hkeep c0
   go_wp2
   go_roundw
   case rel => exact ⟨k + 1, hlt, by go_num, Lib.hid ⟨_, P5.out⟩⟩
   case measure => simp [intOf]; omega
  ·obtain rfl : k = l.length := by omega
   rw [List.take_length] at hps
   have HT : Tells B w.heap.size (.cells #[(.func (.func 24) #[] #[])] 61 (0, 0)) (ordObj nu fo bl re f t c) (ltC (lineC (byC false nu fo bl re f t c))) (okL l.length) := fun x y V px py h8 h3 => sort1W_calls nu fo bl re f t c x y px.1 py.1 B w.heap.size V (by rw [Lib.cell_of_heap h8]; rfl) h3
   have hmem : ∀ x ∈ tagL l, okL l.length x := fun x hx => ⟨HS.out x.1 (tag_mem l x hx).1, (tag_mem l x hx).2⟩
   have HI := Lib.hid (init_calls (B + 1) B w.heap.size (B + 1 + 1) _ _ _ (⟨#[]⟩, 0) (okL l.length) HT vp (tagL l) wr hps (by rw [tag_len]; omega) hmem)
   unfold ifV at HI
   have HTT := Lib.hid HT
   have HLO := Lib.hid (And.intro hlow hps.size)
   have HME := Lib.hid hmem
   clear hps hlow HT hmem
   go_wp2_with fail
   with_reducible refine HI.out.mono ?_
   rintro e w6 ⟨rfl, hp6, hb6⟩
   rw [tag_len] at hp6
   have HSO := Lib.hid (show SO false nu fo bl re f t c l w (B + 1) B w.heap.size (B + 1 + 1) (.cells #[(.func (.func 24) #[] #[])] 61 (0, 0)) (.slice none 0 0) w6 l.length from ⟨⟨vp, _, [], hp6, Txs.nil _ _, by rw [Hp.init_len, tag_len], fun x hx => HME.out x ((Hp.init_perm _ _ _ _ (tagL l) (by rw [tag_len]; exact Nat.le_refl _)).mem_iff.1 hx), by simp, (fun x hx => absurd hx (by simp [outF])), by unfold orderL Hp.heapL; rw [tag_len, List.nil_append]⟩, HLO.out.1.trans (hb6.mono (by omega))⟩)
   clear hp6 hb6
   go_wp2
   go_loopw [12, 13] (fun v _ wr => Hid (∃ n, SO false nu fo bl re f t c l w (B + 1) B w.heap.size (B + 1 + 1) (.cells #[(.func (.func 24) #[] #[])] 61 (0, 0)) v wr n)) (fun _ _ W => pileN (B + 1) W)
   case atStart => exact Lib.hid ⟨_, HSO.out⟩
   case round =>
    obtain ⟨n, hso⟩ := hrel.out
    obtain ⟨⟨vp, L2, E, hp2, ht2, hn2, hm2, hE2, hsz2, hd2⟩, hlo2⟩ := hso
    clear hrel
    have hpn := hp2.pileN
    rw [hn2] at hpn
    have HLE := Lib.hid (show Calls Tryz.prog 30 #[.pointer (some ⟨B + 1, 0, none⟩)] wr fun e w' => e = .returned (.int .i64 (n : Int)) ∧ wr = w' from by
     have := len_calls _ _ _ _ _ _ _ _ _ hp2
     rwa [hn2] at this)
    have HST := Lib.hid (And.intro hp2 (And.intro ht2 (And.intro hn2 (And.intro hm2 (And.intro hE2 (And.intro hsz2 (And.intro hd2 hlo2)))))))
    have HPN := Lib.hid hpn
    clear hp2 ht2 hn2 hm2 hE2 hsz2 hd2 hlo2 hpn
    by_cases h0 : n = 0
    ·have g0 : decide ((0 : Int) < (n : Int)) = false := decide_eq_false (by omega)
     have HEND := Lib.hid (show Txs w.heap.size u12 (sortL false nu fo bl re f t c l) wr by
      have hd := HST.out.2.2.2.2.2.2.1
      have ht := HST.out.2.1
      rw [h0] at hd
      have e : E = orderL false nu fo bl re f t c l := by rw [← hd]; simp [Hp.drain]
      rw [e] at ht
      exact own_weaken ht (by omega))
     go_wp2_with fail
     with_reducible refine HLE.out.mono ?_
     rintro e w7 ⟨rfl, hw7⟩
     subst hw7
     go_wp2
     go_ret2
     exact ⟨_, rfl, HEND.out, HST.out.2.2.2.2.2.2.2⟩
    ·obtain ⟨m, hnm⟩ : ∃ m, n = m + 1 := ⟨n - 1, by omega⟩
     have g0 : decide ((0 : Int) < (n : Int)) = true := decide_eq_true (by omega)
     have hn0 : 0 < n := by omega
     have hL2 := HST.out.2.2.1.trans hnm
     have HPO := Lib.hid (hpop_calls (B + 1) B w.heap.size (B + 1 + 1) _ _ _ (⟨#[]⟩, 0) (okL l.length) HTT.out vp L2 wr HST.out.1 (by rw [hL2]; have := HST.out.2.2.2.2.1; omega) HST.out.2.2.2.1 m hL2)
     unfold ifV at HPO
     have hx0 : okL l.length (L2.getD 0 (⟨#[]⟩, 0)) := HST.out.2.2.2.1 _ (by rw [Hp.getD_at _ L2 0 (by rw [hL2]; omega)]; exact List.getElem_mem _)
     have hdr := HST.out.2.2.2.2.2.2.1
     rw [hnm] at hdr
     simp only [Hp.drain] at hdr
     rw [if_neg (by rw [hL2]; omega)] at hdr
     have hmem2 : ∀ x ∈ (Hp.popL (ltC (lineC (byC false nu fo bl re f t c))) (⟨#[]⟩, 0) L2).take m, okL l.length x := fun x hx => HST.out.2.2.2.1 x ((Hp.pop_perm (ltC (lineC (byC false nu fo bl re f t c))) (⟨#[]⟩, 0) L2 (by rw [hL2]; omega)).mem_iff.1 (List.mem_cons_of_mem _ (by rw [hL2]; exact hx)))
     have hpl2 : ((Hp.popL (ltC (lineC (byC false nu fo bl re f t c))) (⟨#[]⟩, 0) L2).take m).length = m := by rw [List.length_take, Hp.pop_len, hL2]; omega
     rw [hL2, Nat.add_sub_cancel] at hdr
     obtain ⟨X, hX⟩ : ∃ X : LN, L2.getD 0 (⟨#[]⟩, 0) = X := ⟨_, rfl⟩
     obtain ⟨L3, hL3⟩ : ∃ L3, (Hp.popL (ltC (lineC (byC false nu fo bl re f t c))) (⟨#[]⟩, 0) L2).take m = L3 := ⟨_, rfl⟩
     rw [hX] at HPO hx0 hdr
     rw [hL3] at HPO hdr hmem2 hpl2
     obtain ⟨s, at0⟩ := X
     unfold aggN at HPO
     have HMM := Lib.hid (And.intro hdr (And.intro hmem2 (And.intro hpl2 (And.intro hx0 hnm))))
     obtain ⟨O, hO⟩ : ∃ O, outF false (cmpO nu fo bl re f t c) E = O := ⟨_, rfl⟩
     have HO := Lib.hid hO
     obtain ⟨Ao, co, rfl, hco, hCo⟩ := (show Txs (B + 1 + 1) u12 O wr by rw [← hO]; exact HST.out.2.1).reads
     clear hX hL3 hdr hmem2 hpl2 hx0 h0 hnm hL2 hO hCo
     go_wp2_with fail
     with_reducible refine HLE.out.mono ?_
     rintro e w7 ⟨rfl, hw7⟩
     subst hw7
     go_wp2_with fail
     with_reducible refine HPO.out.mono ?_
     rintro e w8 ⟨rfl, ⟨vp2, hp8⟩, hb8, hk8⟩
     have ht8 : Txs (B + 1 + 1) (.slice Ao O.length co) O w8 := hk8.row (by have h := HST.out.2.1; rw [HO.out] at h; exact h)
     have T8 := Lib.hid ht8
     have P8 := Lib.hid (And.intro hp8 (HST.out.2.2.2.2.2.2.2.trans (hb8.mono (by omega))))
     have hOl : O.length ≤ 65536 := by have h := outF_len false (cmpO nu fo bl re f t c) E; rw [HO.out] at h; have := HST.out.2.2.2.2.1; omega
     have hln := Lib.hid (show O.length + 1 ≤ 8000000000000 by omega)
     have hbz8 := Lib.hid (show B + 1 + 1 ≤ w8.heap.size by have := hp8.size; omega)
     clear hp8 hb8 hk8 ht8
     have hta := typeAssert_line (.agg #[.string s, .int .i64 (at0 : Int)]) w8
     have hfd := field_line s (at0 : Int) w8
     have HSF := Lib.hid (show O ++ [s] = stepF false (cmpO nu fo bl re f t c) O s by unfold stepF; rw [if_pos (.inl rfl)])
     go_wp2_with fail
     go_quiet (fail)
     go_wp2_with (at_builtin; go_loud (refine app_txt _ (B + 1 + 1) rfl (.tmp 76) (.tmp 78) rfl (.slice Ao O.length co) O (O ++ [s]) s rfl rfl rfl (T8.out.below (bdn (Below.refl _ _) _)) (show B + 1 + 1 ≤ _ from hbz8.out) hln.out ?_))
     intro v1 w9 ht9 hg9
     have hp9 := (P8.out.1.below (bdn (Below.refl _ _) _)).other (T8.out.below (bdn (Below.refl _ _) _)) hg9
     have hl9 := (bdn P8.out.2 _).grown hg9 P8.out.2.size (fun b hb => by have := own_base T8.out b hb; omega)
     have HF := Lib.hid (show SO false nu fo bl re f t c l w (B + 1) B w.heap.size (B + 1 + 1) (.cells #[(.func (.func 24) #[] #[])] 61 (0, 0)) v1 w9 m ∧ pileN (B + 1) w9 < pileN (B + 1) wr from ⟨⟨⟨vp2, L3, E ++ [(s, at0)], hp9, by rw [outF_snoc, HO.out, ← HSF.out]; exact ht9, HMM.out.2.2.1, HMM.out.2.1, by rw [List.length_append, List.length_singleton]; have := HST.out.2.2.2.2.1; have := HMM.out.2.2.2.2; omega, fun x hx => by
       rw [outF_snoc, HO.out, ← HSF.out] at hx
       rcases List.mem_append.1 hx with h | h
       ·exact HST.out.2.2.2.2.2.1 x (by rw [HO.out]; exact h)
       ·rw [List.mem_singleton.1 h]; exact HMM.out.2.2.2.1.1, by rw [List.append_assoc]; exact HMM.out.1⟩, hl9⟩, by rw [hp9.pileN, HPN.out, HMM.out.2.2.1]; have := HMM.out.2.2.2.2; omega⟩)
     clear ht9 hg9 hp9 hl9
     go_wp2
     go_roundw
     case rel => exact Lib.hid ⟨m, HF.out.1⟩
     case measure => exact HF.out.2
set_option maxHeartbeats 4000000 in
set_option maxRecDepth 100000 in
theorem sortU_calls (nu fo bl re : Bool) (f t : Int) (c : UInt8) (hck : checkO f t c = true) (A : Option Addr) (cap : Nat) (l : List ByteArray) (w : World) (hr : Kd.C Kd.string w A l.length l) (hc : l.length ≤ cap) (hl : l.length ≤ 65536) (hs : ∀ s ∈ l, s.size ≤ 1000000) :
  Calls Tryz.prog 8 #[ordV nu fo bl re f t c, .slice A l.length cap, .bool true] w fun e w' => ∃ v, e = .returned (.tuple #[v, .int .i64 0]) ∧ Txs w.heap.size v (sortL true nu fo bl re f t c l) w' ∧ Below w.heap.size w w' := by
 have HR := Lib.hid hr
 have HS := Lib.hid hs
 have HCK := Lib.hid (show ∀ V, Calls Tryz.prog 23 #[.agg #[.bool nu, .bool fo, .bool bl, .bool re, .int .i64 f, .int .i64 t, .int .u8 (c.toNat : Int)]] V fun e w' => e = .returned (.bool true) ∧ Below V.heap.size V w' from fun V => by
  have h := keys_Check.calls 1 nu fo bl re f t (c.toNat : Int) (checkO f t c) V (check_f 0 nu fo bl re f t c)
  rwa [hck] at h)
 have d1 : decide ((65536 : Int) < (l.length : Int)) = false := decide_eq_false (by omega)
 clear hr hs hck
 unfold ordV
 go_enter Tryz.func8, Tryz.ntmps8
 go_wp2_with fail
 with_reducible refine (HCK.out _).mono ?_
 rintro e w1 ⟨rfl, hb1⟩
 have hBo : w1.heap[w.heap.size]? = some (ordObj nu fo bl re f t c) := (hb1.block w.heap.size (by simp)).trans (World.alloc_heap_new w _)
 have hlow1 : Below w.heap.size w w1 := bth (bal (Below.refl _ _) _) hb1
 have hlt1 : w.heap.size < w1.heap.size := (Array.getElem?_eq_some_iff.1 hBo).1
 clear hb1
 have HB1 := Lib.hid (And.intro hBo hlow1)
 clear hBo hlow1
 obtain ⟨B, hB⟩ : ∃ B, w1.heap.size = B := ⟨_, rfl⟩
 obtain ⟨W0, hW0⟩ : ∃ W0, ((w1.alloc (.cells #[(.func (.func 25) #[] #[])] 61)).alloc (.cells #[.slice none 0 0, .func (.func 26) #[] #[.pointer (some ⟨w1.heap.size, 0, none⟩), .pointer (some ⟨w.heap.size, 0, none⟩)]] 70)) = W0 := ⟨_, rfl⟩
 have hp0 : PS (B + 1) B w.heap.size (B + 1 + 1) (.cells #[(.func (.func 25) #[] #[])] 61 (0, 0)) (ordObj nu fo bl re f t c) (.slice none 0 0) [] W0 := by
  rw [← hW0, ← hB]
  refine ⟨(Lib.alloc_old _ _ _ (by simp)).trans (heap_alloc_new w1 _), (Lib.alloc_old _ _ _ (by simp; omega)).trans ((Lib.alloc_old _ _ _ (by omega)).trans HB1.out.1), ?_, World.ownsRow_nil _ _ _ _, by omega, by omega, by omega⟩
  have := heap_alloc_new (w1.alloc (.cells #[(.func (.func 25) #[] #[])] 61)) (.cells #[.slice none 0 0, fnV w1.heap.size w.heap.size] 70)
  rw [World.size_alloc] at this
  exact this
 have hl0 : Below w.heap.size w W0 := by
  rw [← hW0]
  exact bal (bal HB1.out.2 _) _
 have HW := Lib.hid hW0
 have HP0 := Lib.hid (And.intro hp0 hl0)
 rw [hB] at hlt1
 clear hW0 hp0 hl0
 go_wp2
 simp only [hB] at HW ⊢
 clear hB
 rw [HW.out]
 go_loopw [10, 11, 28] (fun _ _ i wr => ∃ k : Nat, k ≤ l.length ∧ i = .int .i64 (k : Int) ∧ Hid (∃ vp, PS (B + 1) B w.heap.size (B + 1 + 1) (.cells #[(.func (.func 25) #[] #[])] 61 (0, 0)) (ordObj nu fo bl re f t c) vp (tagL (l.take k)) wr ∧ Below w.heap.size w wr)) (fun _ _ i _ => l.length - (intOf i).toNat)
 case atStart => exact ⟨0, Nat.zero_le _, rfl, Lib.hid ⟨_, by rw [List.take_zero]; exact HP0.out⟩⟩
 case round =>
  obtain ⟨k, hk, rfl, hst'⟩ := hrel
  obtain ⟨vp, hps, hlow⟩ := hst'.out
  clear hst'
  by_cases hlt : k < l.length
  ·have c0 : wr.cell? ⟨B + 1, 0, none⟩ = some vp := by rw [Lib.cell_of_heap hps.bp]; rfl
   obtain ⟨ad, rfl, hx⟩ := C_at HR.out hlow k hlt
   obtain ⟨x, hxe⟩ : ∃ x, l[k] = x := ⟨_, rfl⟩
   have htg := (tag_take l k hlt).symm
   rw [hxe] at hx htg
   have hbz := hps.size
   have PSH := Lib.hid (And.intro hps hlow)
   have HTG := Lib.hid htg
   have hln := Lib.hid (show (tagL (l.take k)).length + 1 ≤ 1000000000000 by rw [tag_len, List.length_take]; omega)
   have hbb := Lib.hid (show B + 1 + 1 ≤ wr.heap.size by omega)
   clear hps hlow htg hxe
   go_wp2_with (at_builtin; go_loud (refine app_line wr (B + 1 + 1) rfl (.tmp 37) (.tmp 41) rfl vp (tagL (l.take k)) (tagL (l.take (k + 1))) (x, k) (k : Int) rfl HTG.out rfl rfl PSH.out.1.own hbb.out hln.out ?_))
   intro v1 w5 ho5 hg5
   obtain ⟨a5, n5, rfl⟩ := own_sliceN ho5
   have hkeep : w5.heap[B + 1]? = wr.heap[B + 1]? := hg5.block _ hbz (fun e => by have := own_base PSH.out.1.own _ e.symm; omega)
   have c5 : w5.cell? ⟨B + 1, 0, none⟩ = some vp := by rw [Lib.cell_of_heap (hkeep.trans PSH.out.1.bp)]; rfl
   have f5 : w5.frozen? ⟨B + 1, 0, none⟩ = false := Lib.frozen_of_heap (hkeep.trans PSH.out.1.bp) 0
   have P5 := Lib.hid (And.intro (PSH.out.1.grow hg5 ho5) ((PSH.out.2.grown hg5 PSH.out.2.size (fun b hb => by have := own_base PSH.out.1.own b hb; omega)).setCell (p := ⟨B + 1, 0, none⟩) (by show w.heap.size ≤ B + 1; omega) (.slice a5 (tagL (l.take (k + 1))).length n5)))
   clear ho5 hg5 hkeep c0
   go_wp2
   go_roundw
   case rel => exact ⟨k + 1, hlt, by go_num, Lib.hid ⟨_, P5.out⟩⟩
   case measure => simp [intOf]; omega
  ·obtain rfl : k = l.length := by omega
   rw [List.take_length] at hps
   have HT : Tells B w.heap.size (.cells #[(.func (.func 25) #[] #[])] 61 (0, 0)) (ordObj nu fo bl re f t c) (ltC (lineC (byC true nu fo bl re f t c))) (okL l.length) := fun x y V px py h8 h3 => sort1C_calls nu fo bl re f t c x y px.1 py.1 B w.heap.size V (by rw [Lib.cell_of_heap h8]; rfl) h3
   have hmem : ∀ x ∈ tagL l, okL l.length x := fun x hx => ⟨HS.out x.1 (tag_mem l x hx).1, (tag_mem l x hx).2⟩
   have HI := Lib.hid (init_calls (B + 1) B w.heap.size (B + 1 + 1) _ _ _ (⟨#[]⟩, 0) (okL l.length) HT vp (tagL l) wr hps (by rw [tag_len]; omega) hmem)
   unfold ifV at HI
   have HTT := Lib.hid HT
   have HLO := Lib.hid (And.intro hlow hps.size)
   have HME := Lib.hid hmem
   clear hps hlow HT hmem
   go_wp2_with fail
   with_reducible refine HI.out.mono ?_
   rintro e w6 ⟨rfl, hp6, hb6⟩
   rw [tag_len] at hp6
   have HSO := Lib.hid (show SO true nu fo bl re f t c l w (B + 1) B w.heap.size (B + 1 + 1) (.cells #[(.func (.func 25) #[] #[])] 61 (0, 0)) (.slice none 0 0) w6 l.length from ⟨⟨vp, _, [], hp6, Txs.nil _ _, by rw [Hp.init_len, tag_len], fun x hx => HME.out x ((Hp.init_perm _ _ _ _ (tagL l) (by rw [tag_len]; exact Nat.le_refl _)).mem_iff.1 hx), by simp, (fun x hx => absurd hx (by simp [outF])), by unfold orderL Hp.heapL; rw [tag_len, List.nil_append]⟩, HLO.out.1.trans (hb6.mono (by omega))⟩)
   clear hp6 hb6
   go_wp2
   go_loopw [12, 13] (fun v _ wr => Hid (∃ n, SO true nu fo bl re f t c l w (B + 1) B w.heap.size (B + 1 + 1) (.cells #[(.func (.func 25) #[] #[])] 61 (0, 0)) v wr n)) (fun _ _ W => pileN (B + 1) W)
   case atStart => exact Lib.hid ⟨_, HSO.out⟩
   case round =>
    obtain ⟨n, hso⟩ := hrel.out
    obtain ⟨⟨vp, L2, E, hp2, ht2, hn2, hm2, hE2, hsz2, hd2⟩, hlo2⟩ := hso
    clear hrel
    have hpn := hp2.pileN
    rw [hn2] at hpn
    have HLE := Lib.hid (show Calls Tryz.prog 30 #[.pointer (some ⟨B + 1, 0, none⟩)] wr fun e w' => e = .returned (.int .i64 (n : Int)) ∧ wr = w' from by
     have := len_calls _ _ _ _ _ _ _ _ _ hp2
     rwa [hn2] at this)
    have HST := Lib.hid (And.intro hp2 (And.intro ht2 (And.intro hn2 (And.intro hm2 (And.intro hE2 (And.intro hsz2 (And.intro hd2 hlo2)))))))
    have HPN := Lib.hid hpn
    clear hp2 ht2 hn2 hm2 hE2 hsz2 hd2 hlo2 hpn
    by_cases h0 : n = 0
    ·have g0 : decide ((0 : Int) < (n : Int)) = false := decide_eq_false (by omega)
     have HEND := Lib.hid (show Txs w.heap.size u12 (sortL true nu fo bl re f t c l) wr by
      have hd := HST.out.2.2.2.2.2.2.1
      have ht := HST.out.2.1
      rw [h0] at hd
      have e : E = orderL true nu fo bl re f t c l := by rw [← hd]; simp [Hp.drain]
      rw [e] at ht
      exact own_weaken ht (by omega))
     go_wp2_with fail
     with_reducible refine HLE.out.mono ?_
     rintro e w7 ⟨rfl, hw7⟩
     subst hw7
     go_wp2
     go_ret2
     exact ⟨_, rfl, HEND.out, HST.out.2.2.2.2.2.2.2⟩
    ·obtain ⟨m, hnm⟩ : ∃ m, n = m + 1 := ⟨n - 1, by omega⟩
     have g0 : decide ((0 : Int) < (n : Int)) = true := decide_eq_true (by omega)
     have hn0 : 0 < n := by omega
     have hL2 := HST.out.2.2.1.trans hnm
     have HPO := Lib.hid (hpop_calls (B + 1) B w.heap.size (B + 1 + 1) _ _ _ (⟨#[]⟩, 0) (okL l.length) HTT.out vp L2 wr HST.out.1 (by rw [hL2]; have := HST.out.2.2.2.2.1; omega) HST.out.2.2.2.1 m hL2)
     unfold ifV at HPO
     have hx0 : okL l.length (L2.getD 0 (⟨#[]⟩, 0)) := HST.out.2.2.2.1 _ (by rw [Hp.getD_at _ L2 0 (by rw [hL2]; omega)]; exact List.getElem_mem _)
     have hdr := HST.out.2.2.2.2.2.2.1
     rw [hnm] at hdr
     simp only [Hp.drain] at hdr
     rw [if_neg (by rw [hL2]; omega)] at hdr
     have hmem2 : ∀ x ∈ (Hp.popL (ltC (lineC (byC true nu fo bl re f t c))) (⟨#[]⟩, 0) L2).take m, okL l.length x := fun x hx => HST.out.2.2.2.1 x ((Hp.pop_perm (ltC (lineC (byC true nu fo bl re f t c))) (⟨#[]⟩, 0) L2 (by rw [hL2]; omega)).mem_iff.1 (List.mem_cons_of_mem _ (by rw [hL2]; exact hx)))
     have hpl2 : ((Hp.popL (ltC (lineC (byC true nu fo bl re f t c))) (⟨#[]⟩, 0) L2).take m).length = m := by rw [List.length_take, Hp.pop_len, hL2]; omega
     rw [hL2, Nat.add_sub_cancel] at hdr
     obtain ⟨X, hX⟩ : ∃ X : LN, L2.getD 0 (⟨#[]⟩, 0) = X := ⟨_, rfl⟩
     obtain ⟨L3, hL3⟩ : ∃ L3, (Hp.popL (ltC (lineC (byC true nu fo bl re f t c))) (⟨#[]⟩, 0) L2).take m = L3 := ⟨_, rfl⟩
     rw [hX] at HPO hx0 hdr
     rw [hL3] at HPO hdr hmem2 hpl2
     obtain ⟨s, at0⟩ := X
     unfold aggN at HPO
     have HMM := Lib.hid (And.intro hdr (And.intro hmem2 (And.intro hpl2 (And.intro hx0 hnm))))
     obtain ⟨O, hO⟩ : ∃ O, outF true (cmpO nu fo bl re f t c) E = O := ⟨_, rfl⟩
     have HO := Lib.hid hO
     obtain ⟨Ao, co, rfl, hco, hCo⟩ := (show Txs (B + 1 + 1) u12 O wr by rw [← hO]; exact HST.out.2.1).reads
     clear hX hL3 hdr hmem2 hpl2 hx0 h0 hnm hL2 hO hCo
     go_wp2_with fail
     with_reducible refine HLE.out.mono ?_
     rintro e w7 ⟨rfl, hw7⟩
     subst hw7
     go_wp2_with fail
     with_reducible refine HPO.out.mono ?_
     rintro e w8 ⟨rfl, ⟨vp2, hp8⟩, hb8, hk8⟩
     have ht8 : Txs (B + 1 + 1) (.slice Ao O.length co) O w8 := hk8.row (by have h := HST.out.2.1; rw [HO.out] at h; exact h)
     have T8 := Lib.hid ht8
     have P8 := Lib.hid (And.intro hp8 (HST.out.2.2.2.2.2.2.2.trans (hb8.mono (by omega))))
     have hOl : O.length ≤ 65536 := by have h := outF_len true (cmpO nu fo bl re f t c) E; rw [HO.out] at h; have := HST.out.2.2.2.2.1; omega
     have hln := Lib.hid (show O.length + 1 ≤ 8000000000000 by omega)
     have hbz8 := Lib.hid (show B + 1 + 1 ≤ w8.heap.size by have := hp8.size; omega)
     clear hp8 hb8 hk8 ht8
     have hta := typeAssert_line (.agg #[.string s, .int .i64 (at0 : Int)]) w8
     have hfd := field_line s (at0 : Int) w8
     by_cases hO0 : O.length = 0
     ·have HSF := Lib.hid (show O ++ [s] = stepF true (cmpO nu fo bl re f t c) O s by unfold stepF; rw [if_pos (.inr (.inl (List.eq_nil_of_length_eq_zero hO0)))])
      have z0 : ((O.length : Int) == 0) = true := by rw [hO0]; rfl
      clear hO0
      go_wp2_with fail
      go_quiet (fail)
      go_wp2_with (at_builtin; go_loud (refine app_txt _ (B + 1 + 1) rfl (.tmp 76) (.tmp 78) rfl (.slice Ao O.length co) O (O ++ [s]) s rfl rfl rfl (T8.out.below (bdn (Below.refl _ _) _)) (show B + 1 + 1 ≤ _ from hbz8.out) hln.out ?_))
      intro v1 w9 ht9 hg9
      have hp9 := (P8.out.1.below (bdn (Below.refl _ _) _)).other (T8.out.below (bdn (Below.refl _ _) _)) hg9
      have hl9 := (bdn P8.out.2 _).grown hg9 P8.out.2.size (fun b hb => by have := own_base T8.out b hb; omega)
      have HF := Lib.hid (show SO true nu fo bl re f t c l w (B + 1) B w.heap.size (B + 1 + 1) (.cells #[(.func (.func 25) #[] #[])] 61 (0, 0)) v1 w9 m ∧ pileN (B + 1) w9 < pileN (B + 1) wr from ⟨⟨⟨vp2, L3, E ++ [(s, at0)], hp9, by rw [outF_snoc, HO.out, ← HSF.out]; exact ht9, HMM.out.2.2.1, HMM.out.2.1, by rw [List.length_append, List.length_singleton]; have := HST.out.2.2.2.2.1; have := HMM.out.2.2.2.2; omega, fun x hx => by
        rw [outF_snoc, HO.out, ← HSF.out] at hx
        rcases List.mem_append.1 hx with h | h
        ·exact HST.out.2.2.2.2.2.1 x (by rw [HO.out]; exact h)
        ·rw [List.mem_singleton.1 h]; exact HMM.out.2.2.2.1.1, by rw [List.append_assoc]; exact HMM.out.1⟩, hl9⟩, by rw [hp9.pileN, HPN.out, HMM.out.2.2.1]; have := HMM.out.2.2.2.2; omega⟩)
      clear ht9 hg9 hp9 hl9
      go_wp2
      go_roundw
      case rel => exact Lib.hid ⟨m, HF.out.1⟩
      case measure => exact HF.out.2
     ·have z0 : ((O.length : Int) == 0) = false := beq_eq_false_iff_ne.2 (by omega)
      obtain ⟨g, cap8, hsl, hgb, hgl, hgc, hgm⟩ := own_formN T8.out (by omega)
      injection hsl with hsl _ hsl2
      subst hsl hsl2
      obtain ⟨q, hq⟩ : ∃ q, O.length = q + 1 := ⟨O.length - 1, by omega⟩
      have hcl := own_at T8.out q (by omega)
      obtain ⟨y, hy⟩ : ∃ y, O[q] = y := ⟨_, rfl⟩
      have hlast : O.getLastD ⟨#[]⟩ = y := by
       rw [List.getLastD_eq_getLast?, List.getLast?_eq_getElem?, show O.length - 1 = q by omega, List.getElem?_eq_getElem (by omega), ← hy]
       rfl
      rw [hy] at hcl
      have hys : y.size ≤ 1000000 := by
       rw [← hy]
       exact HST.out.2.2.2.2.2.1 _ (by rw [HO.out]; exact List.getElem_mem _)
      obtain ⟨n0, hn0'⟩ : ∃ n, cmpO nu fo bl re f t c y.data.toList s.data.toList = n := ⟨_, rfl⟩
      have HCM := Lib.hid (fun V => by
       have h := comp_walk nu fo bl re f t c y s (by omega) (by have := HMM.out.2.2.2.1.1; show s.size ≤ _; exact Nat.le_trans this (by decide)) V
       rw [hn0'] at h
       exact h)
      have HCE := Lib.hid (show ∀ V, Below w8.heap.size w8 V → V.cell? ⟨g, q, none⟩ = some (.string y) ∧ V.cell? ⟨w.heap.size, 0, none⟩ = some (.bool nu) ∧ V.cell? ⟨w.heap.size, 1, none⟩ = some (.bool fo) ∧ V.cell? ⟨w.heap.size, 2, none⟩ = some (.bool bl) ∧ V.cell? ⟨w.heap.size, 3, none⟩ = some (.bool re) ∧ V.cell? ⟨w.heap.size, 4, none⟩ = some (.int .i64 f) ∧ V.cell? ⟨w.heap.size, 5, none⟩ = some (.int .i64 t) ∧ V.cell? ⟨w.heap.size, 6, none⟩ = some (.int .u8 (c.toNat : Int)) from fun V hV => by
       have h3 := (hV.block _ (Array.getElem?_eq_some_iff.1 P8.out.1.b3).1).trans P8.out.1.b3
       obtain ⟨h0, h1, h2, h3'⟩ := ord_cells7 h3
       obtain ⟨h4, h5, h6⟩ := ord_cells h3
       exact ⟨pw_cell_below hV hcl, h0, h1, h2, h3', h4, h5, h6⟩)
      have HQ := Lib.hid (And.intro hq (And.intro hlast hn0'))
      have q1 : ((O.length : Int) - 1) = (q : Int) := by omega
      have q2 : IntKind.i64.wrap ((O.length : Int) - 1) = (q : Int) := by rw [q1]; exact IntWalk.i64_in _ (by omega)
      have q3 : (q : Int) < (O.length : Int) := by omega
      have q4 : q < O.length := by omega
      have q5 : (0 : Int) ≤ (q : Int) := Int.natCast_nonneg _
      have q6 : IntKind.i64.wrap (q : Int) = (q : Int) := IntWalk.i64_in _ (by omega)
      clear hq hlast hn0' hcl hy hys hO0
      go_wp2_with fail
      go_region_held3 (fun V => Below w8.heap.size w8 V ∧ V.cell? ⟨g, q, none⟩ = some (.string y) ∧ V.cell? ⟨w.heap.size, 0, none⟩ = some (.bool nu) ∧ V.cell? ⟨w.heap.size, 1, none⟩ = some (.bool fo) ∧ V.cell? ⟨w.heap.size, 2, none⟩ = some (.bool bl) ∧ V.cell? ⟨w.heap.size, 3, none⟩ = some (.bool re) ∧ V.cell? ⟨w.heap.size, 4, none⟩ = some (.int .i64 f) ∧ V.cell? ⟨w.heap.size, 5, none⟩ = some (.int .i64 t) ∧ V.cell? ⟨w.heap.size, 6, none⟩ = some (.int .u8 (c.toNat : Int)))
       (with_reducible first | assumption | exact ⟨by assumption, HCE.out _ (by assumption)⟩ | exact ⟨bdr (Below.refl _ _), HCE.out _ (bdr (Below.refl _ _))⟩ | exact ⟨Below.refl _ _, HCE.out _ (Below.refl _ _)⟩) ((first
       | (go_at_call 25; with_reducible refine (HCM.out _).mono ?_; rintro e w' ⟨rfl, hbq⟩; have hbq := bth (show Below w8.heap.size w8 _ ∧ _ from by assumption).1 hbq)))
      have BW := Lib.hid (show Below w8.heap.size w8 _ ∧ _ from by assumption).1
      clear HCE HCM
      by_cases hz : n0 = 0
      ·have hzb : (n0 != 0) = false := by rw [hz]; rfl
       have HSF := Lib.hid (show O = stepF true (cmpO nu fo bl re f t c) O s by
        unfold stepF
        rw [if_neg]
        rintro (h | h | h)
        ·cases h
        ·rw [h] at q4; simp at q4
        ·exact h (by rw [HQ.out.2.1, HQ.out.2.2]; exact hz))
       have hp9 := P8.out.1.below BW.out
       have HF := Lib.hid (show SO true nu fo bl re f t c l w (B + 1) B w.heap.size (B + 1 + 1) (.cells #[(.func (.func 25) #[] #[])] 61 (0, 0)) (.slice (some ⟨g, 0, none⟩) O.length co) _ m ∧ pileN (B + 1) _ < pileN (B + 1) wr from ⟨⟨⟨vp2, L3, E ++ [(s, at0)], hp9, by rw [outF_snoc, HO.out, ← HSF.out]; exact T8.out.below BW.out, HMM.out.2.2.1, HMM.out.2.1, by rw [List.length_append, List.length_singleton]; have := HST.out.2.2.2.2.1; have := HMM.out.2.2.2.2; omega, fun x hx => by
         rw [outF_snoc, HO.out, ← HSF.out] at hx
         exact HST.out.2.2.2.2.2.1 x (by rw [HO.out]; exact hx), by rw [List.append_assoc]; exact HMM.out.1⟩, bth P8.out.2 BW.out⟩, by rw [hp9.pileN, HPN.out, HMM.out.2.2.1]; have := HMM.out.2.2.2.2; omega⟩)
       clear hp9 hz
       go_wp2
       go_roundw
       case rel => exact Lib.hid ⟨m, HF.out.1⟩
       case measure => exact HF.out.2
      ·have hzb : (n0 != 0) = true := by rw [bne_iff_ne]; exact hz
       have HSF := Lib.hid (show O ++ [s] = stepF true (cmpO nu fo bl re f t c) O s by
        unfold stepF
        rw [if_pos (.inr (.inr (by rw [HQ.out.2.1, HQ.out.2.2]; exact hz)))])
       clear hz
       go_wp2_with (at_builtin; go_loud (refine app_txt _ (B + 1 + 1) rfl (.tmp 76) (.tmp 78) rfl (.slice (some ⟨g, 0, none⟩) O.length co) O (O ++ [s]) s rfl rfl rfl (T8.out.below BW.out) (show B + 1 + 1 ≤ _ from Nat.le_trans hbz8.out BW.out.size) hln.out ?_))
       intro v1 w9 ht9 hg9
       have hp9 := (P8.out.1.below BW.out).other (T8.out.below BW.out) hg9
       have hl9 := (bth P8.out.2 BW.out).grown hg9 (Nat.le_trans P8.out.2.size BW.out.size) (fun b hb => by have := own_base T8.out b hb; omega)
       have HF := Lib.hid (show SO true nu fo bl re f t c l w (B + 1) B w.heap.size (B + 1 + 1) (.cells #[(.func (.func 25) #[] #[])] 61 (0, 0)) v1 w9 m ∧ pileN (B + 1) w9 < pileN (B + 1) wr from ⟨⟨⟨vp2, L3, E ++ [(s, at0)], hp9, by rw [outF_snoc, HO.out, ← HSF.out]; exact ht9, HMM.out.2.2.1, HMM.out.2.1, by rw [List.length_append, List.length_singleton]; have := HST.out.2.2.2.2.1; have := HMM.out.2.2.2.2; omega, fun x hx => by
         rw [outF_snoc, HO.out, ← HSF.out] at hx
         rcases List.mem_append.1 hx with h | h
         ·exact HST.out.2.2.2.2.2.1 x (by rw [HO.out]; exact h)
         ·rw [List.mem_singleton.1 h]; exact HMM.out.2.2.2.1.1, by rw [List.append_assoc]; exact HMM.out.1⟩, hl9⟩, by rw [hp9.pileN, HPN.out, HMM.out.2.2.1]; have := HMM.out.2.2.2.2; omega⟩)
       clear ht9 hg9 hp9 hl9
       go_wp2
       go_roundw
       case rel => exact Lib.hid ⟨m, HF.out.1⟩
       case measure => exact HF.out.2
end Go.Proofs.YtlicjpbmlmongaaGreatDoor.H
end

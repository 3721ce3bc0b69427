/- Written by merge.py out of SAhead, SMrg, SRefSort, Sizes1, SGreat, SameSelf1, PureSortsSorts. -/
import Derived.Test.YtlicjpbmlmongaaGreatDoorQx25
import Derived.Test.YtlicjpbmlmongaaGreatDoorSSort
import Derived.Test.YtlicjpbmlmongaaGreatDoorKRefCmp
import Derived.Test.YtlicjpbmlmongaaGreatDoorQx17
import Derived.Test.YtlicjpbmlmongaaGreatDoorBook6
section
/- The reference's ahead: by the order, and as bytes where that says nothing. -/
set_option linter.unusedVariables false
set_option linter.unusedSimpArgs false
namespace Go.Proofs.YtlicjpbmlmongaaGreatDoor.P
open Go.RowKit Go.Proofs.YtlicjpbmlmongaaGreatDoor.Q Go.Proofs.YtlicjpbmlmongaaGreatDoor.H Go.Proofs.YtlicjpbmlmongaaGreatDoor.K Go.Proofs.YtlicjpbmlmongaaGreatDoor.Pure Go.Proofs.YtlicjpbmlmongaaGreatDoorW.PrintWords Go.Proofs.YtlicjpbmlmongaaGreatDoorW.PrintLast
theorem Ev.of_mono {α : Type} {F : Nat → Option α} (hm : ∀ k, LeO (F k) (F (k + 1))) {r : α} (h : ∃ k, F k = some r) : Ev F r := by
 obtain ⟨k, hk⟩ := h
 refine ⟨k, fun j hj => ?_⟩
 obtain ⟨d, rfl⟩ : ∃ d, j = k + d := ⟨j - k, by omega⟩
 exact lift hm hk d
theorem refCmp_ev (nu fo bl re : Bool) (f t c : Int) (hc : 0 ≤ c ∧ c ≤ 255) (a b : ByteArray) (ha : a.size ≤ 1000000) (hb : b.size ≤ 1000000) :
  Ev (fun k => toolchestref05_Compare.f k nu fo bl re f t c a b) (cmpO nu fo bl re f t (u8 c) a.data.toList b.data.toList) :=
 Ev.of_mono (fun k => toolchestref05_Compare.mono nu fo bl re f t c a b k) (refCompare_f nu fo bl re f t c hc a b ha hb)
theorem ahead_f (nu fo bl re : Bool) (f t c : Int) (hc : 0 ≤ c ∧ c ≤ 255) (a b : ByteArray) (ha : a.size ≤ 1000000) (hb : b.size ≤ 1000000) :
  Ev (fun k => toolchestref06_ahead.f k nu fo bl re f t c a b) (decide (wholeO nu fo bl re f t (u8 c) a.data.toList b.data.toList < 0)) := by
 refine (refCmp_ev nu fo bl re f t c hc a b ha hb).map fun k hk => ?_
 show toolchestref06_ahead.f k nu fo bl re f t c a b = _
 unfold toolchestref06_ahead.f
 have hk' : toolchestref05_Compare.f k nu fo bl re f t c a b = some (cmpO nu fo bl re f t (u8 c) a.data.toList b.data.toList) := hk
 rw [hk', Option.bind_some]
 have hb := Ord.bytes.back a.data.toList b.data.toList
 unfold wholeO orC
 generalize cmpO nu fo bl re f t (u8 c) a.data.toList b.data.toList = x
 by_cases hx : x = 0
 ·rw [if_pos hx, if_pos hx]
  have e1 : Op.bytesLess a.toList b.toList = decide (cmpB a.data.toList b.data.toList < 0) := by rw [Lib.toList_data, Lib.toList_data, less_cmp]
  have e2 : Op.bytesLess b.toList a.toList = decide (-cmpB a.data.toList b.data.toList < 0) := by rw [Lib.toList_data, Lib.toList_data, less_cmp, hb]
  cases re
  ·rw [if_neg (by decide), e1, if_neg (by decide)]
  ·rw [if_pos rfl, e2, if_pos rfl]
 ·rw [if_neg hx, if_neg hx]
end Go.Proofs.YtlicjpbmlmongaaGreatDoor.P
end
section
/- Lines put in order by halves: what the reference does, and that it is what sorts.Sort tells; no program in sight. -/
set_option linter.unusedVariables false
set_option linter.unusedSimpArgs false
namespace Go.Proofs.YtlicjpbmlmongaaGreatDoor.P
open Go.RowKit Go.Proofs Go.Proofs.YtlicjpbmlmongaaGreatDoor.Q Go.Proofs.YtlicjpbmlmongaaGreatDoor.H Go.Proofs.YtlicjpbmlmongaaGreatDoor.K Go.Proofs.YtlicjpbmlmongaaGreatDoorW.PrintWords Go.Proofs.YtlicjpbmlmongaaGreatDoorW.PrintLast
theorem tag_fst (l : List ByteArray) : (tagL l).map (·.1) = l := by unfold tagL; simp
theorem order_perm (un nu fo bl re : Bool) (f t : Int) (c : UInt8) (l : List ByteArray) : (orderL un nu fo bl re f t c l).Perm (tagL l) := Hp.heap_perm _ _ _
theorem order_sorted (un nu fo bl re : Bool) (f t : Int) (c : UInt8) (l : List ByteArray) : (orderL un nu fo bl re f t c l).Pairwise (fun x y => ltC (lineC (byC un nu fo bl re f t c)) y x = false) := Hp.heap_sorted (ltC_ord (lineC_ord (byC_ord un nu fo bl re f t c))) _ _
theorem outF_all (c : List UInt8 → List UInt8 → Int) (E : List LN) : outF false c E = E.map (·.1) := by
 have h : ∀ (E : List LN) (o : List ByteArray), E.foldl (fun o x => stepF false c o x.1) o = o ++ E.map (·.1) := by
  intro E
  induction E with
  | nil => intro o; simp
  | cons x E ih =>
   intro o
   rw [List.foldl_cons, ih]
   unfold stepF
   rw [if_pos (.inl rfl)]
   simp
 exact h E []
theorem rev_ind {α : Type} {p : List α → Prop} (h0 : p []) (h1 : ∀ (P : List α) (x : α), p P → p (P ++ [x])) (l : List α) : p l := by
 have h : ∀ m : List α, p m.reverse := by
  intro m
  induction m with
  | nil => exact h0
  | cons x m ih => rw [List.reverse_cons]; exact h1 _ _ ih
 have := h l.reverse
 rwa [List.reverse_reverse] at this
/-- Sorted, and alike ones by their places. -/
def Srt (c : List UInt8 → List UInt8 → Int) (E : List LN) : Prop := E.Pairwise (fun x y => c x.1.data.toList y.1.data.toList < 0 ∨ (c x.1.data.toList y.1.data.toList = 0 ∧ x.2 < y.2))
theorem cmpI_nn (a b : Nat) (h : ¬ cmpI (a : Int) (b : Int) < 0) : b ≤ a := by
 unfold cmpI at h
 split at h
 ·omega
 ·omega
theorem order_srt (un nu fo bl re : Bool) (f t : Int) (c : UInt8) (l : List ByteArray) : Srt (byC un nu fo bl re f t c) (orderL un nu fo bl re f t c l) := by
 have ho : Ord (byC un nu fo bl re f t c) := byC_ord un nu fo bl re f t c
 have hs := order_sorted un nu fo bl re f t c l
 have hn : (orderL un nu fo bl re f t c l).Pairwise (fun x y => x.2 ≠ y.2) := by
  have h1 : ((tagL l).map (·.2)).Nodup := by
   unfold tagL
   rw [List.zipIdx_map_snd]
   exact List.nodup_range'
  have h2 := ((order_perm un nu fo bl re f t c l).map (·.2)).nodup_iff.2 h1
  exact List.pairwise_map.1 h2
 refine (hs.and hn).imp (fun {x y} h => ?_)
 obtain ⟨h1, h2⟩ := h
 unfold ltC lineC orC at h1
 have h1 := of_decide_eq_false h1
 generalize byC un nu fo bl re f t c = cc at *
 have hb := ho.back y.1.data.toList x.1.data.toList
 split at h1
 ·have := cmpI_nn _ _ h1
  exact .inr ⟨by omega, by omega⟩
 ·exact .inl (by omega)
/-- Two lists as one: of those that are as good those of the first one first. -/
def mrg {α : Type} (lt : α → α → Bool) : List α → List α → List α
 | a, [] => a
 | a, y :: b => a.takeWhile (fun x => !lt y x) ++ y :: mrg lt (a.dropWhile (fun x => !lt y x)) b
theorem mrg_map {α β : Type} (f : α → β) (lt : α → α → Bool) (lt' : β → β → Bool) (h : ∀ x y, lt x y = lt' (f x) (f y)) : ∀ (b a : List α), (mrg lt a b).map f = mrg lt' (a.map f) (b.map f)
 | [], a => rfl
 | y :: b, a => by
  have e : (fun x => !lt y x) = (fun x => !lt' (f y) x) ∘ f := by funext x; simp [h]
  simp only [mrg, List.map_cons, List.map_append]
  rw [mrg_map f lt lt' h b, List.takeWhile_map, List.dropWhile_map, e]
theorem mrg_perm {α : Type} (lt : α → α → Bool) : ∀ (b a : List α), (mrg lt a b).Perm (a ++ b)
 | [], a => by simp [mrg]
 | y :: b, a => by
  simp only [mrg]
  have ih := mrg_perm lt b (a.dropWhile (fun x => !lt y x))
  have h1 : (a.takeWhile (fun x => !lt y x) ++ y :: mrg lt (a.dropWhile (fun x => !lt y x)) b).Perm (a.takeWhile (fun x => !lt y x) ++ y :: (a.dropWhile (fun x => !lt y x) ++ b)) := (ih.cons y).append_left _
  refine h1.trans ?_
  have h2 : (a.takeWhile (fun x => !lt y x) ++ y :: (a.dropWhile (fun x => !lt y x) ++ b)).Perm (y :: (a.takeWhile (fun x => !lt y x) ++ (a.dropWhile (fun x => !lt y x) ++ b))) := List.perm_middle
  refine h2.trans ?_
  rw [← List.append_assoc, List.takeWhile_append_dropWhile]
  exact (List.perm_middle).symm
/-- Put in order by halves. -/
def srt {α : Type} (lt : α → α → Bool) : Nat → List α → List α
 | 0, l => l
 | n + 1, l => if l.length < 2 then l else mrg lt (srt lt n (l.take (l.length / 2))) (srt lt n (l.drop (l.length / 2)))
theorem srt_map {α β : Type} (f : α → β) (lt : α → α → Bool) (lt' : β → β → Bool) (h : ∀ x y, lt x y = lt' (f x) (f y)) : ∀ (n : Nat) (l : List α), (srt lt n l).map f = srt lt' n (l.map f)
 | 0, l => rfl
 | n + 1, l => by
  simp only [srt, List.length_map]
  split
  ·rfl
  ·rw [mrg_map f lt lt' h, srt_map f lt lt' h n, srt_map f lt lt' h n, List.map_take, List.map_drop]
theorem srt_perm {α : Type} (lt : α → α → Bool) : ∀ (n : Nat) (l : List α), (srt lt n l).Perm l
 | 0, l => .refl _
 | n + 1, l => by
  simp only [srt]
  split
  ·exact .refl _
  ·refine (mrg_perm lt _ _).trans ?_
   have := (srt_perm lt n (l.take (l.length / 2))).append (srt_perm lt n (l.drop (l.length / 2)))
   rwa [List.take_append_drop] at this
section
variable {c : List UInt8 → List UInt8 → Int}
/-- Ahead by the order, or alike and ahead by the place. -/
def RLN (c : List UInt8 → List UInt8 → Int) (x y : LN) : Prop := c x.1.data.toList y.1.data.toList < 0 ∨ (c x.1.data.toList y.1.data.toList = 0 ∧ x.2 < y.2)
def ltN (c : List UInt8 → List UInt8 → Int) (x y : LN) : Bool := decide (c x.1.data.toList y.1.data.toList < 0)
def ltS (c : List UInt8 → List UInt8 → Int) (x y : ByteArray) : Bool := decide (c x.data.toList y.data.toList < 0)
theorem RLN.trans (ho : Ord c) {x y z : LN} (h : RLN c x y) (k : RLN c y z) : RLN c x z := by
 have h1 : c x.1.data.toList y.1.data.toList ≤ 0 := by rcases h with h | h <;> omega
 have h2 : c y.1.data.toList z.1.data.toList ≤ 0 := by rcases k with h | h <;> omega
 obtain ⟨g1, g2⟩ := ho.go _ _ _ h1 h2
 by_cases e : c x.1.data.toList z.1.data.toList = 0
 ·obtain ⟨e1, e2⟩ := g2 e
  refine .inr ⟨e, ?_⟩
  rcases h with h | h <;> rcases k with k | k <;> omega
 ·exact .inl (by omega)
theorem dw_head {α : Type} (p : α → Bool) : ∀ (a : List α) (d : α) (D : List α), a.dropWhile p = d :: D → p d = false
 | x :: a, d, D, h => by
  rw [List.dropWhile_cons] at h
  split at h
  ·exact dw_head p a d D h
  ·rename_i hp
   injection h with h1 h2
   rw [← h1]; simpa using hp
theorem tw_mem {α : Type} (p : α → Bool) : ∀ (a : List α) (x : α), x ∈ a.takeWhile p → p x = true
 | y :: a, x, h => by
  rw [List.takeWhile_cons] at h
  split at h
  ·rename_i hp
   rcases List.mem_cons.1 h with rfl | h
   ·exact hp
   ·exact tw_mem p a x h
  ·cases h
theorem mrg_srt (ho : Ord c) : ∀ (b a : List LN), Srt c a → Srt c b → (∀ x ∈ a, ∀ y ∈ b, x.2 < y.2) → Srt c (mrg (ltN c) a b)
 | [], a, ha, _, _ => ha
 | y :: b, a, ha, hb, hab => by
  simp only [mrg]
  obtain ⟨T, hT⟩ : ∃ T, a.takeWhile (fun x => !ltN c y x) = T := ⟨_, rfl⟩
  obtain ⟨D, hD⟩ : ∃ D, a.dropWhile (fun x => !ltN c y x) = D := ⟨_, rfl⟩
  have hTD : T ++ D = a := by rw [← hT, ← hD]; exact List.takeWhile_append_dropWhile
  rw [hT, hD]
  have ha' : Srt c (T ++ D) := by rw [hTD]; exact ha
  obtain ⟨a1, a2, a3⟩ := List.pairwise_append.1 ha'
  obtain ⟨b1, b2⟩ := List.pairwise_cons.1 hb
  have ih := mrg_srt ho b D a2 b2 (fun x hx z hz => hab x (by rw [← hTD]; simp [hx]) z (by simp [hz]))
  have hTy : ∀ x ∈ T, RLN c x y := fun x hx => by
   have h1 := tw_mem _ a x (by rw [hT]; exact hx)
   have h2 := hab x (by rw [← hTD]; simp [hx]) y (by simp)
   unfold ltN at h1
   have h3 : ¬ c y.1.data.toList x.1.data.toList < 0 := by simpa using h1
   have h4 := ho.back y.1.data.toList x.1.data.toList
   rcases ho.one x.1.data.toList y.1.data.toList with h | h | h
   ·exact .inl (by omega)
   ·exact .inr ⟨h, h2⟩
   ·omega
  have hyD : ∀ d ∈ D, RLN c y d := by
   cases hD' : D with
   | nil => intro d hd; cases hd
   | cons d0 D0 =>
    have h1 := dw_head _ a d0 D0 (by rw [hD, hD'])
    have h2 : RLN c y d0 := .inl (by unfold ltN at h1; simpa using h1)
    rw [hD'] at a2
    intro d hd
    rcases List.mem_cons.1 hd with rfl | hd
    ·exact h2
    ·exact h2.trans ho ((List.pairwise_cons.1 a2).1 d hd)
  have hym : ∀ z ∈ mrg (ltN c) D b, RLN c y z := fun z hz => by
   rcases List.mem_append.1 ((mrg_perm _ b D).mem_iff.1 hz) with h | h
   ·exact hyD z h
   ·exact b1 z h
  refine List.pairwise_append.2 ⟨a1, List.pairwise_cons.2 ⟨hym, ih⟩, fun x hx z hz => ?_⟩
  rcases List.mem_cons.1 hz with rfl | hz
  ·exact hTy x hx
  ·exact (hTy x hx).trans ho (hym z hz)
theorem srt_srt (ho : Ord c) : ∀ (n : Nat) (l : List LN), l.length ≤ n + 1 → l.Pairwise (fun x y => x.2 < y.2) → Srt c (srt (ltN c) n l)
 | 0, l, h, hp => by
  match l, h with
  | [], _ => exact List.Pairwise.nil
  | [x], _ => exact List.pairwise_singleton _ _
 | n + 1, l, h, hp => by
  simp only [srt]
  split
  ·rename_i h2
   match l, h2 with
   | [], _ => exact List.Pairwise.nil
   | [x], _ => exact List.pairwise_singleton _ _
  ·have e1 : (l.take (l.length / 2)).length ≤ l.length / 2 := List.length_take_le _ _
   have e2 : (l.drop (l.length / 2)).length = l.length - l.length / 2 := List.length_drop
   have hp' := hp
   rw [← List.take_append_drop (l.length / 2) l] at hp'
   obtain ⟨p1, p2, p3⟩ := List.pairwise_append.1 hp'
   refine mrg_srt ho _ _ (srt_srt ho n _ (by omega) p1) (srt_srt ho n _ (by omega) p2) (fun x hx y hy => ?_)
   exact p3 x ((srt_perm _ n _).mem_iff.1 hx) y ((srt_perm _ n _).mem_iff.1 hy)
theorem tag_up (l : List ByteArray) : (tagL l).Pairwise (fun x y => x.2 < y.2) := by
 have h1 : ((tagL l).map (·.2)).Pairwise (· < ·) := by
  unfold tagL
  rw [List.zipIdx_map_snd]
  exact List.pairwise_lt_range'
 exact List.pairwise_map.1 h1
theorem RLN.not (ho : Ord c) {x y : LN} (h : RLN c x y) (k : RLN c y x) : False := by
 have hb := ho.back x.1.data.toList y.1.data.toList
 rcases h with h | h <;> rcases k with k | k <;> omega
/-- Just one list of the same lines is in order. -/
theorem srt_one (ho : Ord c) : ∀ (a b : List LN), a.Perm b → Srt c a → Srt c b → a = b
 | [], b, hp, _, _ => (List.perm_nil.1 hp.symm).symm
 | x :: a, [], hp, _, _ => by have := hp.length_eq; simp at this
 | x :: a, y :: b, hp, ha, hb => by
  obtain ⟨a1, a2⟩ := List.pairwise_cons.1 ha
  obtain ⟨b1, b2⟩ := List.pairwise_cons.1 hb
  have e : x = y := by
   rcases List.mem_cons.1 (hp.mem_iff.1 (List.mem_cons_self ..)) with h | h
   ·exact h
   rcases List.mem_cons.1 (hp.mem_iff.2 (List.mem_cons_self ..)) with k | k
   ·exact k.symm
   exact (RLN.not ho (a1 y k) (b1 x h)).elim
  subst e
  rw [srt_one ho a b ((List.perm_cons x).1 hp) a2 b2]
end
/-- What the reference puts in order is what the heap hands out. -/
theorem srt_order (un nu fo bl re : Bool) (f t : Int) (c : UInt8) (l : List ByteArray) (n : Nat) (hn : l.length ≤ n + 1) :
  srt (ltS (byC un nu fo bl re f t c)) n l = (orderL un nu fo bl re f t c l).map (·.1) := by
 have ho := byC_ord un nu fo bl re f t c
 have hl : (tagL l).length = l.length := tag_len l
 have e : orderL un nu fo bl re f t c l = srt (ltN (byC un nu fo bl re f t c)) n (tagL l) :=
  srt_one ho _ _ ((order_perm un nu fo bl re f t c l).trans (srt_perm _ n (tagL l)).symm) (order_srt un nu fo bl re f t c l) (srt_srt ho n (tagL l) (by omega) (tag_up l))
 rw [e, srt_map (·.1) (ltN (byC un nu fo bl re f t c)) (ltS (byC un nu fo bl re f t c)) (fun _ _ => rfl), tag_fst]
theorem out_last {c : List UInt8 → List UInt8 → Int} (ho : Ord c) : ∀ (E : List LN) (y : LN), E.getLast? = some y → outF true c E ≠ [] ∧ c ((outF true c E).getLastD ⟨#[]⟩).data.toList y.1.data.toList = 0 := by
 intro E
 induction E using rev_ind with
 | h0 => intro y h; simp at h
 | h1 P x ih =>
  intro y h
  rw [List.getLast?_append] at h
  simp at h
  subst h
  rw [outF_snoc]
  unfold stepF
  split
  ·rw [List.getLastD_concat]
   exact ⟨by simp, ho.self _⟩
  ·rename_i hn
   refine ⟨fun e => hn (.inr (.inl e)), ?_⟩
   rcases Int.lt_trichotomy (c ((outF true c P).getLastD ⟨#[]⟩).data.toList x.1.data.toList) 0 with h | h | h
   ·exact absurd (.inr (.inr (by omega))) hn
   ·exact h
   ·exact absurd (.inr (.inr (by omega))) hn
/-- Each line is told that is not alike to the one ahead of it. -/
theorem uniq_step {c : List UInt8 → List UInt8 → Int} (ho : Ord c) (E : List LN) (k : Nat) (hk : k < E.length) :
  outF true c (E.take (k + 1)) = if k = 0 ∨ c (E[k - 1]'(by omega)).1.data.toList E[k].1.data.toList ≠ 0 then outF true c (E.take k) ++ [E[k].1] else outF true c (E.take k) := by
 rw [List.take_succ_eq_append_getElem hk, outF_snoc]
 unfold stepF
 rcases Nat.eq_zero_or_pos k with rfl | hp
 ·have e0 : outF true c (E.take 0) = [] := rfl
  rw [e0, if_pos (.inr (.inl rfl)), if_pos (.inl rfl)]
 ·have hl : (E.take k).getLast? = some (E[k - 1]'(by omega)) := by
   rw [List.getLast?_eq_getElem?, List.length_take, Nat.min_eq_left (by omega), List.getElem?_take, if_pos (by omega), List.getElem?_eq_getElem (by omega)]
  obtain ⟨h1, h2⟩ := out_last ho _ _ hl
  have h3 := (ho.alike h2 E[k].1.data.toList).1
  rw [h3]
  have e : (true = false ∨ outF true c (E.take k) = [] ∨ c (E[k - 1]'(by omega)).1.data.toList E[k].1.data.toList ≠ 0) ↔ (k = 0 ∨ c (E[k - 1]'(by omega)).1.data.toList E[k].1.data.toList ≠ 0) := by
   constructor
   ·rintro (h | h | h)
    ·cases h
    ·exact absurd h h1
    ·exact .inr h
   ·rintro (h | h)
    ·omega
    ·exact .inr (.inr h)
  by_cases hc : k = 0 ∨ c (E[k - 1]'(by omega)).1.data.toList E[k].1.data.toList ≠ 0
  ·rw [if_pos hc, if_pos (e.2 hc)]
  ·rw [if_neg hc, if_neg (fun h => hc (e.1 h))]
end Go.Proofs.YtlicjpbmlmongaaGreatDoor.P
end
section
/- The reference's Sort tells what sorts.Sort tells. -/
set_option linter.unusedVariables false
set_option linter.unusedSimpArgs false
namespace Go.Proofs.YtlicjpbmlmongaaGreatDoor.P
open Go.RowKit Go.Proofs Go.Proofs.YtlicjpbmlmongaaGreatDoor.Q Go.Proofs.YtlicjpbmlmongaaGreatDoor.H Go.Proofs.YtlicjpbmlmongaaGreatDoor.K Go.Proofs.YtlicjpbmlmongaaGreatDoor.Pure Go.Proofs.YtlicjpbmlmongaaGreatDoorW.PrintWords Go.Proofs.YtlicjpbmlmongaaGreatDoorW.PrintLast
theorem lt_big {n : Nat} (h : n ≤ 4000000) : n < 8796093022208 := Nat.lt_of_le_of_lt h (by decide)
theorem le_wide {n : Nat} (h : n ≤ 4000000) : n ≤ 4000000000000000 := Nat.le_trans h (by decide)
theorem mrg_nil {α : Type} (lt : α → α → Bool) (a : List α) : mrg lt a [] = a := by cases a <;> rfl
theorem mrg_none {α : Type} (lt : α → α → Bool) (y : α) (b : List α) : mrg lt [] (y :: b) = y :: mrg lt [] b := rfl
theorem mrg_yes {α : Type} (lt : α → α → Bool) {x y : α} (h : lt y x = true) (a b : List α) : mrg lt (x :: a) (y :: b) = y :: mrg lt (x :: a) b := by
 simp only [mrg]
 rw [List.takeWhile_cons, List.dropWhile_cons, h]
 rfl
theorem mrg_no {α : Type} (lt : α → α → Bool) {x y : α} (h : lt y x = false) (a b : List α) : mrg lt (x :: a) (y :: b) = x :: mrg lt a (y :: b) := by
 simp only [mrg]
 rw [List.takeWhile_cons, List.dropWhile_cons, h]
 rfl
theorem before_f (un nu fo bl re : Bool) (f t c : Int) (hc : 0 ≤ c ∧ c ≤ 255) (a b : ByteArray) (ha : a.size ≤ 1000000) (hb : b.size ≤ 1000000) :
  Ev (fun k => toolchestref06_before.f k nu fo bl re f t c un a b) (ltS (byC un nu fo bl re f t (u8 c)) a b) := by
 cases un with
 | true =>
  refine (refCmp_ev nu fo bl re f t c hc a b ha hb).map fun k hk => ?_
  show toolchestref06_before.f k nu fo bl re f t c true a b = _
  unfold toolchestref06_before.f
  have hk' : toolchestref05_Compare.f k nu fo bl re f t c a b = some (cmpO nu fo bl re f t (u8 c) a.data.toList b.data.toList) := hk
  rw [if_pos rfl, hk', Option.bind_some]
  rfl
 | false =>
  refine (ahead_f nu fo bl re f t c hc a b ha hb).map fun k hk => ?_
  show toolchestref06_before.f k nu fo bl re f t c false a b = _
  unfold toolchestref06_before.f
  have hk' : toolchestref06_ahead.f k nu fo bl re f t c a b = some (decide (wholeO nu fo bl re f t (u8 c) a.data.toList b.data.toList < 0)) := hk
  rw [if_neg (by decide), hk', Option.bind_some]
  rfl
theorem merged_loop (un nu fo bl re : Bool) (f t c : Int) (hc : 0 ≤ c ∧ c ≤ 255) (a b : List ByteArray) (sa : ∀ x ∈ a, x.size ≤ 1000000) (sb : ∀ x ∈ b, x.size ≤ 1000000) (hl : a.length + b.length ≤ 1000000) : ∀ (d i k : Nat) (out : List ByteArray), (a.length - i) + (b.length - k) ≤ d → i ≤ a.length → k ≤ b.length → out.length ≤ i + k →
  (k < b.length → Ev (fun g => toolchestref06_merged.l1 g un a b out (i : Int) (k : Int) nu fo bl re f t c) (out ++ mrg (ltS (byC un nu fo bl re f t (u8 c))) (a.drop i) (b.drop k))) ∧
  Ev (fun g => toolchestref06_merged.l0 g un a b out (i : Int) (k : Int) nu fo bl re f t c) (out ++ mrg (ltS (byC un nu fo bl re f t (u8 c))) (a.drop i) (b.drop k)) := by
 intro d
 induction d with
 | zero =>
  intro i k out hd hi hk ho
  obtain rfl : i = a.length := by omega
  obtain rfl : k = b.length := by omega
  refine ⟨fun h => absurd h (Nat.lt_irrefl _), Ev.now fun g => ?_⟩
  have h1 := Lib.hid (show out.length + (a.drop a.length).length < 8796093022208 from lt_big (by rw [List.length_drop]; omega))
  simp only [toolchestref06_merged.l0]
  rw [if_neg (not_nat_lt (by omega)), if_pos (nat_nn _), if_pos (nat_le (Nat.le_refl _)), Int.toNat_natCast, if_pos h1.out, List.drop_length, List.drop_length, mrg_nil]
 | succ d ih =>
  intro i k out hd hi hk ho
  have w1 := Lib.hid (wrap_one i (le_wide (by omega)))
  have w2 := Lib.hid (wrap_one k (le_wide (by omega)))
  have ho2 := Lib.hid (show out.length < 8796093022208 from lt_big (by omega))
  have L1 : k < b.length → Ev (fun g => toolchestref06_merged.l1 g un a b out (i : Int) (k : Int) nu fo bl re f t c) (out ++ mrg (ltS (byC un nu fo bl re f t (u8 c))) (a.drop i) (b.drop k)) := by
   intro hkb
   have r2 := rdOf_at b k hkb
   have hdb : b.drop k = b[k] :: b.drop (k + 1) := List.drop_eq_getElem_cons hkb
   have hsb := sb b[k] (List.getElem_mem _)
   have nb := (ih i (k + 1) (out ++ [b[k]]) (by omega) hi (by omega) (by simp; omega)).2
   generalize b[k] = y at r2 hdb hsb nb
   by_cases hia : i < a.length
   ·have r1 := rdOf_at a i hia
    have hda : a.drop i = a[i] :: a.drop (i + 1) := List.drop_eq_getElem_cons hia
    have hsa := sa a[i] (List.getElem_mem _)
    have na := (ih (i + 1) k (out ++ [a[i]]) (by omega) (by omega) hk (by simp; omega)).1 hkb
    generalize a[i] = x at r1 hda hsa na
    obtain ⟨k0, h0⟩ := before_f un nu fo bl re f t c hc y x hsb hsa
    cases hlt : ltS (byC un nu fo bl re f t (u8 c)) y x with
    | true =>
     rw [hlt] at h0
     obtain ⟨k1, h1⟩ := nb
     refine ⟨max k0 k1 + 1, fun g hg => ?_⟩
     obtain ⟨j, rfl⟩ : ∃ j, g = j + 1 := ⟨g - 1, by omega⟩
     have g0 := h0 j (by omega)
     have g1 := h1 j (by omega)
     have g0' : toolchestref06_before.f j nu fo bl re f t c un y x = some true := g0
     show toolchestref06_merged.l1 (j + 1) un a b out (i : Int) (k : Int) nu fo bl re f t c = _
     simp only [toolchestref06_merged.l1]
     rw [if_pos (nat_lt hia), if_pos (nat_nn k), if_pos (nat_lt hkb), if_pos (nat_nn i), r2, r1, g0', Option.bind_some, if_pos rfl, if_pos ho2.out, w2.out, hda, hdb, mrg_yes _ hlt, ← hda]
     refine g1.trans ?_
     rw [List.append_assoc]; rfl
    | false =>
     rw [hlt] at h0
     obtain ⟨k1, h1⟩ := na
     refine ⟨max k0 k1 + 1, fun g hg => ?_⟩
     obtain ⟨j, rfl⟩ : ∃ j, g = j + 1 := ⟨g - 1, by omega⟩
     have g0 := h0 j (by omega)
     have g1 := h1 j (by omega)
     have g0' : toolchestref06_before.f j nu fo bl re f t c un y x = some false := g0
     show toolchestref06_merged.l1 (j + 1) un a b out (i : Int) (k : Int) nu fo bl re f t c = _
     simp only [toolchestref06_merged.l1]
     rw [if_pos (nat_lt hia), if_pos (nat_nn k), if_pos (nat_lt hkb), if_pos (nat_nn i), r2, r1, g0', Option.bind_some, if_neg (by decide), if_pos ho2.out, w1.out, hda, hdb, mrg_no _ hlt, ← hdb]
     refine g1.trans ?_
     rw [List.append_assoc]; rfl
   ·have hda : a.drop i = [] := List.drop_of_length_le (by omega)
    obtain ⟨k1, h1⟩ := nb
    refine ⟨k1 + 1, fun g hg => ?_⟩
    obtain ⟨j, rfl⟩ : ∃ j, g = j + 1 := ⟨g - 1, by omega⟩
    have g1 := h1 j (by omega)
    show toolchestref06_merged.l1 (j + 1) un a b out (i : Int) (k : Int) nu fo bl re f t c = _
    simp only [toolchestref06_merged.l1]
    rw [if_neg (not_nat_lt hia), if_pos (nat_nn k), if_pos (nat_lt hkb), if_pos ho2.out, r2, w2.out, hda, hdb, mrg_none]
    rw [hda] at g1
    refine g1.trans ?_
    rw [List.append_assoc]; rfl
  refine ⟨L1, ?_⟩
  by_cases hkb : k < b.length
  ·refine (L1 hkb).step fun g hg => ?_
   simp only [toolchestref06_merged.l0]
   rw [if_pos (nat_lt hkb)]
   exact hg
  ·obtain rfl : k = b.length := by omega
   refine Ev.now fun g => ?_
   have h1 := Lib.hid (show out.length + (a.drop i).length < 8796093022208 from lt_big (by rw [List.length_drop]; omega))
   simp only [toolchestref06_merged.l0]
   rw [if_neg (not_nat_lt (by omega)), if_pos (nat_nn _), if_pos (nat_le hi), Int.toNat_natCast, if_pos h1.out, List.drop_length, mrg_nil]
theorem sorted_f (un nu fo bl re : Bool) (f t c : Int) (hc : 0 ≤ c ∧ c ≤ 255) : ∀ (n : Nat) (l : List ByteArray), l.length ≤ n + 1 → (∀ x ∈ l, x.size ≤ 1000000) → l.length ≤ 1000000 →
  Ev (fun g => toolchestref06_sorted.f g nu fo bl re f t c un l) (srt (ltS (byC un nu fo bl re f t (u8 c))) n l) := by
 have small : ∀ (n : Nat) (l : List ByteArray), l.length < 2 → Ev (fun g => toolchestref06_sorted.f g nu fo bl re f t c un l) (srt (ltS (byC un nu fo bl re f t (u8 c))) n l) := by
  intro n l h
  have e : srt (ltS (byC un nu fo bl re f t (u8 c))) n l = l := by
   cases n with
   | zero => rfl
   | succ n => simp only [srt]; rw [if_pos h]
  rw [e]
  refine Ev.now fun g => ?_
  simp only [toolchestref06_sorted.f]
  rw [if_pos (by omega), Option.bind_some, if_pos (lt_big (by simp only [List.length_nil]; omega)), List.nil_append]
 intro n
 induction n with
 | zero => intro l h _ _; exact small 0 l (by omega)
 | succ n ih =>
  intro l h hs hl
  by_cases h2 : l.length < 2
  ·exact small (n + 1) l h2
  ·have e1 : (l.take (l.length / 2)).length ≤ l.length / 2 := List.length_take_le _ _
   have e2 : (l.drop (l.length / 2)).length = l.length - l.length / 2 := List.length_drop
   have s1 : ∀ x ∈ l.take (l.length / 2), x.size ≤ 1000000 := fun x hx => hs x (List.mem_of_mem_take hx)
   have s2 : ∀ x ∈ l.drop (l.length / 2), x.size ≤ 1000000 := fun x hx => hs x (List.mem_of_mem_drop hx)
   obtain ⟨ka, ha⟩ := ih (l.take (l.length / 2)) (by omega) s1 (by omega)
   obtain ⟨kb, hb⟩ := ih (l.drop (l.length / 2)) (by omega) s2 (by omega)
   obtain ⟨A, hA⟩ : ∃ A, srt (ltS (byC un nu fo bl re f t (u8 c))) n (l.take (l.length / 2)) = A := ⟨_, rfl⟩
   obtain ⟨B, hB⟩ : ∃ B, srt (ltS (byC un nu fo bl re f t (u8 c))) n (l.drop (l.length / 2)) = B := ⟨_, rfl⟩
   have pA := srt_perm (ltS (byC un nu fo bl re f t (u8 c))) n (l.take (l.length / 2))
   have pB := srt_perm (ltS (byC un nu fo bl re f t (u8 c))) n (l.drop (l.length / 2))
   rw [hA] at ha pA
   rw [hB] at hb pB
   obtain ⟨km, hm⟩ := (merged_loop un nu fo bl re f t c hc A B (fun x hx => s1 x (pA.mem_iff.1 hx)) (fun x hx => s2 x (pB.mem_iff.1 hx)) (by rw [pA.length_eq, pB.length_eq]; omega) _ 0 0 [] (Nat.le_refl _) (Nat.zero_le _) (Nat.zero_le _) (Nat.le_refl _)).2
   refine ⟨max ka (max kb km) + 1, fun g hg => ?_⟩
   obtain ⟨j, rfl⟩ : ∃ j, g = j + 1 := ⟨g - 1, by omega⟩
   have g1 : toolchestref06_sorted.f j nu fo bl re f t c un (l.take (l.length / 2)) = some A := ha j (by omega)
   have g2 : toolchestref06_sorted.f j nu fo bl re f t c un (l.drop (l.length / 2)) = some B := hb j (by omega)
   have g3 : toolchestref06_merged.f j nu fo bl re f t c un A B = some (mrg (ltS (byC un nu fo bl re f t (u8 c))) A B) := hm j (by omega)
   have hw : wrap64 ((l.length : Int) / 2) = ((l.length / 2 : Nat) : Int) := by unfold wrap64; omega
   show toolchestref06_sorted.f (j + 1) nu fo bl re f t c un l = _
   simp only [toolchestref06_sorted.f, srt]
   rw [if_neg (by omega), if_neg h2, hw, if_pos (nat_nn _), if_pos (nat_le (by omega)), Int.toNat_natCast, g1, Option.bind_some, g2, Option.bind_some, g3, Option.bind_some, hA, hB]
theorem sort_loop (nu fo bl re : Bool) (f t c : Int) (hc : 0 ≤ c ∧ c ≤ 255) (E : List LN) (hs : ∀ x ∈ E, x.1.size ≤ 1000000) (hl : E.length ≤ 1000000) : ∀ (d i : Nat), i + d = E.length →
  Ev (fun g => toolchestref06_Sort.l0 g (E.map (·.1)) (outF true (cmpO nu fo bl re f t (u8 c)) (E.take i)) (i : Int) nu fo bl re f t c) (outF true (cmpO nu fo bl re f t (u8 c)) E, 0) := by
 intro d
 induction d with
 | zero =>
  intro i hi
  obtain rfl : i = E.length := by omega
  refine Ev.now fun g => ?_
  simp only [toolchestref06_Sort.l0]
  rw [if_neg (by rw [List.length_map]; omega), List.take_length]
 | succ d ih =>
  intro i hi
  have hlt : i < E.length := by omega
  have hm : (E.map (·.1)).length = E.length := List.length_map _
  have w1 := wrap_one i (le_wide (by omega))
  have r1 := rdOf_at (E.map (·.1)) i (by omega)
  rw [List.getElem_map] at r1
  have hst := uniq_step (Ord.cmpO nu fo bl re f t (u8 c)) E i hlt
  have hol := outF_len true (cmpO nu fo bl re f t (u8 c)) (E.take i)
  have hol2 : (outF true (cmpO nu fo bl re f t (u8 c)) (E.take i)).length < 8796093022208 := lt_big (by rw [List.length_take] at hol; omega)
  have ih' := ih (i + 1) (by omega)
  rcases Nat.eq_zero_or_pos i with h0 | h0
  ·subst h0
   rw [if_pos (.inl rfl)] at hst
   rw [hst] at ih'
   refine ih'.step fun g hg => ?_
   simp only [toolchestref06_Sort.l0]
   rw [if_pos (by rw [hm]; omega), if_pos (by rfl), if_pos (by omega), if_pos hol2, r1, w1]
   exact hg
  ·have w2 : wrap64 ((i : Int) - 1) = ((i - 1 : Nat) : Int) := by unfold wrap64; omega
   have r0 := rdOf_at (E.map (·.1)) (i - 1) (by omega)
   rw [List.getElem_map] at r0
   obtain ⟨kc, hcc⟩ := refCmp_ev nu fo bl re f t c hc (E[i - 1]'(by omega)).1 E[i].1 (hs _ (List.getElem_mem _)) (hs _ (List.getElem_mem _))
   obtain ⟨z, hz⟩ : ∃ z, cmpO nu fo bl re f t (u8 c) (E[i - 1]'(by omega)).1.data.toList E[i].1.data.toList = z := ⟨_, rfl⟩
   rw [hz] at hst hcc
   obtain ⟨k1, h1⟩ := ih'
   refine ⟨max kc k1 + 1, fun g hg => ?_⟩
   obtain ⟨j, rfl⟩ : ∃ j, g = j + 1 := ⟨g - 1, by omega⟩
   have g0 : toolchestref05_Compare.f j nu fo bl re f t c (E[i - 1]'(by omega)).1 E[i].1 = some z := hcc j (by omega)
   have g1 := h1 j (by omega)
   show toolchestref06_Sort.l0 (j + 1) (E.map (·.1)) (outF true (cmpO nu fo bl re f t (u8 c)) (E.take i)) (i : Int) nu fo bl re f t c = _
   simp only [toolchestref06_Sort.l0]
   rw [if_pos (by rw [hm]; omega), if_neg (by omega), w2, if_pos (nat_nn _), if_pos (by rw [hm]; omega), if_pos (nat_nn i), r0, r1, g0, Option.bind_some, w1]
   by_cases hz0 : z = 0
   ·rw [if_pos hz0]
    rw [if_neg (by rintro (h | h) <;> omega)] at hst
    rw [hst] at g1
    exact g1
   ·rw [if_neg hz0, if_pos hol2]
    rw [if_pos (.inr hz0)] at hst
    rw [hst] at g1
    exact g1
/-- What Sort answers: the lines, and the number of the error. -/
def sortR (un nu fo bl re : Bool) (f t : Int) (c : UInt8) (l : List ByteArray) : List ByteArray × Int :=
 if checkO f t c = true then (if l.length > 65536 then ([], 3) else (sortL un nu fo bl re f t c l, 0)) else ([], 1)
theorem refSort_f (un nu fo bl re : Bool) (f t c : Int) (hc : 0 ≤ c ∧ c ≤ 255) (l : List ByteArray) (hs : ∀ x ∈ l, x.size ≤ 1000000) :
  Ev (fun g => toolchestref06_Sort.f g nu fo bl re f t c l un) (sortR un nu fo bl re f t (u8 c) l) := by
 have hck := refCheck_f nu fo bl re f t c hc
 unfold sortR
 cases hok : checkO f t (u8 c) with
 | false =>
  refine Ev.now fun k => ?_
  unfold toolchestref06_Sort.f
  rw [hck, hok, Option.bind_some, if_neg (by decide), if_neg (by decide)]
 | true =>
  rw [if_pos rfl]
  by_cases hbig : l.length > 65536
  ·refine Ev.now fun k => ?_
   unfold toolchestref06_Sort.f
   rw [hck, hok, Option.bind_some, if_pos rfl, if_pos (by omega), if_pos hbig]
  ·rw [if_neg hbig]
   obtain ⟨k1, h1⟩ := sorted_f un nu fo bl re f t c hc l.length l (by omega) hs (by omega)
   have e := srt_order un nu fo bl re f t (u8 c) l l.length (by omega)
   rw [e] at h1
   cases un with
   | false =>
    refine ⟨k1, fun g hg => ?_⟩
    have g1 : toolchestref06_sorted.f g nu fo bl re f t c false l = _ := h1 g hg
    show toolchestref06_Sort.f g nu fo bl re f t c l false = _
    unfold toolchestref06_Sort.f sortL
    rw [hck, hok, Option.bind_some, if_pos rfl, if_neg (by omega), g1, Option.bind_some, if_neg (by decide), outF_all]
   | true =>
    have hp := order_perm true nu fo bl re f t (u8 c) l
    obtain ⟨k2, h2⟩ := sort_loop nu fo bl re f t c hc (orderL true nu fo bl re f t (u8 c) l) (fun x hx => hs _ (tag_mem l x (hp.mem_iff.1 hx)).1) (by rw [hp.length_eq, tag_len]; omega) _ 0 (Nat.zero_add _)
    refine ⟨max k1 k2, fun g hg => ?_⟩
    have g1 : toolchestref06_sorted.f g nu fo bl re f t c true l = _ := h1 g (by omega)
    have g2 := h2 g (by omega)
    show toolchestref06_Sort.f g nu fo bl re f t c l true = _
    unfold toolchestref06_Sort.f sortL
    rw [hck, hok, Option.bind_some, if_pos rfl, if_neg (by omega), g1, Option.bind_some, if_pos rfl]
    exact g2
end Go.Proofs.YtlicjpbmlmongaaGreatDoor.P
end
section
/- What TextsSize and Beyond tell of a list of texts: over numbers alone (TextsSize alone). -/
set_option linter.unusedVariables false
set_option linter.unusedSimpArgs false
namespace Go.Proofs.YtlicjpbmlmongaaGreatDoor.Q
open Go.RowKit Go.Proofs.YtlicjpbmlmongaaGreatDoorW.PrintWords Go.Proofs.YtlicjpbmlmongaaGreatDoorW.PrintLast
/-- How much texts have in them. -/
def textsN (l : List ByteArray) : Nat := l.length + (l.map (·.size)).sum
theorem textsSize_loop (l : List ByteArray) (hl : ∀ s ∈ l, s.size ≤ 140737488351232) (hn : l.length ≤ 140737488351232) (d : Nat) : ∀ (k i : Nat) (n : Int), i + d = l.length → d < k → 0 ≤ n → n ≤ 140737488351232 + 1048576 → (i = 0 → n = l.length) →
  ∃ r, toolchestlaw01_TextsSize.l0 k l n i = some r ∧ 0 ≤ r ∧ r ≤ 140737488351232 + 1048576 ∧ (r ≤ 1048576 → r = n + (((l.drop i).map (·.size)).sum : Nat)) := by
 induction d with
 | zero =>
  intro k i n hi hk h0 h1 h2
  obtain ⟨k, rfl⟩ : ∃ m, k = m + 1 := ⟨k - 1, by omega⟩
  refine ⟨n, ?_, h0, h1, fun _ => ?_⟩
  ·simp only [toolchestlaw01_TextsSize.l0]; rw [if_neg (by omega)]
  ·rw [List.drop_of_length_le (by omega)]; simp
 | succ d ih =>
  intro k i n hi hk h0 h1 h2
  obtain ⟨k, rfl⟩ : ∃ m, k = m + 1 := ⟨k - 1, by omega⟩
  simp only [toolchestlaw01_TextsSize.l0]
  rw [if_pos (by omega)]
  by_cases hc : n ≤ 1048576
  ·rw [if_pos hc, if_pos (by omega)]
   have hlt : i < l.length := by omega
   have hs := hl l[i] (List.getElem_mem hlt)
   have e : rdOf ByteArray.empty l (i : Int) = l[i] := by simp [rdOf, List.getD_eq_getElem?_getD, List.getElem?_eq_getElem hlt]
   have w1 : wrap64 (n + (l[i].size : Int)) = n + l[i].size := by unfold wrap64; omega
   have w2 : wrap64 ((i : Int) + 1) = ((i + 1 : Nat) : Int) := by unfold wrap64; omega
   rw [e, w1, w2]
   obtain ⟨r, hr, r0, r1, r2⟩ := ih k (i + 1) (n + l[i].size) (by omega) (by omega) (by omega) (by omega) (by omega)
   refine ⟨r, hr, r0, r1, fun h => ?_⟩
   rw [r2 h, List.drop_eq_getElem_cons hlt, List.map_cons, List.sum_cons]
   omega
  ·rw [if_neg hc]
   exact ⟨n, rfl, h0, h1, fun h => absurd h hc⟩
theorem textsSize_tells (l : List ByteArray) (hl : ∀ s ∈ l, s.size ≤ 140737488351232) (hn : l.length ≤ 140737488351232) :
  ∃ r, toolchestlaw01_TextsSize.f (l.length + 1) l = some r ∧ 0 ≤ r ∧ r ≤ 140737488351232 + 1048576 ∧ (r ≤ 1048576 → r = (textsN l : Int)) := by
 obtain ⟨r, hr, r0, r1, r2⟩ := textsSize_loop l hl hn l.length (l.length + 1) 0 l.length (by omega) (by omega) (by omega) (by omega) (by omega)
 exact ⟨r, hr, r0, r1, fun h => by rw [r2 h]; simp [textsN]⟩
end Go.Proofs.YtlicjpbmlmongaaGreatDoor.Q
end
section
/- Great lists, and the sizes of texts. -/
set_option linter.unusedVariables false
set_option linter.unusedSimpArgs false
namespace Go.Proofs.YtlicjpbmlmongaaGreatDoor.P
open Go.RowKit Go.Proofs.YtlicjpbmlmongaaGreatDoor.Q Go.Proofs.YtlicjpbmlmongaaGreatDoorW.PrintWords Go.Proofs.YtlicjpbmlmongaaGreatDoorW.PrintLast
/-- Great lists are let go of; others are short. -/
theorem great_f (l : List ByteArray) (hl : ∀ s ∈ l, s.size ≤ 140737488351232) (hn : l.length ≤ 140737488351232) : ∃ k r, toolchestlaw06_great.f k l = some r ∧ (r = false → (l.length ≤ 3000 ∨ l.length > 65536) ∧ textsN l ≤ 300000) := by
 obtain ⟨n, h1, h2, h3, h4⟩ := textsSize_tells l hl hn
 refine ⟨l.length + 1, ?_⟩
 unfold toolchestlaw06_great.f
 rw [h1]
 simp only [Option.bind_some]
 have fin : ∀ p : Prop, p → ∃ r, some (decide (n > 300000)) = some r ∧ (r = false → p ∧ textsN l ≤ 300000) := fun p hp => ⟨_, rfl, fun hr => ⟨hp, by
  have : ¬ n > 300000 := by simpa using hr
  have := h4 (by omega)
  omega⟩⟩
 by_cases hg : (l.length : Int) > 3000
 ·rw [if_pos hg]
  by_cases hg2 : (l.length : Int) ≤ 65536
  ·rw [if_pos hg2]; exact ⟨true, rfl, fun h => by cases h⟩
  ·rw [if_neg hg2]; exact fin _ (.inr (by omega))
 ·rw [if_neg hg]; exact fin _ (.inl (by omega))
theorem size_in_sum (l : List ByteArray) : ∀ x ∈ l, x.size ≤ (l.map (·.size)).sum := by
 induction l with
 | nil => intro x hx; cases hx
 | cons a l ih =>
  intro x hx
  rw [List.map_cons, List.sum_cons]
  rcases List.mem_cons.1 hx with rfl | h
  ·omega
  ·have := ih x h; omega
theorem size_texts (l : List ByteArray) : ∀ x ∈ l, x.size ≤ textsN l := by
 intro x hx
 unfold textsN
 have : x.size ≤ (l.map (·.size)).sum := size_in_sum l x hx
 omega
end Go.Proofs.YtlicjpbmlmongaaGreatDoor.P
end
section
/- SameTexts says of a list and itself that they are the same. -/
set_option linter.unusedVariables false
set_option linter.unusedSimpArgs false
namespace Go.Proofs.YtlicjpbmlmongaaGreatDoor.P
open Go.RowKit Go.Proofs.YtlicjpbmlmongaaGreatDoor.Q Go.Proofs.YtlicjpbmlmongaaGreatDoorW.PrintWords Go.Proofs.YtlicjpbmlmongaaGreatDoorW.PrintLast
theorem same_loop (l : List ByteArray) (hl : l.length ≤ 2000000) : ∀ (d i : Nat), i + d = l.length → Ev (fun k => toolchestlaw01_SameTexts.l0 k l l (i : Int)) true := by
 intro d
 induction d with
 | zero =>
  intro i hi
  refine Ev.now fun k => ?_
  simp only [toolchestlaw01_SameTexts.l0]
  rw [if_neg (not_nat_lt (by omega))]
 | succ d ih =>
  intro i hi
  have hlt : i < l.length := by omega
  have hw := wrap_one i (by omega)
  refine (ih (i + 1) (by omega)).step fun k hk => ?_
  simp only [toolchestlaw01_SameTexts.l0]
  rw [if_pos (nat_lt hlt), if_pos (nat_nn i), if_pos (nat_lt hlt), if_pos trivial, hw]
  exact hk
theorem same_self (l : List ByteArray) (hl : l.length ≤ 2000000) : Ev (fun k => toolchestlaw01_SameTexts.f k l l) true := by
 obtain ⟨k0, hk⟩ := same_loop l hl l.length 0 (Nat.zero_add _)
 refine ⟨k0, fun k h => ?_⟩
 show toolchestlaw01_SameTexts.f k l l = some true
 unfold toolchestlaw01_SameTexts.f
 rw [if_pos rfl]
 exact hk k h
end Go.Proofs.YtlicjpbmlmongaaGreatDoor.P
end
section
/- SortsSorts: the walk of the law: for any order and any lines it returns true. -/
set_option linter.unusedVariables false
set_option linter.unusedSimpArgs false
namespace Go.Proofs.YtlicjpbmlmongaaGreatDoor.P
open Go.RowKit Go.Proofs Go.Proofs.YtlicjpbmlmongaaGreatDoor.Q Go.Proofs.YtlicjpbmlmongaaGreatDoor.H Go.Proofs.YtlicjpbmlmongaaGreatDoor.K Go.Proofs.YtlicjpbmlmongaaGreatDoorW.PrintWords Go.Proofs.YtlicjpbmlmongaaGreatDoorW.PrintLast
theorem own_R' {W : World} {base : Nat} {ok : Nat → Prop} {v : Value} {l : List ByteArray} (h : Kd.R Kd.string 9 W base ok v l) : ∃ A c, v = .slice A l.length c ∧ l.length ≤ c ∧ Kd.C Kd.string W A l.length l := Kd.R_reads h
theorem below_al {w w' : World} {o : Obj} (h : Below w.heap.size (w.alloc o) w') : Below w.heap.size w w' := ((Below.refl _ w).alloc (Nat.le_refl _) o).trans h
/-- A twin is a row of the call's own that holds the texts. -/
theorem own_twin {W : World} {base g cap : Nat} {l : List ByteArray} {x : ByteArray} (h : W.ownsRow base 9 1 (.slice (some ⟨g, 0, none⟩) (l.length + 1) cap) (l.length + 1) (strs (l ++ [x]))) :
  W.ownsRow base 9 1 (.slice (some ⟨g, 0, none⟩) l.length cap) l.length (strs l) := by
 have := own_take h (Nat.le_succ l.length)
 rw [Nat.mul_one] at this
 have e : (strs (l ++ [x])).take l.length = strs l := by
  unfold strs
  rw [List.map_append, List.take_left' (by simp)]
 rw [e] at this
 exact this
theorem ready_by {B0 Bk m : Nat} {T : Value} {L : List Held} {w : World} (X : Nat → List ByteArray) (hB : Book Bk T m L w) (hlen : L.length ≤ 90) (hbase : B0 ≤ Bk)
  (h : ∀ i, i < L.length → w.ownsRow B0 9 1 (L.getD i zH).v (X i).length (strs (X i)) ∧ (∀ b, (L.getD i zH).v.ownBlock = some b → b < Bk) ∧ (L.getD i zH).n < 100 ∧ (L.getD i zH).long = .slice none 0 0 ∧ (X i).length ≤ 8796093022000)
  (ho : ∀ i j, i < j → j < L.length → NeRow (L.getD i zH).v (L.getD j zH).v) : Ready B0 Bk m T L X w := by
 refine ⟨hB, by omega, ⟨fun i hi' b hb => ?_, fun i j hi' hj hne => ?_, fun i hi' => (h i hi').2.2.1, fun i hi' => ⟨_, _, _, (h i hi').2.2.2.1⟩⟩, fun i hi' => (h i hi').1, hbase, fun i hi' => (h i hi').2.2.2.2⟩
 ·have := (h i hi').2.1 b hb
  omega
 ·rcases Nat.lt_or_ge i j with hlt | hge
  ·exact ne_other (ne_symm (ho i j hlt hj))
  ·exact ne_other (ho j i (by omega) hi')
theorem byteS_of (x : Int) (h : (Lit.int .u8 x).wf = true) : ∃ c : UInt8, x = (c.toNat : Int) := by
 have h' : 0 ≤ x ∧ x ≤ 255 := by simpa [Lit.wf, IntKind.min, IntKind.max, IntKind.signed, IntKind.bits] using h
 exact ⟨UInt8.ofNat x.toNat, by simp [UInt8.toNat_ofNat']; omega⟩
theorem ordBox (W : World) (nu fo bl re : Bool) (f t : Int) (c : UInt8) (V : World) (h : Below (W.alloc (.cells #[.bool nu, .bool fo, .bool bl, .bool re, .int .i64 f, .int .i64 t, .int .u8 (c.toNat : Int)] 23)).heap.size (W.alloc (.cells #[.bool nu, .bool fo, .bool bl, .bool re, .int .i64 f, .int .i64 t, .int .u8 (c.toNat : Int)] 23)) V) : V.cell? ⟨W.heap.size, 0, none⟩ = some (.bool nu) ∧ V.cell? ⟨W.heap.size, 1, none⟩ = some (.bool fo) ∧ V.cell? ⟨W.heap.size, 2, none⟩ = some (.bool bl) ∧ V.cell? ⟨W.heap.size, 3, none⟩ = some (.bool re) ∧ V.cell? ⟨W.heap.size, 4, none⟩ = some (.int .i64 f) ∧ V.cell? ⟨W.heap.size, 5, none⟩ = some (.int .i64 t) ∧ V.cell? ⟨W.heap.size, 6, none⟩ = some (.int .u8 (c.toNat : Int)) := by
 have h3 := (h.block W.heap.size (by simp)).trans (World.alloc_heap_new W _)
 obtain ⟨h0, h1, h2, h3'⟩ := ord_cells7 h3
 obtain ⟨h4, h5, h6⟩ := ord_cells h3
 exact ⟨h0, h1, h2, h3', h4, h5, h6⟩
theorem u8_back (c : UInt8) : u8 (c.toNat : Int) = c := by unfold u8; simp
theorem sortBad_calls (un nu fo bl re : Bool) (f t : Int) (c : UInt8) (hck : checkO f t c = false) (v : Value) (w : World) :
  Calls Tryz.prog 8 #[ordV nu fo bl re f t c, v, .bool un] w fun e w' => e = .returned (.tuple #[.slice none 0 0, .int .i64 1]) ∧ Below w.heap.size w w' := by
 have HCK := Lib.hid (show ∀ V, Calls Tryz.prog 23 #[.agg #[.bool nu, .bool fo, .bool bl, .bool re, .int .i64 f, .int .i64 t, .int .u8 (c.toNat : Int)]] V fun e w' => e = .returned (.bool false) ∧ Below V.heap.size V w' from fun V => by
  have h := keys_Check.calls 1 nu fo bl re f t (c.toNat : Int) (checkO f t c) V (check_f 0 nu fo bl re f t c)
  rwa [hck] at h)
 clear hck
 unfold ordV
 go_enter Tryz.func8, Tryz.ntmps8
 go_wp2_with fail
 with_reducible refine (HCK.out _).mono ?_
 rintro e w1 ⟨rfl, hb1⟩
 have HB := Lib.hid (bth (bal (Below.refl _ _) _) hb1)
 clear hb1
 go_wp2
 go_ret2
 exact ⟨rfl, HB.out⟩
theorem sortMany_calls (un nu fo bl re : Bool) (f t : Int) (c : UInt8) (hck : checkO f t c = true) (A : Option Addr) (n cap : Nat) (hn : 65536 < n) (hx : n ≤ 8000000000000) (w : World) :
  Calls Tryz.prog 8 #[ordV nu fo bl re f t c, .slice A n cap, .bool un] w fun e w' => e = .returned (.tuple #[.slice none 0 0, .int .i64 3]) ∧ Below w.heap.size w w' := by
 have HCK := Lib.hid (show ∀ V, Calls Tryz.prog 23 #[.agg #[.bool nu, .bool fo, .bool bl, .bool re, .int .i64 f, .int .i64 t, .int .u8 (c.toNat : Int)]] V fun e w' => e = .returned (.bool true) ∧ Below V.heap.size V w' from fun V => by
  have h := keys_Check.calls 1 nu fo bl re f t (c.toNat : Int) (checkO f t c) V (check_f 0 nu fo bl re f t c)
  rwa [hck] at h)
 have d1 : decide ((65536 : Int) < (n : Int)) = true := decide_eq_true (by omega)
 have d2 : decide (65536 < n) = true := decide_eq_true hn
 clear hck
 unfold ordV
 go_enter Tryz.func8, Tryz.ntmps8
 go_wp2_with fail
 with_reducible refine (HCK.out _).mono ?_
 rintro e w1 ⟨rfl, hb1⟩
 have HB := Lib.hid (bth (bal (Below.refl _ _) _) hb1)
 clear hb1
 go_wp2
 go_ret2
 exact ⟨rfl, HB.out⟩
/-- sorts.Sort at any order and any lines. -/
theorem sortP_calls (un nu fo bl re : Bool) (f t : Int) (c : UInt8) (A : Option Addr) (cap : Nat) (l : List ByteArray) (w : World) (hr : Kd.C Kd.string w A l.length l) (hc : l.length ≤ cap) (hx : l.length ≤ 8000000000000) (hs : ∀ s ∈ l, s.size ≤ 1000000) :
  Calls Tryz.prog 8 #[.agg #[.bool nu, .bool fo, .bool bl, .bool re, .int .i64 f, .int .i64 t, .int .u8 (c.toNat : Int)], .slice A l.length cap, .bool un] w fun e w' => ∃ v, e = .returned (.tuple #[v, .int .i64 (sortR un nu fo bl re f t c l).2]) ∧ Txs w.heap.size v (sortR un nu fo bl re f t c l).1 w' ∧ Below w.heap.size w w' := by
 unfold sortR
 cases hck : checkO f t c with
 | false =>
  refine (sortBad_calls un nu fo bl re f t c hck _ w).mono ?_
  rintro e w' ⟨rfl, hb⟩
  exact ⟨_, rfl, Txs.nil _ _, hb⟩
 | true =>
  rw [if_pos rfl]
  by_cases hbig : l.length > 65536
  ·rw [if_pos hbig]
   refine (sortMany_calls un nu fo bl re f t c hck A l.length cap hbig hx w).mono ?_
   rintro e w' ⟨rfl, hb⟩
   exact ⟨_, rfl, Txs.nil _ _, hb⟩
  ·rw [if_neg hbig]
   cases un with
   | false => exact sortA_calls nu fo bl re f t c hck A cap l w hr hc (by omega) hs
   | true => exact sortU_calls nu fo bl re f t c hck A cap l w hr hc (by omega) hs
theorem sortR_len (un nu fo bl re : Bool) (f t : Int) (c : UInt8) (l : List ByteArray) : (sortR un nu fo bl re f t c l).1.length ≤ l.length := by
 unfold sortR
 split
 ·split
  ·exact Nat.zero_le _
  ·show (sortL un nu fo bl re f t c l).length ≤ _
   unfold sortL
   have h := outF_len un (cmpO nu fo bl re f t c) (orderL un nu fo bl re f t c l)
   rw [(order_perm un nu fo bl re f t c l).length_eq, tag_len] at h
   exact h
 ·exact Nat.zero_le _
set_option maxHeartbeats 4000000 in
set_option maxRecDepth 100000 in
theorem SortsSorts_walk (nu fo bl re : Bool) (f t : Int) (a0_6 : Int) (A1 : Option Addr) (z1 : Nat) (l1 : List ByteArray) (un : Bool) (W : World) (ok0_4 : (Lit.int .i64 f).wf = true) (ok0_5 : (Lit.int .i64 t).wf = true) (ok0_6 : (Lit.int .u8 a0_6).wf = true) (hr1 : Kd.C Kd.string W A1 l1.length l1) (hc1 : l1.length ≤ z1) (ok1 : (∀ a ∈ l1, a.size ≤ 140737488351232) ∧ l1.length * 16 ≤ 140737488351232) :
  Calls Tryz.prog 3 #[.agg #[.bool nu, .bool fo, .bool bl, .bool re, .int .i64 f, .int .i64 t, .int .u8 a0_6], .slice A1 l1.length z1, .bool un] W fun e W' => e = .returned (.bool true) ∧ Below W.heap.size W W' := by
 obtain ⟨c, rfl⟩ := byteS_of a0_6 ok0_6
 obtain ⟨kg, r, hg, hr⟩ := great_f l1 ok1.1 (by omega)
 obtain ⟨W0, hW0⟩ : ∃ W0, W.alloc (.cells #[.bool nu, .bool fo, .bool bl, .bool re, .int .i64 f, .int .i64 t, .int .u8 (c.toNat : Int)] 23) = W0 := ⟨_, rfl⟩
 have HOB := Lib.hid (show ∀ V, Below W0.heap.size W0 V → V.cell? ⟨W.heap.size, 0, none⟩ = some (.bool nu) ∧ V.cell? ⟨W.heap.size, 1, none⟩ = some (.bool fo) ∧ V.cell? ⟨W.heap.size, 2, none⟩ = some (.bool bl) ∧ V.cell? ⟨W.heap.size, 3, none⟩ = some (.bool re) ∧ V.cell? ⟨W.heap.size, 4, none⟩ = some (.int .i64 f) ∧ V.cell? ⟨W.heap.size, 5, none⟩ = some (.int .i64 t) ∧ V.cell? ⟨W.heap.size, 6, none⟩ = some (.int .u8 (c.toNat : Int)) from fun V h => ordBox W nu fo bl re f t c V (by rw [hW0]; exact h))
 have HLOW := Lib.hid (show Below W.heap.size W W0 by rw [← hW0]; exact bal (Below.refl _ _) _)
 have HR := Lib.hid (Kd.C_below hr1 HLOW.out)
 have HW := Lib.hid hW0
 have HG := Lib.hid hg
 have hl16 := ok1.2
 clear hr1 hW0 ok1 ok0_6 ok0_4 ok0_5 hg
 cases r with
 | true =>
  clear hr
  go_enter Tryz.func3, Tryz.ntmps3
  go_wp2_with fail
  rw [HW.out]
  with_reducible refine (toolchestlaw06_great.calls kg A1 z1 l1 true _ HR.out hc1 HG.out).mono ?_
  first | (rintro e w1 rfl hb1) | (rintro e w1 ⟨rfl, hb1⟩)
  have B1 := Lib.hid hb1.below
  clear hb1
  go_wp2
  go_ret
  exact ⟨rfl, bth HLOW.out B1.out⟩
 | false =>
  obtain ⟨hlen, htx⟩ := hr rfl
  have hsz : ∀ x ∈ l1, x.size ≤ 1000000 := fun x hx => Nat.le_trans (size_texts l1 x hx) (by omega)
  have hll : l1.length ≤ 300000 := by unfold textsN at htx; omega
  have hkr := refSort_f un nu fo bl re f t (c.toNat : Int) (by have := c.toNat_lt; omega) l1 hsz
  rw [u8_back] at hkr
  obtain ⟨kr, hkr⟩ := hkr.at_
  have HS := Lib.hid (fun A cap w h h2 => sortP_calls un nu fo bl re f t c A cap l1 w h h2 (by omega) hsz)
  have hrl := sortR_len un nu fo bl re f t c l1
  obtain ⟨⟨R, E⟩, hRE⟩ : ∃ R, sortR un nu fo bl re f t c l1 = R := ⟨_, rfl⟩
  rw [hRE] at hkr HS hrl
  have hRl : R.length ≤ 300000 := Nat.le_trans hrl hll
  obtain ⟨ks, hks⟩ := (same_self R (by omega)).at_
  have KR := Lib.hid hkr
  have KS := Lib.hid hks
  have hne : (E != E) = false := by simp
  clear hr hlen htx hsz hkr hks hRE hrl
  go_enter Tryz.func3, Tryz.ntmps3
  go_wp2_with fail
  rw [HW.out]
  with_reducible refine (toolchestlaw06_great.calls kg A1 z1 l1 false _ HR.out hc1 HG.out).mono ?_
  first | (rintro e w1 rfl hb1) | (rintro e w1 ⟨rfl, hb1⟩)
  have B1 := Lib.hid hb1.below
  clear hb1
  go_wp2_with fail
  with_reducible refine (twinTexts A1 z1 l1 _ (Kd.C_below HR.out B1.out) hc1 (by omega)).mono ?_
  rintro e w2 ⟨g, cap, rfl, ho2, hb2⟩
  have O2 := Lib.hid ho2
  have B2 := Lib.hid (bth B1.out hb2)
  have CT := Lib.hid (show Kd.C Kd.string w2 (some ⟨g, 0, none⟩) l1.length l1 by have := C_of_own ho2 l1.length (by simp); simpa using this)
  have hcap := twin_cap ho2
  have hcapA : l1.length ≤ cap := by omega
  have hcapB := hcap.2
  have Z2 := Lib.hid (show W.heap.size ≤ w1.heap.size from Nat.le_trans HLOW.out.size B1.out.size)
  clear ho2 hb2 hcap
  obtain ⟨e0, e1, e2, e3, e4, e5, e6⟩ := HOB.out _ B2.out
  go_wp2_with fail
  with_reducible refine (HS.out _ _ _ CT.out hcapA).mono ?_
  rintro e w3 ⟨v3, rfl, ho3, hb3⟩
  have ho3' : w3.ownsRow w2.heap.size 9 1 v3 R.length (strs R) := ho3
  obtain ⟨U3, u3, rfl, hu3, hq3⟩ := (show Txs w2.heap.size v3 R w3 from ho3).reads
  have O3 := Lib.hid ho3'
  have Q3 := Lib.hid hq3
  have S3 := Lib.hid hb3
  have B3 := Lib.hid (bth B2.out hb3)
  clear ho3 ho3' hq3 hb3 e0 e1 e2 e3 e4 e5 e6
  obtain ⟨e0, e1, e2, e3, e4, e5, e6⟩ := HOB.out _ B3.out
  go_wp2_with fail
  with_reducible refine (HS.out _ _ _ (Kd.C_below CT.out S3.out) hcapA).mono ?_
  rintro e w4 ⟨v4, rfl, ho4, hb4⟩
  have ho4' : w4.ownsRow w3.heap.size 9 1 v4 R.length (strs R) := ho4
  obtain ⟨U4, u4, rfl, hu4, hq4⟩ := (show Txs w3.heap.size v4 R w4 from ho4).reads
  have O4 := Lib.hid ho4'
  have Q4 := Lib.hid hq4
  have S4 := Lib.hid hb4
  have B4 := Lib.hid (bth B3.out hb4)
  clear ho4 ho4' hq4 hb4 e0 e1 e2 e3 e4 e5 e6
  obtain ⟨e0, e1, e2, e3, e4, e5, e6⟩ := HOB.out _ B4.out
  go_wp2_with fail
  with_reducible refine (toolchestref06_Sort.calls kr nu fo bl re f t (c.toNat : Int) A1 z1 l1 un R E _ (Kd.C_below HR.out B4.out) hc1 KR.out).mono ?_
  rintro e w5 ⟨v5, rfl, ho5, hb5⟩
  obtain ⟨U5, u5, rfl, hu5, hq5⟩ := own_R' ho5
  have Q5 := Lib.hid hq5
  have S5 := Lib.hid hb5
  have B5 := Lib.hid (bth B4.out hb5)
  clear ho5 hq5 hb5 e0 e1 e2 e3 e4 e5 e6
  have c3 := Lib.hid (Kd.C_below Q3.out (bth S4.out S5.out))
  have c4 := Lib.hid (Kd.C_below Q4.out S5.out)
  go_wp2_with fail
  with_reducible refine (toolchestlaw01_SameTexts.calls ks U3 u3 R U5 u5 R true _ c3.out hu3 Q5.out hu5 KS.out).mono ?_
  first | (rintro e w6 rfl hb6) | (rintro e w6 ⟨rfl, hb6⟩)
  have S6 := Lib.hid hb6.below
  clear hb6
  go_wp2_with fail
  with_reducible refine (toolchestlaw01_SameTexts.calls ks U4 u4 R U5 u5 R true _ (Kd.C_below c4.out S6.out) hu4 (Kd.C_below Q5.out S6.out) hu5 KS.out).mono ?_
  first | (rintro e w7 rfl hb7) | (rintro e w7 ⟨rfl, hb7⟩)
  have S7 := Lib.hid (bth S6.out hb7.below)
  have B7 := Lib.hid (bth B5.out S7.out)
  have T4 := Lib.hid (bth S5.out S7.out)
  have T3 := Lib.hid (bth S4.out T4.out)
  have T2 := Lib.hid (bth S3.out T3.out)
  clear hb7 c3 c4 Q3 Q4
  go_wp2_with fail
  with_reducible refine (leftTexts g cap _ A1 z1 l1 _ (Kd.C_below HR.out B7.out) hc1 (pw_own_below O2.out T2.out)).mono ?_
  first | (rintro e wa rfl hba) | (rintro e wa ⟨rfl, hba⟩)
  have Sa := Lib.hid hba
  have Ba := Lib.hid (bth HLOW.out (bth B7.out hba))
  clear hba
  go_wp2_with (go_at_call 12; refine (texts_calls wa.heap.size _ 0 _ (some ⟨g, 0, none⟩) l1.length cap _ (book_new wa) (by decide) (by simp)).mono ?_)
  rintro e y1 ⟨rfl, ⟨t1, hk1⟩, hx1⟩
  have HK1 := Lib.hid hk1
  have X1 := Lib.hid (below_al hx1)
  clear hk1 hx1
  go_wp2_with (go_at_call 12; refine (texts_calls wa.heap.size _ 1 _ U3 R.length u3 _ HK1.out (by decide) (by simp)).mono ?_)
  rintro e y2 ⟨rfl, ⟨t2, hk2⟩, hx2⟩
  have HK2 := Lib.hid hk2
  have X2 := Lib.hid (X1.out.trans hx2)
  clear hk2 hx2
  go_wp2_with (go_at_call 12; refine (texts_calls wa.heap.size _ 2 _ U4 R.length u4 _ HK2.out (by decide) (by simp)).mono ?_)
  rintro e y3 ⟨rfl, ⟨t3, hk3⟩, hx3⟩
  have HK3 := Lib.hid hk3
  have X3 := Lib.hid (X2.out.trans hx3)
  clear hk3 hx3
  have OT := Lib.hid (own_twin O2.out)
  have hrdy := Lib.hid (ready_by (B0 := W.heap.size) (w := y3) (fun i => [l1, R, R].getD i []) HK3.out (by simp) (by have := Ba.out.size; omega)
   (by
    have f1 : ∀ {base n : Nat} {v : Value} {xs : List Value} {w' : World}, w'.ownsRow base 9 1 v n xs → W.heap.size ≤ base → Below w'.heap.size w' wa → y3.ownsRow W.heap.size 9 1 v n xs := fun {base n v xs w'} h hb hl => own_weaken (pw_own_below (pw_own_below h hl) X3.out) hb
    have f2 : ∀ {base n : Nat} {v : Value} {xs : List Value} {w' : World}, w'.ownsRow base 9 1 v n xs → Below w'.heap.size w' wa → ∀ b, v.ownBlock = some b → b < wa.heap.size := fun {base n v xs w'} h hl b hb => by
     have h1 := own_lt h b hb
     have h2 := hl.size
     omega
    have z2 := Z2.out
    have z3 : W.heap.size ≤ w2.heap.size := Nat.le_trans HLOW.out.size B2.out.size
    have z4 : W.heap.size ≤ w3.heap.size := Nat.le_trans HLOW.out.size B3.out.size
    have L2 : Below w2.heap.size w2 wa := bth T2.out Sa.out
    have L3 : Below w3.heap.size w3 wa := bth T3.out Sa.out
    have L4 : Below w4.heap.size w4 wa := bth T4.out Sa.out
    intro i hi
    have hi3 : i < 3 := hi
    rcases (show i = 0 ∨ i = 1 ∨ i = 2 by omega) with rfl | rfl | rfl
    ·exact ⟨f1 OT.out z2 L2, f2 OT.out L2, (by show (1 : Nat) < 100; omega), rfl, (by show l1.length ≤ _; omega)⟩
    ·exact ⟨f1 O3.out z3 L3, f2 O3.out L3, (by show (2 : Nat) < 100; omega), rfl, (by show R.length ≤ _; omega)⟩
    ·exact ⟨f1 O4.out z4 L4, f2 O4.out L4, (by show (3 : Nat) < 100; omega), rfl, (by show R.length ≤ _; omega)⟩)
   (by
    have OTb := pw_own_below OT.out S3.out
    have a01 := ne_symm (ne_below O3.out OT.out)
    have a02 := ne_symm (ne_below O4.out OTb)
    have a12 := ne_symm (ne_below O4.out O3.out)
    intro i j hij hj
    have hj3 : j < 3 := hj
    rcases (show (i = 0 ∧ j = 1) ∨ (i = 0 ∧ j = 2) ∨ (i = 1 ∧ j = 2) by omega) with ⟨rfl, rfl⟩ | ⟨rfl, rfl⟩ | ⟨rfl, rfl⟩
    ·exact a01
    ·exact a02
    ·exact a12))
  go_wp2_with (go_at_call 13; refine (apart_calls W.heap.size wa.heap.size 3 _ _ _ _ hrdy.out).mono ?_)
  rintro e wz ⟨rfl, hbz⟩
  go_wp2
  go_ret
  exact ⟨rfl, (bth Ba.out X3.out).trans hbz⟩
end Go.Proofs.YtlicjpbmlmongaaGreatDoor.P
end

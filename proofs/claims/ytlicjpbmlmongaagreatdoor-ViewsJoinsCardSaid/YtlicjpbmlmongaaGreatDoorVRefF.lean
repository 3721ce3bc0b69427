/- The reference's Field and inOrder. -/
import Derived.Test.YtlicjpbmlmongaaGreatDoorQx27
import Derived.Test.YtlicjpbmlmongaaGreatDoorQx28
import Derived.Test.YtlicjpbmlmongaaGreatDoorRefFields
import Derived.Test.YtlicjpbmlmongaaGreatDoorVJoin
import Derived.Test.YtlicjpbmlmongaaGreatDoorVPrs
set_option linter.unusedVariables false
set_option linter.unusedSimpArgs false
namespace Go.Proofs.YtlicjpbmlmongaaGreatDoor.P
open Go.RowKit Go.Proofs Go.Proofs.YtlicjpbmlmongaaGreatDoor.Q Go.Proofs.YtlicjpbmlmongaaGreatDoor.H Go.Proofs.YtlicjpbmlmongaaGreatDoor.S Go.Proofs.YtlicjpbmlmongaaGreatDoor.C Go.Proofs.YtlicjpbmlmongaaGreatDoorW.PrintWords Go.Proofs.YtlicjpbmlmongaaGreatDoorW.PrintLast

def restTo (l : List ByteArray) (n i : Nat) : List ByteArray := if n ≤ i then (l.take i).eraseIdx (n - 1) else l.take i
def fieldTo (l : List ByteArray) (n i : Nat) : ByteArray := if n ≤ i then l.getD (n - 1) ⟨#[]⟩ else ⟨#[]⟩
theorem restTo_len (l : List ByteArray) (n i : Nat) : (restTo l n i).length ≤ i := by
  unfold restTo
  have h := List.length_take_le i l
  split
  · have := List.length_eraseIdx_le (l.take i) (n - 1)
    omega
  · exact h
theorem field_loop (n : Nat) (hn1 : 1 ≤ n) (hn : n ≤ 1000) (l : List ByteArray) (hl : l.length ≤ 2000000) : ∀ (d i : Nat), i + d = l.length →
    Ev (fun k => toolchestref08_Field.l0 k (n : Int) l (restTo l n i) (fieldTo l n i) (i : Int)) (fieldTo l n l.length, restTo l n l.length) := by
  intro d
  induction d with
  | zero =>
    intro i hi
    obtain rfl : i = l.length := by omega
    refine Ev.now fun k => ?_
    simp only [toolchestref08_Field.l0]
    rw [if_neg (not_nat_lt (by omega))]
  | succ d ih =>
    intro i hi
    have hlt : i < l.length := by omega
    have hw := wrap_one i (by omega)
    have hr := rdOf_at l i hlt
    have htk : l.take (i + 1) = l.take i ++ [l[i]] := List.take_succ_eq_append_getElem hlt
    have htl : (l.take i).length = i := by rw [List.length_take]; omega
    have hlen := restTo_len l n i
    refine (ih (i + 1) (by omega)).step fun k hk => ?_
    simp only [toolchestref08_Field.l0]
    rw [if_pos (nat_lt hlt), hw]
    by_cases he : i + 1 = n
    · subst he
      rw [if_pos rfl, if_pos (nat_nn i), hr]
      have e1 : restTo l (i + 1) (i + 1) = restTo l (i + 1) i := by
        unfold restTo
        rw [if_pos (Nat.le_refl _), if_neg (by omega), htk, Nat.add_sub_cancel, List.eraseIdx_append_of_length_le (by omega), htl, Nat.sub_self]
        simp
      have e2 : fieldTo l (i + 1) (i + 1) = l[i] := by
        unfold fieldTo
        rw [if_pos (Nat.le_refl _), Nat.add_sub_cancel]
        simp [List.getD_eq_getElem?_getD, List.getElem?_eq_getElem hlt]
      rw [e1, e2] at hk
      exact hk
    · rw [if_neg (by omega), if_pos (nat_nn i), if_pos (by omega), hr]
      have e1 : restTo l n (i + 1) = restTo l n i ++ [l[i]] := by
        unfold restTo
        by_cases h : n ≤ i
        · rw [if_pos (by omega), if_pos h, htk, List.eraseIdx_append_of_lt_length (by omega)]
        · rw [if_neg (by omega), if_neg h, htk]
      have e2 : fieldTo l n (i + 1) = fieldTo l n i := by
        unfold fieldTo
        by_cases h : n ≤ i
        · rw [if_pos (by omega), if_pos h]
        · rw [if_neg (by omega), if_neg h]
      rw [e1, e2] at hk
      exact hk
theorem refField_f (s : ByteArray) (n : Nat) (hn1 : 1 ≤ n) (hn : n ≤ 1000) (c : Int) (hs : s.size ≤ 1000000) : Ev (fun k => toolchestref08_Field.f k s (n : Int) c) (fieldP c n s) := by
  have hfl : (fieldsOf s c).length ≤ 2000000 := by have := fieldsOf_len s c; omega
  have e : fieldP c n s = (fieldTo (fieldsOf s c) n (fieldsOf s c).length, restTo (fieldsOf s c) n (fieldsOf s c).length) := by
    unfold fieldP fieldTo restTo
    split
    · rw [List.take_length]
    · rw [List.take_length]
  rw [e]
  obtain ⟨k0, h0⟩ := Ev.and (ref_fields s c (by omega)) (field_loop n hn1 hn (fieldsOf s c) hfl _ 0 (Nat.zero_add _))
  refine ⟨k0, fun k hk => ?_⟩
  obtain ⟨g1, g2⟩ := h0 k hk
  have g1' : toolchestref02_Fields.f k s c = some (fieldsOf s c) := g1
  show toolchestref08_Field.f k s (n : Int) c = _
  unfold toolchestref08_Field.f
  rw [g1', Option.bind_some]
  have e1 : restTo (fieldsOf s c) n 0 = [] := by unfold restTo; rw [if_neg (by omega)]; rfl
  have e2 : fieldTo (fieldsOf s c) n 0 = ⟨#[]⟩ := by unfold fieldTo; rw [if_neg (by omega)]
  rw [e1, e2] at g2
  exact g2
def riseL : List ByteArray → Bool
  | x :: y :: l => !ltB y x && riseL (y :: l)
  | _ => true
theorem rise_up : ∀ (d : List ByteArray), riseL d = true → Up d
  | [], _ => List.Pairwise.nil
  | [x], _ => List.pairwise_singleton _ _
  | x :: y :: l, h => by
    simp only [riseL, Bool.and_eq_true, Bool.not_eq_true'] at h
    have ih := rise_up (y :: l) h.2
    refine List.pairwise_cons.2 ⟨fun z hz => ?_, ih⟩
    rcases List.mem_cons.1 hz with rfl | hz
    · exact h.1
    · exact ltB_mid h.1 ((List.pairwise_cons.1 ih).1 z hz)
theorem up_rise : ∀ (d : List ByteArray), Up d → riseL d = true
  | [], _ => rfl
  | [x], _ => rfl
  | x :: y :: l, h => by
    obtain ⟨h1, h2⟩ := List.pairwise_cons.1 h
    simp only [riseL]
    rw [h1 y (by simp), up_rise (y :: l) h2]
    rfl
theorem rise_sorted (d : List ByteArray) : riseL d = sortedP d := by
  rw [Bool.eq_iff_iff]
  exact ⟨fun h => up_down d (rise_up d h), fun h => up_rise d (down_up d h)⟩
theorem inOrder_loop (l : List ByteArray) (hs : ∀ s ∈ l, s.size ≤ 1000000) (hl : l.length ≤ 1000000) (n : Nat) (hn1 : 1 ≤ n) (hn : n ≤ 1000) (c : Int) : ∀ (d i : Nat) (h : i + 1 + d = l.length),
    Ev (fun k => toolchestref08_inOrder.l0 k l (n : Int) c (fieldP c n (l[i]'(by omega))).1 ((i + 1 : Nat) : Int)) (riseL ((l.map fun s => (fieldP c n s).1).drop i)) := by
  intro d
  induction d with
  | zero =>
    intro i hi
    refine Ev.now fun k => ?_
    simp only [toolchestref08_inOrder.l0]
    rw [if_neg (not_nat_lt (by omega)), List.drop_eq_getElem_cons (by rw [List.length_map]; omega), List.drop_of_length_le (by rw [List.length_map]; omega)]
    rfl
  | succ d ih =>
    intro i hi
    have h1 : i + 1 < l.length := by omega
    have hw := wrap_one (i + 1) (by omega)
    have hr := rdOf_at l (i + 1) h1
    obtain ⟨k0, h0⟩ := refField_f l[i + 1] n hn1 hn c (hs _ (List.getElem_mem _))
    obtain ⟨k1, h1'⟩ := ih (i + 1) (by omega)
    have hdr : riseL ((l.map fun s => (fieldP c n s).1).drop i) = (!ltB (fieldP c n l[i + 1]).1 (fieldP c n (l[i]'(by omega))).1 && riseL ((l.map fun s => (fieldP c n s).1).drop (i + 1))) := by
      rw [List.drop_eq_getElem_cons (show i < (l.map fun s => (fieldP c n s).1).length by rw [List.length_map]; omega), List.drop_eq_getElem_cons (show i + 1 < (l.map fun s => (fieldP c n s).1).length by rw [List.length_map]; omega)]
      simp only [riseL, List.getElem_map]
    rw [hdr]
    refine ⟨max k0 k1 + 1, fun k hk => ?_⟩
    obtain ⟨j, rfl⟩ : ∃ j, k = j + 1 := ⟨k - 1, by omega⟩
    have g0 : toolchestref08_Field.f j l[i + 1] (n : Int) c = some (fieldP c n l[i + 1]) := h0 j (by omega)
    have g1 := h1' j (by omega)
    show toolchestref08_inOrder.l0 (j + 1) l (n : Int) c (fieldP c n (l[i]'(by omega))).1 ((i + 1 : Nat) : Int) = _
    simp only [toolchestref08_inOrder.l0]
    rw [if_pos (nat_lt h1), if_pos (nat_nn _), hr, g0, Option.bind_some, if_pos (by omega), hw]
    show (if ltB (fieldP c n l[i + 1]).1 (fieldP c n (l[i]'(by omega))).1 = true then _ else _) = _
    cases hx : ltB (fieldP c n l[i + 1]).1 (fieldP c n (l[i]'(by omega))).1 with
    | true => rw [if_pos rfl]; rfl
    | false => rw [if_neg (by decide)]; exact g1
theorem refInOrder_f (l : List ByteArray) (hs : ∀ s ∈ l, s.size ≤ 1000000) (hl : l.length ≤ 1000000) (n : Nat) (hn1 : 1 ≤ n) (hn : n ≤ 1000) (c : Int) :
    Ev (fun k => toolchestref08_inOrder.f k l (n : Int) c) (sortedP (l.map fun s => (fieldP c n s).1)) := by
  rw [← rise_sorted]
  by_cases h0 : l.length = 0
  · obtain rfl := List.eq_nil_of_length_eq_zero h0
    refine Ev.now fun k => ?_
    unfold toolchestref08_inOrder.f
    simp only [toolchestref08_inOrder.l0]
    rw [if_neg (by simp)]
    rfl
  · have hp : 0 < l.length := by omega
    have hr := rdOf_at l 0 hp
    obtain ⟨k0, h0⟩ := refField_f l[0] n hn1 hn c (hs _ (List.getElem_mem _))
    obtain ⟨k1, h1⟩ := inOrder_loop l hs hl n hn1 hn c (l.length - 1) 0 (by omega)
    refine ⟨max k0 k1 + 1, fun k hk => ?_⟩
    obtain ⟨j, rfl⟩ : ∃ j, k = j + 1 := ⟨k - 1, by omega⟩
    have g0 : toolchestref08_Field.f j l[0] (n : Int) c = some (fieldP c n l[0]) := h0 j (by omega)
    have g1 := h1 j (by omega)
    have hw : wrap64 (0 + 1) = ((0 + 1 : Nat) : Int) := by unfold wrap64; omega
    have hr' : rdOf ByteArray.empty l 0 = l[0] := hr
    show toolchestref08_inOrder.f (j + 1) l (n : Int) c = _
    unfold toolchestref08_inOrder.f
    simp only [toolchestref08_inOrder.l0]
    rw [if_pos (by omega), if_pos (by omega), hr', g0, Option.bind_some, if_neg (by omega), hw]
    exact g1
end Go.Proofs.YtlicjpbmlmongaaGreatDoor.P

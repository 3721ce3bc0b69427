/- Written by merge.py out of SameSelf, SChk, SLaw, SAlive, Sizes1, SFew. -/
import Derived.Test.YtaekgfmcelckoaaDoorQx9
import Derived.Test.YtaekgfmcelckoaaDoorQx8
import Derived.Test.YtaekgfmcelckoaaDoorEvs
import Derived.Test.YtaekgfmcelckoaaDoorQx11
import Derived.Test.YtaekgfmcelckoaaDoorSSort
import Derived.Test.YtaekgfmcelckoaaDoorKComp
import Derived.Test.YtaekgfmcelckoaaDoorQx10
import Derived.Test.YtaekgfmcelckoaaDoorSRuns
import Derived.Test.YtaekgfmcelckoaaDoorComm
import Derived.Laws.IdiomStrings
section
/- SameTexts says of a list and itself that they are the same; Beyond of one number. -/
set_option linter.unusedVariables false
set_option linter.unusedSimpArgs false
namespace Go.Proofs.YtaekgfmcelckoaaDoor.P
open Go.RowKit Go.Proofs.YtaekgfmcelckoaaDoor.Q Go.Proofs.YtaekgfmcelckoaaDoorW.PrintWords Go.Proofs.YtaekgfmcelckoaaDoorW.PrintLast

theorem beyond_one (n : Nat) (h1 : n ≤ 4611686018427387904) : Ev (fun k => toolchestlaw01_Beyond.f k [(n : Int)]) (decide (n > 1048576)) := by
  have w1 : wrap64 (n : Int) = n := by unfold wrap64; omega
  have w2 : wrap64 1 = 1 := by unfold wrap64; omega
  refine ⟨2, fun k hk => ?_⟩
  obtain ⟨j, rfl⟩ : ∃ j, k = j + 1 + 1 := ⟨k - 2, by omega⟩
  simp [toolchestlaw01_Beyond.f, toolchestlaw01_Beyond.l0, rd, w1, w2]
  by_cases h : 1048576 < n
  · rw [if_pos (by omega)]; simp [h]
  · rw [if_neg (by omega)]; simp [h]
theorem same_loop (l : List ByteArray) (hl : l.length ≤ 2000000) : ∀ (d i : Nat), i + d = l.length → Ev (fun k => toolchestlaw01_SameTexts.l0 k l l (i : Int)) true := by
  intro d
  induction d with
  | zero =>
    intro i hi
    refine Ev.now fun k => ?_
    simp only [toolchestlaw01_SameTexts.l0]
    rw [if_neg (not_nat_lt (by omega))]
  | succ d ih =>
    intro i hi
    have hlt : i < l.length := by omega
    have hw := wrap_one i (by omega)
    refine (ih (i + 1) (by omega)).step fun k hk => ?_
    simp only [toolchestlaw01_SameTexts.l0]
    rw [if_pos (nat_lt hlt), if_pos (nat_nn i), if_pos (nat_lt hlt), if_pos trivial, hw]
    exact hk
theorem same_self (l : List ByteArray) (hl : l.length ≤ 2000000) : Ev (fun k => toolchestlaw01_SameTexts.f k l l) true := by
  obtain ⟨k0, hk⟩ := same_loop l hl l.length 0 (Nat.zero_add _)
  refine ⟨k0, fun k h => ?_⟩
  show toolchestlaw01_SameTexts.f k l l = some true
  unfold toolchestlaw01_SameTexts.f
  rw [if_pos rfl]
  exact hk k h
end Go.Proofs.YtaekgfmcelckoaaDoor.P

end
section
/- What sorts.Check tells: the plain part. -/
set_option linter.unusedVariables false
set_option linter.unusedSimpArgs false
namespace Go.Proofs.YtaekgfmcelckoaaDoor.P
open Go.RowKit Go.Proofs.YtaekgfmcelckoaaDoor.Q Go.Proofs.YtaekgfmcelckoaaDoor.H Go.Proofs.YtaekgfmcelckoaaDoor.K Go.Proofs.YtaekgfmcelckoaaDoorW.PrintWords Go.Proofs.YtaekgfmcelckoaaDoorW.PrintLast

/-- Is the second of two lines out of order? -/
def badO (u nu fo bl re : Bool) (f t : Int) (c : UInt8) (a b : List UInt8) : Bool := decide (wholeO nu fo bl re f t c a b > 0) || (u && cmpO nu fo bl re f t c a b == 0)
/-- The place of the first line, from i on, that is out of order behind the one ahead of it. -/
def chkL (u nu fo bl re : Bool) (f t : Int) (c : UInt8) : List ByteArray → Nat → Int
  | x :: y :: l, i => if badO u nu fo bl re f t c x.data.toList y.data.toList = true then (i : Int) else chkL u nu fo bl re f t c (y :: l) (i + 1)
  | _, _ => -1
def checkL (u nu fo bl re : Bool) (f t : Int) (c : UInt8) (l : List ByteArray) : Int := if checkO f t c = true then chkL u nu fo bl re f t c l 1 else -1
theorem drop_two {l : List ByteArray} {i : Nat} (h : i + 1 < l.length) : l.drop i = l[i] :: l[i + 1] :: l.drop (i + 2) := by
  rw [List.drop_eq_getElem_cons (by omega), List.drop_eq_getElem_cons h]
theorem prog_loop (u nu fo bl re : Bool) (f t c : Int) (hc : 0 ≤ c ∧ c ≤ 255) (l : List ByteArray) (hs : ∀ x ∈ l, x.size ≤ 1000000) (hl : l.length ≤ 1000000) : ∀ (d i : Nat), i + 1 + d = l.length →
    Ev (fun k => sorts_Check.l0 k l u l (l.length : Int) ((i + 1 : Nat) : Int) nu fo bl re f t c) (chkL u nu fo bl re f t (u8 c) (l.drop i) (i + 1)) := by
  intro d
  induction d with
  | zero =>
    intro i hi
    have e : l.drop i = [l[i]] := by rw [List.drop_eq_getElem_cons (by omega), List.drop_of_length_le (by omega)]
    rw [e]
    refine Ev.now fun k => ?_
    simp only [sorts_Check.l0]
    rw [if_neg (not_nat_lt (by omega))]
    rfl
  | succ d ih =>
    intro i hi
    have h1 : i + 1 < l.length := by omega
    have hw := wrap_one (i + 1) (by omega)
    have hw2 : wrap64 (((i + 1 : Nat) : Int) - 1) = (i : Int) := by unfold wrap64; omega
    have sa := hs l[i] (List.getElem_mem _)
    have sb := hs l[i + 1] (List.getElem_mem _)
    have hdd : l.drop (i + 1) = l[i + 1] :: l.drop (i + 2) := List.drop_eq_getElem_cons h1
    rw [drop_two h1]
    have hch : chkL u nu fo bl re f t (u8 c) (l[i] :: l[i + 1] :: l.drop (i + 2)) (i + 1) = if badO u nu fo bl re f t (u8 c) l[i].data.toList l[i + 1].data.toList = true then ((i + 1 : Nat) : Int) else chkL u nu fo bl re f t (u8 c) (l.drop (i + 1)) (i + 1 + 1) := by rw [hdd]; rfl
    rw [hch]
    obtain ⟨k0, h0⟩ := Ev.and (whole_f nu fo bl re f t c hc l[i] l[i + 1] sa sb) (ih (i + 1) (by omega))
    refine ⟨k0 + 1, fun k hk => ?_⟩
    obtain ⟨j, rfl⟩ : ∃ j, k = j + 1 := ⟨k - 1, by omega⟩
    obtain ⟨g1, g2⟩ := h0 j (by omega)
    have g1' : sorts_whole.f j nu fo bl re f t c l[i] l[i + 1] = some (wholeO nu fo bl re f t (u8 c) l[i].data.toList l[i + 1].data.toList) := g1
    have g2' : sorts_Check.l0 j l u l (l.length : Int) ((i + 1 + 1 : Nat) : Int) nu fo bl re f t c = some (chkL u nu fo bl re f t (u8 c) (l.drop (i + 1)) (i + 1 + 1)) := g2
    show sorts_Check.l0 (j + 1) l u l (l.length : Int) ((i + 1 : Nat) : Int) nu fo bl re f t c = _
    simp only [sorts_Check.l0]
    rw [if_pos (nat_lt h1), if_pos (nat_nn _), if_pos (nat_lt h1), if_pos (by omega), hw2, if_pos (nat_nn _), if_pos (nat_lt (by omega)), rdOf_at l i (by omega), rdOf_at l (i + 1) h1, g1', Option.bind_some, hw]
    unfold badO
    by_cases hwh : wholeO nu fo bl re f t (u8 c) l[i].data.toList l[i + 1].data.toList > 0
    · rw [if_pos hwh, decide_eq_true hwh]; rfl
    · rw [if_neg hwh, decide_eq_false hwh]
      cases u
      · rw [if_neg (by decide), g2']; rfl
      · rw [if_pos rfl, comp_f hc (by omega) (by omega), Option.bind_some]
        by_cases hz : cmpO nu fo bl re f t (u8 c) l[i].data.toList l[i + 1].data.toList = 0
        · rw [if_pos hz, hz]; rfl
        · rw [if_neg hz, g2']
          have : (cmpO nu fo bl re f t (u8 c) l[i].data.toList l[i + 1].data.toList == 0) = false := by simpa using hz
          rw [this]; rfl
theorem prog_check (u nu fo bl re : Bool) (f t c : Int) (hc : 0 ≤ c ∧ c ≤ 255) (l : List ByteArray) (hs : ∀ x ∈ l, x.size ≤ 1000000) (hl : l.length ≤ 1000000) :
    Ev (fun k => sorts_Check.f k nu fo bl re f t c l u) (checkL u nu fo bl re f t (u8 c) l) := by
  have hcc : (((u8 c).toNat : Nat) : Int) = c := u8_nat hc
  have hck := fun k => check_f k nu fo bl re f t (u8 c)
  rw [hcc] at hck
  unfold checkL
  cases hok : checkO f t (u8 c) with
  | false =>
    refine Ev.now fun k => ?_
    unfold sorts_Check.f
    rw [hck, hok, Option.bind_some, if_neg (by decide), if_neg (by decide)]
  | true =>
    rw [if_pos rfl]
    by_cases h0 : l.length = 0
    · obtain rfl := List.eq_nil_of_length_eq_zero h0
      refine Ev.now fun k => ?_
      unfold sorts_Check.f
      rw [hck, hok, Option.bind_some, if_pos rfl]
      simp only [sorts_Check.l0]
      rw [if_neg (by decide)]
      rfl
    · refine (prog_loop u nu fo bl re f t c hc l hs hl (l.length - 1) 0 (by omega)).next fun k hk => ?_
      unfold sorts_Check.f
      rw [hck, hok, Option.bind_some, if_pos rfl]
      simp only [sorts_Check.l0]
      have hw : wrap64 (0 + 1) = ((0 + 1 : Nat) : Int) := by unfold wrap64; omega
      rw [if_pos (by omega), if_pos (by decide), if_pos (by omega), if_neg (by decide), hw]
      exact hk
end Go.Proofs.YtaekgfmcelckoaaDoor.P

end
section
/- What sorted lines are: no program in sight. -/
set_option linter.unusedVariables false
set_option linter.unusedSimpArgs false
namespace Go.Proofs.YtaekgfmcelckoaaDoor.P
open Go.RowKit Go.Proofs Go.Proofs.YtaekgfmcelckoaaDoor.Q Go.Proofs.YtaekgfmcelckoaaDoor.H Go.Proofs.YtaekgfmcelckoaaDoor.K Go.Proofs.YtaekgfmcelckoaaDoorW.PrintWords Go.Proofs.YtaekgfmcelckoaaDoorW.PrintLast

theorem tag_fst (l : List ByteArray) : (tagL l).map (·.1) = l := by unfold tagL; simp
theorem order_perm (un nu fo bl re : Bool) (f t : Int) (c : UInt8) (l : List ByteArray) : (orderL un nu fo bl re f t c l).Perm (tagL l) := Hp.heap_perm _ _ _
theorem order_sorted (un nu fo bl re : Bool) (f t : Int) (c : UInt8) (l : List ByteArray) : (orderL un nu fo bl re f t c l).Pairwise (fun x y => ltC (lineC (byC un nu fo bl re f t c)) y x = false) := Hp.heap_sorted (ltC_ord (lineC_ord (byC_ord un nu fo bl re f t c))) _ _
theorem outF_all (c : List UInt8 → List UInt8 → Int) (E : List LN) : outF false c E = E.map (·.1) := by
  have h : ∀ (E : List LN) (o : List ByteArray), E.foldl (fun o x => stepF false c o x.1) o = o ++ E.map (·.1) := by
    intro E
    induction E with
    | nil => intro o; simp
    | cons x E ih =>
      intro o
      rw [List.foldl_cons, ih]
      unfold stepF
      rw [if_pos (.inl rfl)]
      simp
  exact h E []
/-- In order, line by line. -/
def Asc (c : List UInt8 → List UInt8 → Int) (l : List ByteArray) : Prop := l.Pairwise (fun x y => c x.data.toList y.data.toList ≤ 0)
theorem sortA_perm (nu fo bl re : Bool) (f t : Int) (c : UInt8) (l : List ByteArray) : (sortL false nu fo bl re f t c l).Perm l := by
  unfold sortL
  rw [outF_all]
  have h := (order_perm false nu fo bl re f t c l).map (·.1)
  rwa [tag_fst] at h
theorem lineC_le {c : List UInt8 → List UInt8 → Int} (h : Ord c) (x y : LN) (e : ltC (lineC c) y x = false) : c x.1.data.toList y.1.data.toList ≤ 0 := by
  unfold ltC lineC orC at e
  have e := of_decide_eq_false e
  have hb := h.back y.1.data.toList x.1.data.toList
  have h1 := h.one y.1.data.toList x.1.data.toList
  split at e
  · omega
  · omega
theorem order_asc (un nu fo bl re : Bool) (f t : Int) (c : UInt8) (l : List ByteArray) : ((orderL un nu fo bl re f t c l).map (·.1)).Pairwise (fun x y => byC un nu fo bl re f t c x.data.toList y.data.toList ≤ 0) := by
  rw [List.pairwise_map]
  exact (order_sorted un nu fo bl re f t c l).imp (fun e => lineC_le (byC_ord un nu fo bl re f t c) _ _ e)
theorem sortA_asc (nu fo bl re : Bool) (f t : Int) (c : UInt8) (l : List ByteArray) : Asc (wholeO nu fo bl re f t c) (sortL false nu fo bl re f t c l) := by
  unfold sortL Asc
  rw [outF_all]
  exact order_asc false nu fo bl re f t c l
theorem whole_zero (nu fo bl re : Bool) (f t : Int) (c : UInt8) (x y : List UInt8) (h : wholeO nu fo bl re f t c x y = 0) : x = y := by
  unfold wholeO orC at h
  split at h
  · cases re
    · rw [if_neg (by decide)] at h; exact (cmpB_zero x y).1 h
    · rw [if_pos rfl] at h; exact (cmpB_zero x y).1 (by omega)
  · contradiction
/-- Just one list of the same lines is in order. -/
theorem asc_any {c : List UInt8 → List UInt8 → Int} (ho : Ord c) (hz : ∀ x y, c x y = 0 → x = y) (a b : List ByteArray) (hp : a.Perm b) (ha : Asc c a) (hb : Asc c b) : a = b := by
  have key : ∀ x y : ByteArray, c x.data.toList y.data.toList ≤ 0 → decide (c y.data.toList x.data.toList < 0) = false := fun x y h => decide_eq_false (by have := ho.back x.data.toList y.data.toList; omega)
  refine Hp.sorted_one (lt := fun (x y : ByteArray) => decide (c x.data.toList y.data.toList < 0)) a b (fun x _ y _ h1 h2 => ?_) hp (ha.imp (fun h => key _ _ h)) (hb.imp (fun h => key _ _ h))
  have h1 := of_decide_eq_false h1
  have h2 := of_decide_eq_false h2
  have := ho.back x.data.toList y.data.toList
  exact ByteArray.ext (Array.ext' (hz _ _ (by omega)))
theorem asc_one (nu fo bl re : Bool) (f t : Int) (c : UInt8) (a b : List ByteArray) (hp : a.Perm b) (ha : Asc (wholeO nu fo bl re f t c) a) (hb : Asc (wholeO nu fo bl re f t c) b) : a = b :=
  asc_any (Ord.wholeO nu fo bl re f t c) (whole_zero nu fo bl re f t c) a b hp ha hb
theorem sortA_self (nu fo bl re : Bool) (f t : Int) (c : UInt8) (l : List ByteArray) (h : Asc (wholeO nu fo bl re f t c) l) : sortL false nu fo bl re f t c l = l :=
  asc_one nu fo bl re f t c _ _ (sortA_perm nu fo bl re f t c l) (sortA_asc nu fo bl re f t c l) h
theorem sortA_alike (nu fo bl re : Bool) (f t : Int) (c : UInt8) (l m : List ByteArray) (h : l.Perm m) : sortL false nu fo bl re f t c l = sortL false nu fo bl re f t c m :=
  asc_one nu fo bl re f t c _ _ ((sortA_perm nu fo bl re f t c l).trans (h.trans (sortA_perm nu fo bl re f t c m).symm)) (sortA_asc nu fo bl re f t c l) (sortA_asc nu fo bl re f t c m)
theorem chk_asc (nu fo bl re : Bool) (f t : Int) (c : UInt8) : ∀ (l : List ByteArray) (i : Nat), Asc (wholeO nu fo bl re f t c) l → chkL false nu fo bl re f t c l i = -1
  | [], _, _ => rfl
  | [_], _, _ => rfl
  | x :: y :: l, i, h => by
    have h1 := List.rel_of_pairwise_cons h (List.mem_cons_self (a := y) (l := l))
    have hb : badO false nu fo bl re f t c x.data.toList y.data.toList = false := by unfold badO; simp; exact h1
    simp only [chkL]
    rw [if_neg (by rw [hb]; decide)]
    exact chk_asc nu fo bl re f t c (y :: l) (i + 1) (List.pairwise_cons.1 h).2
theorem check_asc (nu fo bl re : Bool) (f t : Int) (c : UInt8) (l : List ByteArray) (h : Asc (wholeO nu fo bl re f t c) l) : checkL false nu fo bl re f t c l = -1 := by
  unfold checkL
  split
  · exact chk_asc nu fo bl re f t c l 1 h
  · rfl
theorem count_ev (l : List ByteArray) (s : ByteArray) (hl : l.length ≤ 1000000) : Ev (fun k => toolchestlaw06_count.f k l s) ((l.countP (fun x => decide (x.toList = s.toList)) : Nat) : Int) := by
  have h : ∀ (d i : Nat), i + d = l.length → Ev (fun k => toolchestlaw06_count.l0 k l s (((l.take i).countP (fun x => decide (x.toList = s.toList)) : Nat) : Int) (i : Int)) ((l.countP (fun x => decide (x.toList = s.toList)) : Nat) : Int) := by
    intro d
    induction d with
    | zero =>
      intro i hi
      refine Ev.now fun k => ?_
      rw [toolchestlaw06_count.l0, if_neg (not_nat_lt (by omega)), List.take_of_length_le (by omega)]
    | succ d ih =>
      intro i hi
      have hlt : i < l.length := by omega
      refine (ih (i + 1) (by omega)).step fun k hk => ?_
      rw [List.take_succ_eq_append_getElem hlt, List.countP_append] at hk
      have hc : (l.take i).countP (fun x => decide (x.toList = s.toList)) ≤ i := Nat.le_trans List.countP_le_length (by rw [List.length_take]; omega)
      rw [toolchestlaw06_count.l0, if_pos (nat_lt hlt), if_pos (nat_nn i), rdOf_at l i hlt, wrap_one _ (by omega), wrap_one i (by omega)]
      by_cases e : l[i].toList = s.toList
      · rw [if_pos e]
        have e1 : List.countP (fun x : ByteArray => decide (x.toList = s.toList)) [l[i]] = 1 := by simp [e]
        rw [e1] at hk
        exact hk
      · rw [if_neg e]
        have e1 : List.countP (fun x : ByteArray => decide (x.toList = s.toList)) [l[i]] = 0 := by simp [e]
        rw [e1, Nat.add_zero] at hk
        exact hk
  exact h l.length 0 (by omega)
theorem count_calls (A : Option Addr) (cap : Nat) (l : List ByteArray) (s : ByteArray) (w : World) (h : Kd.C Kd.string w A l.length l) (hc : l.length ≤ cap) (hl : l.length ≤ 1000000) :
    Calls Tryd.prog 22 #[.slice A l.length cap, .string s] w fun e w' => e = .returned (.int .i64 ((l.countP (fun x => decide (x.toList = s.toList)) : Nat) : Int)) ∧ Below w.heap.size w w' := by
  obtain ⟨k, hk⟩ := (count_ev l s hl).at_
  exact (toolchestlaw06_count.calls k A cap l s _ w h hc hk).mono fun e w' h => ⟨h.1, h.2.below⟩
end Go.Proofs.YtaekgfmcelckoaaDoor.P

end
section
/- Chapter 6's alive: the answers that the document fixes are told. -/
set_option linter.unusedVariables false
set_option linter.unusedSimpArgs false
namespace Go.Proofs.YtaekgfmcelckoaaDoor.P
open Go.RowKit Go.Proofs Go.Proofs.YtaekgfmcelckoaaDoor.Q Go.Proofs.YtaekgfmcelckoaaDoor.H Go.Proofs.YtaekgfmcelckoaaDoor.K Go.Proofs.YtaekgfmcelckoaaDoor.S Go.Proofs.YtaekgfmcelckoaaDoorW.PrintWords Go.Proofs.YtaekgfmcelckoaaDoorW.PrintLast

def tenX : List ByteArray := [⟨#[49, 48]⟩, ⟨#[57]⟩, ⟨#[48, 57]⟩, ⟨#[57]⟩]
def sortX : List ByteArray := [⟨#[48, 57]⟩, ⟨#[57]⟩, ⟨#[57]⟩, ⟨#[49, 48]⟩]
def uniqX : List ByteArray := [⟨#[57]⟩, ⟨#[49, 48]⟩]
theorem s1 : sortL false true false false false 0 0 0 tenX = sortX := by decide +kernel
theorem s2 : sortL true true false false false 0 0 0 tenX = uniqX := by decide +kernel
theorem s3 : checkO 0 1 0 = false := by decide +kernel
theorem s4 : runsN 1 0 [⟨#[49, 32, 120]⟩, ⟨#[50, 32, 120]⟩, ⟨#[51, 32, 121]⟩] 3 = [(⟨#[49, 32, 120]⟩, 2), (⟨#[51, 32, 121]⟩, 1)] := by decide +kernel
theorem s5 : comm [⟨#[97]⟩, ⟨#[98]⟩, ⟨#[100]⟩] [⟨#[98]⟩, ⟨#[99]⟩, ⟨#[100]⟩] = ([⟨#[97]⟩], [⟨#[99]⟩], [⟨#[98]⟩, ⟨#[100]⟩]) := by decide +kernel
theorem s6 : checkL false false false false false 0 0 0 [⟨#[97]⟩, ⟨#[98]⟩, ⟨#[97]⟩] = 2 := by decide +kernel
theorem s7 : checkO 0 0 0 = true := by decide +kernel
set_option maxHeartbeats 1000000 in
set_option maxRecDepth 100000 in
theorem sortBad_calls (un nu fo bl re : Bool) (f t : Int) (c : UInt8) (hck : checkO f t c = false) (v : Value) (w : World) :
    Calls Tryd.prog 19 #[ordV nu fo bl re f t c, v, .bool un] w fun e w' => e = .returned (.tuple #[.slice none 0 0, .int .i64 1]) ∧ Below w.heap.size w w' := by
  have HCK := Lib.hid (show ∀ V, Calls Tryd.prog 18 #[.agg #[.bool nu, .bool fo, .bool bl, .bool re, .int .i64 f, .int .i64 t, .int .u8 (c.toNat : Int)]] V fun e w' => e = .returned (.bool false) ∧ Below V.heap.size V w' from fun V => by
    have h := keys_Check.calls 1 nu fo bl re f t (c.toNat : Int) (checkO f t c) V (check_f 0 nu fo bl re f t c)
    rwa [hck] at h)
  clear hck
  unfold ordV
  go_enter Tryd.func19, Tryd.ntmps19
  go_wp2_with fail
  with_reducible refine (HCK.out _).mono ?_
  rintro e w1 ⟨rfl, hb1⟩
  have HB := Lib.hid (bth (bal (Below.refl _ _) _) hb1)
  clear hb1
  go_wp2
  go_ret2
  exact ⟨rfl, HB.out⟩
theorem same_ev (l : List ByteArray) (hl : l.length ≤ 2000000) : ∃ k, toolchestlaw01_SameTexts.f k l l = some true := (same_self l hl).at_
theorem sx1 (A : Option Addr) (w : World) (h : Kd.C Kd.string w A 4 tenX) : Calls Tryd.prog 19 #[.agg #[.bool true, .bool false, .bool false, .bool false, .int .i64 0, .int .i64 0, .int .u8 0], .slice A 4 4, .bool false] w fun e w' => (∃ A' c', e = .returned (.tuple #[.slice A' 4 c', .int .i64 0]) ∧ 4 ≤ c' ∧ Kd.C Kd.string w' A' 4 sortX) ∧ Below w.heap.size w w' := by
  refine (sortA_calls true false false false 0 0 0 s7 A 4 tenX w h (by decide) (by decide) (by decide)).mono ?_
  rintro e w' ⟨v, rfl, ht, hb⟩
  rw [s1] at ht
  obtain ⟨A', c', rfl, hc, hC⟩ := ht.reads
  exact ⟨⟨A', c', rfl, hc, hC⟩, hb⟩
theorem sx2 (A : Option Addr) (w : World) (h : Kd.C Kd.string w A 4 tenX) : Calls Tryd.prog 19 #[.agg #[.bool true, .bool false, .bool false, .bool false, .int .i64 0, .int .i64 0, .int .u8 0], .slice A 4 4, .bool true] w fun e w' => (∃ A' c', e = .returned (.tuple #[.slice A' 2 c', .int .i64 0]) ∧ 2 ≤ c' ∧ Kd.C Kd.string w' A' 2 uniqX) ∧ Below w.heap.size w w' := by
  refine (sortU_calls true false false false 0 0 0 s7 A 4 tenX w h (by decide) (by decide) (by decide)).mono ?_
  rintro e w' ⟨v, rfl, ht, hb⟩
  rw [s2] at ht
  obtain ⟨A', c', rfl, hc, hC⟩ := ht.reads
  exact ⟨⟨A', c', rfl, hc, hC⟩, hb⟩
theorem sx3 (w : World) : Calls Tryd.prog 19 #[.agg #[.bool false, .bool false, .bool false, .bool false, .int .i64 0, .int .i64 1, .int .u8 0], .slice none 0 0, .bool false] w fun e w' => e = .returned (.tuple #[.slice none 0 0, .int .i64 1]) ∧ Below w.heap.size w w' := sortBad_calls false false false false false 0 1 0 s3 _ w
theorem sx4 (A : Option Addr) (w : World) (h : Kd.C Kd.string w A 3 [⟨#[49, 32, 120]⟩, ⟨#[50, 32, 120]⟩, ⟨#[51, 32, 121]⟩]) : Calls Tryd.prog 13 #[.slice A 3 3, .int .i64 1, .int .i64 0] w fun e w' => (∃ g c', e = .returned (.slice (some ⟨g, 0, none⟩) 2 c') ∧ 2 ≤ c' ∧ g < w'.heap.size ∧ w'.cell? ⟨g, 0, none⟩ = some (.string ⟨#[49, 32, 120]⟩) ∧ w'.cell? ⟨g, 1, none⟩ = some (.int .i64 2)) ∧ Below w.heap.size w w' := by
  refine (runs_calls A 3 [⟨#[49, 32, 120]⟩, ⟨#[50, 32, 120]⟩, ⟨#[51, 32, 121]⟩] 1 0 (by decide) w h (by decide) (by decide) (by decide)).mono ?_
  rw [show ([⟨#[49, 32, 120]⟩, ⟨#[50, 32, 120]⟩, ⟨#[51, 32, 121]⟩] : List ByteArray).length = 3 from rfl, s4]
  rintro e w' ⟨v, rfl, ho, hb⟩
  obtain ⟨g, cap, rfl, h1, h2, h3, h4⟩ := own_formN ho (by decide)
  have c0 := ho.cells (g := g) rfl 0 (.string ⟨#[49, 32, 120]⟩) rfl
  have c1 := ho.cells (g := g) rfl 1 (.int .i64 2) rfl
  rw [add_plain] at c0 c1
  exact ⟨⟨g, cap, rfl, h3, h2, c0, c1⟩, hb⟩
theorem sx5 (g1 g2 : Nat) (w : World) (h1 : Kd.C Kd.string w (some ⟨g1, 0, none⟩) 3 [⟨#[97]⟩, ⟨#[98]⟩, ⟨#[100]⟩]) (h2 : Kd.C Kd.string w (some ⟨g2, 0, none⟩) 3 [⟨#[98]⟩, ⟨#[99]⟩, ⟨#[100]⟩]) : Calls Tryd.prog 25 #[.slice (some ⟨g1, 0, none⟩) 3 3, .slice (some ⟨g2, 0, none⟩) 3 3] w fun e w' => (∃ A1 c1 A2 c2 A3 c3, e = .returned (.tuple #[.slice A1 1 c1, .slice A2 1 c2, .slice A3 2 c3])) ∧ Below w.heap.size w w' := by
  refine (comm_calls g1 g2 3 3 [⟨#[97]⟩, ⟨#[98]⟩, ⟨#[100]⟩] [⟨#[98]⟩, ⟨#[99]⟩, ⟨#[100]⟩] w h1 h2 (by decide) (by decide) (by decide) (by decide) (by decide)).mono ?_
  rw [s5]
  rintro e w' ⟨x1, x2, x3, rfl, o1, o2, o3, -, -, -, hb⟩
  obtain ⟨A1, c1, rfl⟩ := own_sliceN o1
  obtain ⟨A2, c2, rfl⟩ := own_sliceN o2
  obtain ⟨A3, c3, rfl⟩ := own_sliceN o3
  exact ⟨⟨A1, c1, A2, c2, A3, c3, rfl⟩, hb⟩
theorem check_calls (un nu fo bl re : Bool) (f t : Int) (c : UInt8) (A : Option Addr) (cap : Nat) (l : List ByteArray) (w : World) (h : Kd.C Kd.string w A l.length l) (hc : l.length ≤ cap) (hl : l.length ≤ 1000000) (hs : ∀ s ∈ l, s.size ≤ 1000000) :
    Calls Tryd.prog 21 #[ordV nu fo bl re f t c, .slice A l.length cap, .bool un] w fun e w' => e = .returned (.int .i64 (checkL un nu fo bl re f t c l)) ∧ Below w.heap.size w w' := by
  obtain ⟨k, hk⟩ := (prog_check un nu fo bl re f t (c.toNat : Int) ⟨by omega, by have := c.toNat_lt; omega⟩ l hs hl).at_
  rw [K.u8_of] at hk
  exact sorts_Check.calls k nu fo bl re f t (c.toNat : Int) A cap l un _ w h hc hk
theorem sx6 (A : Option Addr) (w : World) (h : Kd.C Kd.string w A 3 [⟨#[97]⟩, ⟨#[98]⟩, ⟨#[97]⟩]) : Calls Tryd.prog 21 #[.agg #[.bool false, .bool false, .bool false, .bool false, .int .i64 0, .int .i64 0, .int .u8 0], .slice A 3 3, .bool false] w fun e w' => e = .returned (.int .i64 2) ∧ Below w.heap.size w w' := by
  have hc := check_calls false false false false false 0 0 0 A 3 [⟨#[97]⟩, ⟨#[98]⟩, ⟨#[97]⟩] w h (by decide) (by decide) (by decide)
  rw [s6] at hc
  exact hc
set_option maxHeartbeats 4000000 in
set_option maxRecDepth 100000 in
theorem alive_calls (w : World) : Calls Tryd.prog 16 #[] w fun e w' => e = .returned (.bool true) ∧ Below w.heap.size w w' := by
  obtain ⟨k1, hk1⟩ := same_ev sortX (by decide)
  obtain ⟨k2, hk2⟩ := same_ev uniqX (by decide)
  have K1 := Lib.hid hk1
  have K2 := Lib.hid hk2
  clear hk1 hk2
  go_enter Tryd.func16, Tryd.ntmps16
  go_wp2_with fail
  refine (sx1 _ _ (C_strs w 9 tenX (by decide))).mono ?_
  rintro e w1 ⟨⟨A1, c1, rfl, hc1, hC1⟩, hb1⟩
  have B1 := Lib.hid (bth (bal (Below.refl _ _) _) hb1)
  have C1 := Lib.hid hC1
  clear hb1 hC1
  go_wp2_with fail
  refine (sx2 _ _ (C_strs w1 9 tenX (by decide))).mono ?_
  rintro e w2 ⟨⟨A2, c2, rfl, hc2, hC2⟩, hb2⟩
  have h2 := bth (bal (Below.refl w1.heap.size w1) _) hb2
  have B2 := Lib.hid (bth B1.out h2)
  have C1 := Lib.hid (Kd.C_below C1.out h2)
  have C2 := Lib.hid hC2
  clear hb2 hC2 h2
  go_wp2_with fail
  refine (sx3 _).mono ?_
  rintro e w3 ⟨rfl, hb3⟩
  have B3 := Lib.hid (bth B2.out hb3)
  have C1 := Lib.hid (Kd.C_below C1.out hb3)
  have C2 := Lib.hid (Kd.C_below C2.out hb3)
  clear hb3
  go_wp2_with fail
  refine (sx4 _ _ (C_strs w3 9 [⟨#[49, 32, 120]⟩, ⟨#[50, 32, 120]⟩, ⟨#[51, 32, 121]⟩] (by decide))).mono ?_
  rintro e w4 ⟨⟨g4, c4, rfl, hc4, hg4, r0, r1⟩, hb4⟩
  have h4 := bth (bal (Below.refl w3.heap.size w3) _) hb4
  have B4 := Lib.hid (bth B3.out h4)
  have C1 := Lib.hid (Kd.C_below C1.out h4)
  have C2 := Lib.hid (Kd.C_below C2.out h4)
  have R4 := Lib.hid (And.intro r0 r1)
  clear hb4 h4 r0 r1 hg4
  go_wp2_with fail
  have b5 := bal (bal (Below.refl w4.heap.size w4) (.cells #[.string ⟨#[97]⟩, .string ⟨#[98]⟩, .string ⟨#[100]⟩] 9)) (.cells #[.string ⟨#[98]⟩, .string ⟨#[99]⟩, .string ⟨#[100]⟩] 9)
  have j2 := C_strs (w4.alloc (.cells #[.string ⟨#[97]⟩, .string ⟨#[98]⟩, .string ⟨#[100]⟩] 9)) 9 [⟨#[98]⟩, ⟨#[99]⟩, ⟨#[100]⟩] (by decide)
  rw [World.size_alloc] at j2
  refine (sx5 _ _ _ (Kd.C_below (C_strs w4 9 [⟨#[97]⟩, ⟨#[98]⟩, ⟨#[100]⟩] (by decide)) (bal (Below.refl _ _) _)) j2).mono ?_
  rintro e w5 ⟨⟨X1, y1, X2, y2, X3, y3, rfl⟩, hb5⟩
  have h5 := bth b5 hb5
  have B5 := Lib.hid (bth B4.out h5)
  have C1 := Lib.hid (Kd.C_below C1.out h5)
  have C2 := Lib.hid (Kd.C_below C2.out h5)
  have R5 := Lib.hid (And.intro (pw_cell_below h5 R4.out.1) (pw_cell_below h5 R4.out.2))
  clear hb5 h5 b5 j2 R4
  go_wp2_with fail
  have b6 := bal (Below.refl w5.heap.size w5) (Obj.cells #[.string ⟨#[48, 57]⟩, .string ⟨#[57]⟩, .string ⟨#[57]⟩, .string ⟨#[49, 48]⟩] 9)
  refine (toolchestlaw01_SameTexts.calls k1 A1 c1 sortX (some ⟨w5.heap.size, 0, none⟩) 4 sortX true _ (Kd.C_below C1.out b6) hc1 (C_strs w5 9 sortX (by decide)) (by decide) K1.out).mono ?_
  first | (rintro e w6 rfl hb6) | (rintro e w6 ⟨rfl, hb6⟩)
  have h6 := bth b6 hb6.below
  have B6 := Lib.hid (bth B5.out h6)
  have C2 := Lib.hid (Kd.C_below C2.out h6)
  have R6 := Lib.hid (And.intro (pw_cell_below h6 R5.out.1) (pw_cell_below h6 R5.out.2))
  clear hb6 h6 b6 R5
  go_wp2_with fail
  have b7 := bal (Below.refl w6.heap.size w6) (Obj.cells #[.string ⟨#[57]⟩, .string ⟨#[49, 48]⟩] 9)
  refine (toolchestlaw01_SameTexts.calls k2 A2 c2 uniqX (some ⟨w6.heap.size, 0, none⟩) 2 uniqX true _ (Kd.C_below C2.out b7) hc2 (C_strs w6 9 uniqX (by decide)) (by decide) K2.out).mono ?_
  first | (rintro e w7 rfl hb7) | (rintro e w7 ⟨rfl, hb7⟩)
  have h7 := bth b7 hb7.below
  have B7 := Lib.hid (bth B6.out h7)
  have R7 := Lib.hid (And.intro (pw_cell_below h7 R6.out.1) (pw_cell_below h7 R6.out.2))
  clear hb7 h7 b7 R6
  go_wp2_with fail
  refine (sx6 _ _ (C_strs w7 9 [⟨#[97]⟩, ⟨#[98]⟩, ⟨#[97]⟩] (by decide))).mono ?_
  rintro e w8 ⟨rfl, hb8⟩
  have h8 := bth (bal (Below.refl w7.heap.size w7) _) hb8
  have B8 := Lib.hid (bth B7.out h8)
  have r0 := pw_cell_below h8 R7.out.1
  have r1 := pw_cell_below h8 R7.out.2
  clear hb8 h8 R7
  go_wp2
  go_ret
  exact ⟨rfl, B8.out⟩
end Go.Proofs.YtaekgfmcelckoaaDoor.P

end
section
/- What TextsSize and Beyond tell of a list of texts: over numbers alone (TextsSize alone). -/

set_option linter.unusedVariables false
set_option linter.unusedSimpArgs false
namespace Go.Proofs.YtaekgfmcelckoaaDoor.Q
open Go.RowKit Go.Proofs.YtaekgfmcelckoaaDoorW.PrintWords Go.Proofs.YtaekgfmcelckoaaDoorW.PrintLast

/-- How much texts have in them. -/
def textsN (l : List ByteArray) : Nat := l.length + (l.map (·.size)).sum

theorem textsSize_loop (l : List ByteArray) (hl : ∀ s ∈ l, s.size ≤ 140737488351232) (hn : l.length ≤ 140737488351232) (d : Nat) : ∀ (k i : Nat) (n : Int), i + d = l.length → d < k → 0 ≤ n → n ≤ 140737488351232 + 1048576 → (i = 0 → n = l.length) →
    ∃ r, toolchestlaw01_TextsSize.l0 k l n i = some r ∧ 0 ≤ r ∧ r ≤ 140737488351232 + 1048576 ∧ (r ≤ 1048576 → r = n + (((l.drop i).map (·.size)).sum : Nat)) := by
  induction d with
  | zero =>
    intro k i n hi hk h0 h1 h2
    obtain ⟨k, rfl⟩ : ∃ m, k = m + 1 := ⟨k - 1, by omega⟩
    refine ⟨n, ?_, h0, h1, fun _ => ?_⟩
    · simp only [toolchestlaw01_TextsSize.l0]; rw [if_neg (by omega)]
    · rw [List.drop_of_length_le (by omega)]; simp
  | succ d ih =>
    intro k i n hi hk h0 h1 h2
    obtain ⟨k, rfl⟩ : ∃ m, k = m + 1 := ⟨k - 1, by omega⟩
    simp only [toolchestlaw01_TextsSize.l0]
    rw [if_pos (by omega)]
    by_cases hc : n ≤ 1048576
    · rw [if_pos hc, if_pos (by omega)]
      have hlt : i < l.length := by omega
      have hs := hl l[i] (List.getElem_mem hlt)
      have e : rdOf ByteArray.empty l (i : Int) = l[i] := by simp [rdOf, List.getD_eq_getElem?_getD, List.getElem?_eq_getElem hlt]
      have w1 : wrap64 (n + (l[i].size : Int)) = n + l[i].size := by unfold wrap64; omega
      have w2 : wrap64 ((i : Int) + 1) = ((i + 1 : Nat) : Int) := by unfold wrap64; omega
      rw [e, w1, w2]
      obtain ⟨r, hr, r0, r1, r2⟩ := ih k (i + 1) (n + l[i].size) (by omega) (by omega) (by omega) (by omega) (by omega)
      refine ⟨r, hr, r0, r1, fun h => ?_⟩
      rw [r2 h, List.drop_eq_getElem_cons hlt, List.map_cons, List.sum_cons]
      omega
    · rw [if_neg hc]
      exact ⟨n, rfl, h0, h1, fun h => absurd h hc⟩

theorem textsSize_tells (l : List ByteArray) (hl : ∀ s ∈ l, s.size ≤ 140737488351232) (hn : l.length ≤ 140737488351232) :
    ∃ r, toolchestlaw01_TextsSize.f (l.length + 1) l = some r ∧ 0 ≤ r ∧ r ≤ 140737488351232 + 1048576 ∧ (r ≤ 1048576 → r = (textsN l : Int)) := by
  obtain ⟨r, hr, r0, r1, r2⟩ := textsSize_loop l hl hn l.length (l.length + 1) 0 l.length (by omega) (by omega) (by omega) (by omega) (by omega)
  exact ⟨r, hr, r0, r1, fun h => by rw [r2 h]; simp [textsN]⟩

end Go.Proofs.YtaekgfmcelckoaaDoor.Q

end
section
/- few: not too many lines to be held against one another. -/
set_option linter.unusedVariables false
set_option linter.unusedSimpArgs false
namespace Go.Proofs.YtaekgfmcelckoaaDoor.P
open Go.RowKit Go.Proofs Go.Proofs.YtaekgfmcelckoaaDoor.Q Go.Proofs.YtaekgfmcelckoaaDoor.H Go.Proofs.YtaekgfmcelckoaaDoor.K Go.Proofs.YtaekgfmcelckoaaDoor.S Go.Proofs.YtaekgfmcelckoaaDoorW.PrintWords Go.Proofs.YtaekgfmcelckoaaDoorW.PrintLast

/-- A list of lists of texts that is read. -/
def RowsAt (W : World) (A : Option Addr) (L : List (List ByteArray)) : Prop := ∀ i (h : i < L.length), ∃ ad Ai ci, A = some ad ∧ W.cell? (ad.add i) = some (.slice Ai L[i].length ci) ∧ L[i].length ≤ ci ∧ Kd.C Kd.string W Ai L[i].length L[i]
theorem RowsAt.below {W W' : World} {A : Option Addr} {L : List (List ByteArray)} (h : RowsAt W A L) (hb : Below W.heap.size W W') : RowsAt W' A L := fun i hi => by
  obtain ⟨ad, Ai, ci, e, h1, h2, h3⟩ := h i hi
  exact ⟨ad, Ai, ci, e, pw_cell_below hb h1, h2, Kd.C_below h3 hb⟩
theorem rows_one (W : World) (A : Option Addr) (l : List ByteArray) (z : Nat) (hc : l.length ≤ z) (h : Kd.C Kd.string W A l.length l) : RowsAt (W.alloc (.cells #[.slice A l.length z] 22)) (some ⟨W.heap.size, 0, none⟩) [l] := by
  have h3 := heap_alloc_new W (.cells #[.slice A l.length z] 22)
  intro i hi
  match i, hi with
  | 0, _ => exact ⟨_, _, z, rfl, by rw [add_plain, Lib.cell_of_heap h3]; rfl, hc, Kd.C_below h (bal (Below.refl _ _) _)⟩
  | i + 1, h => exact absurd h (by simp)
theorem rows_two (W : World) (A B : Option Addr) (l m : List ByteArray) (z y : Nat) (hc : l.length ≤ z) (hd : m.length ≤ y) (h : Kd.C Kd.string W A l.length l) (g : Kd.C Kd.string W B m.length m) : RowsAt (W.alloc (.cells #[.slice A l.length z, .slice B m.length y] 22)) (some ⟨W.heap.size, 0, none⟩) [l, m] := by
  have h3 := heap_alloc_new W (.cells #[.slice A l.length z, .slice B m.length y] 22)
  intro i hi
  match i, hi with
  | 0, _ => exact ⟨_, _, z, rfl, by rw [add_plain, Lib.cell_of_heap h3]; rfl, hc, Kd.C_below h (bal (Below.refl _ _) _)⟩
  | 1, _ => exact ⟨_, _, y, rfl, by rw [add_plain, Lib.cell_of_heap h3]; rfl, hd, Kd.C_below g (bal (Below.refl _ _) _)⟩
  | i + 2, h => exact absurd h (by simp)
/-- What few's yes says. -/
structure FewP (L : List (List ByteArray)) : Prop where
  each : ∀ x ∈ L, x.length ≤ 300 ∧ textsN x ≤ 20000
  all : (L.map List.length).sum ≤ 300
theorem sum_take (L : List (List ByteArray)) (k : Nat) (h : k < L.length) : ((L.take (k + 1)).map List.length).sum = ((L.take k).map List.length).sum + L[k].length := by
  rw [List.take_succ_eq_append_getElem h, List.map_append, List.sum_append]; simp
set_option maxHeartbeats 4000000 in
set_option maxRecDepth 100000 in
theorem few_calls (A : Option Addr) (c : Nat) (L : List (List ByteArray)) (w : World) (hr : RowsAt w A L) (hc : L.length ≤ c) (hL : L.length ≤ 1000) (ok : ∀ x ∈ L, (∀ a ∈ x, a.size ≤ 140737488351232) ∧ x.length * 16 ≤ 140737488351232) :
    Calls Tryd.prog 17 #[.slice A L.length c] w fun e w' => (∃ r, e = .returned (.bool r) ∧ (r = true → FewP L)) ∧ Below w.heap.size w w' := by
  have HR := Lib.hid hr
  have HOK := Lib.hid ok
  clear hr ok
  go_enter Tryd.func17, Tryd.ntmps17
  go_wp2
  go_loopw [3, 4] (fun n i wr => ∃ (k m : Nat), k ≤ L.length ∧ i = .int .i64 (k : Int) ∧ n = .int .i64 (m : Int) ∧ m ≤ 300 * k ∧ Hid (m = ((L.take k).map List.length).sum ∧ (∀ x ∈ L.take k, x.length ≤ 300 ∧ textsN x ≤ 20000) ∧ Below w.heap.size w wr)) (fun _ i _ => L.length - (intOf i).toNat)
  case atStart => exact ⟨0, 0, Nat.zero_le _, rfl, rfl, Nat.zero_le _, Lib.hid ⟨rfl, fun x hx => by simp at hx, Below.refl _ _⟩⟩
  case round =>
    obtain ⟨k, m, hk, rfl, rfl, hm, hst⟩ := hrel
    by_cases hlt : k < L.length
    · obtain ⟨ad, Ai, ci, rfl, hx, hci, hC⟩ := HR.out.below hst.out.2.2 k hlt
      have hok := HOK.out L[k] (List.getElem_mem hlt)
      have hst2 := sum_take L k hlt
      have htk := List.take_succ_eq_append_getElem hlt
      obtain ⟨x, hxe⟩ : ∃ x, L[k] = x := ⟨_, rfl⟩
      rw [hxe] at hx hci hC hok hst2 htk
      obtain ⟨n, hn, n0, n1, n2⟩ := textsSize_tells x hok.1 (by omega)
      have HTS := Lib.hid (And.intro hn (And.intro n2 (And.intro hst2 htk)))
      have HCC := Lib.hid hC
      clear hxe hn n2 hst2 htk hC
      by_cases h300 : 300 < x.length
      · have d1 : decide ((300 : Int) < (x.length : Int)) = true := decide_eq_true (by omega)
        go_wp2
        go_ret
        exact ⟨⟨_, rfl, fun h => by cases h⟩, hst.out.2.2⟩
      · have d1 : decide ((300 : Int) < (x.length : Int)) = false := decide_eq_false (by omega)
        by_cases h20 : 20000 < n
        · have d2 : decide ((20000 : Int) < n) = true := decide_eq_true h20
          go_wp2_with fail
          with_reducible refine (toolchestlaw01_TextsSize.calls (x.length + 1) Ai ci x n _ HCC.out hci HTS.out.1).mono ?_
          first | (rintro e w2 rfl hb2) | (rintro e w2 ⟨rfl, hb2⟩)
          have B2 := Lib.hid (bth hst.out.2.2 hb2.below)
          clear hb2
          go_wp2
          go_ret
          exact ⟨⟨_, rfl, fun h => by cases h⟩, B2.out⟩
        · have d2 : decide ((20000 : Int) < n) = false := decide_eq_false h20
          have hx2 := pw_cell_below (Below.refl wr.heap.size wr) hx
          go_wp2_with fail
          with_reducible refine (toolchestlaw01_TextsSize.calls (x.length + 1) Ai ci x n _ HCC.out hci HTS.out.1).mono ?_
          first | (rintro e w2 rfl hb2) | (rintro e w2 ⟨rfl, hb2⟩)
          have B2 := Lib.hid (bth hst.out.2.2 hb2.below)
          have hx3 := pw_cell_below hb2.below hx
          have hxl : x.length ≤ 300 := by omega
          have hN := Lib.hid (show m + x.length = ((L.take (k + 1)).map List.length).sum ∧ (∀ y ∈ L.take (k + 1), y.length ≤ 300 ∧ textsN y ≤ 20000) from ⟨by rw [HTS.out.2.2.1, ← hst.out.1], fun y hy => by
            rw [HTS.out.2.2.2] at hy
            rcases List.mem_append.1 hy with h | h
            · exact hst.out.2.1 y h
            · rw [List.mem_singleton.1 h]
              have := HTS.out.2.1 (by omega)
              exact ⟨hxl, by omega⟩⟩)
          clear hb2 hx hx2
          go_wp2
          go_roundw
          case rel => exact ⟨k + 1, m + x.length, hlt, by go_num, by go_num, by omega, Lib.hid ⟨hN.out.1, hN.out.2, B2.out⟩⟩
          case measure => simp [intOf]; omega
    · obtain rfl : k = L.length := by omega
      have HE := Lib.hid (show decide ((m : Int) ≤ 300) = true → FewP L from fun h => by
        have h := of_decide_eq_true h
        have h1 := hst.out.1
        have h2 := hst.out.2.1
        rw [List.take_length] at h1 h2
        exact ⟨h2, by omega⟩)
      go_wp2
      go_ret
      exact ⟨⟨_, rfl, HE.out⟩, hst.out.2.2⟩
end Go.Proofs.YtaekgfmcelckoaaDoor.P

end

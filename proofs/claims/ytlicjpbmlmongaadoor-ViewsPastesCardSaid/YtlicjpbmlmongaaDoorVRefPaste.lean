/- The reference's Paste, over numbers alone: the documented lines; and what RowsSize tells. -/
import Derived.Test.YtlicjpbmlmongaaDoorQx1
import Derived.Test.YtlicjpbmlmongaaDoorQx2
import Derived.Test.YtlicjpbmlmongaaDoorEvs
import Derived.Test.YtlicjpbmlmongaaDoorSizes1
import Derived.Test.YtlicjpbmlmongaaDoorVPaste
set_option linter.unusedVariables false
set_option linter.unusedSimpArgs false
namespace Go.Proofs.YtlicjpbmlmongaaDoor.P
open Go.RowKit Go.Proofs.YtlicjpbmlmongaaDoor.Q Go.Proofs.YtlicjpbmlmongaaDoor.C Go.Proofs.YtlicjpbmlmongaaDoorW.PrintWords Go.Proofs.YtlicjpbmlmongaaDoorW.PrintLast Go.Proofs.YtlicjpbmlmongaaDoorW.PrintMore

def num8 (l : List UInt8) : List Int := l.map fun b => (b.toNat : Int)
theorem str_num8 (l : List UInt8) : strOfNums (num8 l) = ⟨l.toArray⟩ := by
  unfold strOfNums num8
  rw [List.map_map]
  congr 2
  conv => rhs; rw [← List.map_id l]
  apply List.map_congr_left
  intro b _
  simp
theorem num8_app (a b : List UInt8) : num8 (a ++ b) = num8 a ++ num8 b := by simp [num8]
theorem num8_len (a : List UInt8) : (num8 a).length = a.length := by simp [num8]
theorem bytes_num8 (x : ByteArray) : bytesOf x = num8 x.data.toList := rfl
theorem rd_at (L : List (List ByteArray)) (i : Nat) (h : i < L.length) : rd_L1 L (i : Int) = L[i] := by simp [rd_L1, rdOf, List.getD_eq_getElem?_getD, List.getElem?_eq_getElem h]
theorem max_nat (a b : Nat) : mx (a : Int) (b : Int) = ((max a b : Nat) : Int) := by unfold mx; split <;> omega
theorem pair_L (L : List (List ByteArray)) (n i : Nat) (h : i < L.length) : (colL L n)[i]'(by simpa [colL] using h) = L[i].getD n ⟨#[]⟩ := by simp [colL]
/-- One line of the reference. -/
theorem refLine (L : List (List ByteArray)) (seps : ByteArray) (M : Int) (x7 : List ByteArray) (n : Nat) (R : List ByteArray) (hl : L.length ≤ 1000000) (hx : x7.length ≤ 4000000) (hn : n ≤ 4000000) (htot : (sideL seps.data.toList (colL L n)).length ≤ 140737488355327) (hsp : seps.size ≤ 140737488351232)
    (h1 : Ev (fun k => toolchestref08_Paste.l1 k L seps M (x7 ++ [pasteB seps.data.toList L n]) ((n + 1 : Nat) : Int)) R) :
    ∀ (d i : Nat) (O : List UInt8), i + d = L.length → O ++ sideF seps.data.toList i ((colL L n).drop i) = sideL seps.data.toList (colL L n) → Ev (fun k => toolchestref08_Paste.l2 k L seps M x7 (n : Int) (num8 O) (i : Int)) R := by
  have hcl : (colL L n).length = L.length := by simp [colL]
  intro d
  induction d with
  | zero =>
    intro i O hi hO
    obtain rfl : i = L.length := by omega
    have hOe : O = sideL seps.data.toList (colL L n) := by
      rw [← hcl, List.drop_eq_nil_of_le (Nat.le_refl _)] at hO
      rw [← hO]; simp [sideF]
    refine h1.step fun k hk => ?_
    simp only [toolchestref08_Paste.l2]
    rw [if_neg (not_nat_lt (Nat.lt_irrefl _)), if_pos (by omega), str_num8, wrap_one n (by omega), hOe]
    exact hk
  | succ d ih =>
    intro i O hi hO
    have hlt : i < L.length := by omega
    rw [side_step _ _ i (by omega), pair_L L n i hlt] at hO
    have hw := wrap_one i (by omega)
    have hlen := congrArg List.length hO
    simp only [List.length_append] at hlen
    have hss : seps.data.toList.length = seps.size := (Lib.size_eq seps).symm
    -- the text itself, behind whatever stands ahead of it
    have key : ∀ (O1 : List UInt8), O1 = O ++ sepB seps.data.toList i → ∀ k, toolchestref08_Paste.l2 k L seps M x7 (n : Int) (num8 (O1 ++ (L[i].getD n ⟨#[]⟩).data.toList)) ((i + 1 : Nat) : Int) = some R →
        (if 0 ≤ (i : Int) then (if (i : Int) < (L.length : Int) then (if (n : Int) < ((rd_L1 L i).length : Int) then (if 0 ≤ (n : Int) then (if (num8 O1).length + (rdOf ByteArray.empty (rd_L1 L i) n).size < 140737488355328 then (toolchestref08_Paste.l2 k L seps M x7 n (num8 O1 ++ bytesOf (rdOf ByteArray.empty (rd_L1 L i) n)) (wrap64 ((i : Int) + 1))) else (none)) else (none)) else (toolchestref08_Paste.l2 k L seps M x7 n (num8 O1) (wrap64 ((i : Int) + 1)))) else (none)) else (none)) = some R := by
      intro O1 hO1 k hk
      rw [if_pos (nat_nn i), if_pos (nat_lt hlt), rd_at L i hlt, hw]
      by_cases hx2 : n < L[i].length
      · have hg : L[i].getD n ⟨#[]⟩ = L[i][n] := by rw [List.getD_eq_getElem?_getD, List.getElem?_eq_getElem hx2]; rfl
        rw [hg] at hk hlen
        rw [if_pos (nat_lt hx2), if_pos (nat_nn n), rdOf_at _ n hx2, if_pos (by rw [num8_len, hO1, List.length_append, Lib.size_eq]; omega), bytes_num8, ← num8_app]
        exact hk
      · have hg : L[i].getD n ⟨#[]⟩ = ⟨#[]⟩ := by rw [List.getD_eq_getElem?_getD, List.getElem?_eq_none (by omega)]; rfl
        rw [hg] at hk
        rw [if_neg (not_nat_lt hx2)]
        have e : O1 ++ (⟨#[]⟩ : ByteArray).data.toList = O1 := by simp
        rw [e] at hk
        exact hk
    by_cases h0 : 0 < i
    · by_cases hse : seps.size = 0
      · have hnil : seps.data.toList = [] := List.eq_nil_of_length_eq_zero (by omega)
        have hsep : sepB seps.data.toList i = [] := by unfold sepB; rw [if_neg (by simp [hnil])]
        have ih1 := ih (i + 1) (O ++ (L[i].getD n ⟨#[]⟩).data.toList) (by omega) (by rw [← hO, hsep]; simp)
        refine ih1.step2 fun k hk => ?_
        simp only [toolchestref08_Paste.l2]
        rw [if_pos (nat_lt hlt), if_pos (by omega)]
        simp only [toolchestref08_Paste.j3]
        rw [if_neg (by rw [decide_eq_true_iff]; omega)]
        exact key O (by rw [hsep, List.append_nil]) k hk
      · obtain ⟨r, hr⟩ : ∃ r, (i - 1) % seps.size = r := ⟨_, rfl⟩
        have hrl : r < seps.size := by rw [← hr]; exact Nat.mod_lt _ (by omega)
        have hrl' : r < seps.data.toList.length := by omega
        have hne : seps.data.toList ≠ [] := by intro e; rw [e] at hss; simp at hss; omega
        have hsep : sepB seps.data.toList i = [seps.data.toList[r]] := by
          unfold sepB
          rw [if_pos ⟨h0, hne⟩, hss, hr, List.getD_eq_getElem?_getD, List.getElem?_eq_getElem hrl']; rfl
        have hmod : Int.tmod (wrap64 ((i : Int) - 1)) (seps.size : Int) = (r : Int) := by
          have : wrap64 ((i : Int) - 1) = ((i - 1 : Nat) : Int) := by unfold wrap64; omega
          rw [this, ← hr]
          rfl
        have ih1 := ih (i + 1) (O ++ [seps.data.toList[r]] ++ (L[i].getD n ⟨#[]⟩).data.toList) (by omega) (by rw [← hO, hsep]; simp only [List.append_assoc])
        refine ih1.step2 fun k hk => ?_
        simp only [toolchestref08_Paste.l2]
        rw [if_pos (nat_lt hlt), if_pos (by omega)]
        simp only [toolchestref08_Paste.j3]
        rw [if_pos (by rw [decide_eq_true_iff]; omega), if_neg (by omega), hmod, if_pos (nat_nn r), if_pos (nat_lt hrl), if_pos (by rw [num8_len]; rw [hsep] at hlen; simp at hlen; omega), Option.bind_some, bt_list seps r hrl']
        have e : num8 O ++ [((seps.data.toList[r]).toNat : Int)] = num8 (O ++ [seps.data.toList[r]]) := by simp [num8]
        rw [e]
        exact key _ (by rw [hsep]) k hk
    · have hsep : sepB seps.data.toList i = [] := by unfold sepB; rw [if_neg (by omega)]
      have ih1 := ih (i + 1) (O ++ (L[i].getD n ⟨#[]⟩).data.toList) (by omega) (by rw [← hO, hsep]; simp)
      refine ih1.step2 fun k hk => ?_
      simp only [toolchestref08_Paste.l2]
      rw [if_pos (nat_lt hlt), if_neg (by omega)]
      simp only [toolchestref08_Paste.j3]
      rw [if_neg (by simp)]
      exact key O (by rw [hsep, List.append_nil]) k hk
theorem refLines (L : List (List ByteArray)) (seps : ByteArray) (M : Nat) (hl : L.length ≤ 1000000) (hM : M ≤ 4000000) (htot : ∀ n, (sideL seps.data.toList (colL L n)).length ≤ 140737488355327) (hsp : seps.size ≤ 140737488351232) :
    ∀ (d n : Nat), n + d = M → Ev (fun k => toolchestref08_Paste.l1 k L seps (M : Int) ((List.range n).map (pasteB seps.data.toList L)) (n : Int)) ((List.range M).map (pasteB seps.data.toList L)) := by
  intro d
  induction d with
  | zero =>
    intro n hn
    obtain rfl : n = M := by omega
    refine Ev.now fun k => ?_
    simp only [toolchestref08_Paste.l1]
    rw [if_neg (not_nat_lt (Nat.lt_irrefl _))]
  | succ d ih =>
    intro n hn
    have h1 := ih (n + 1) (by omega)
    rw [List.range_succ, List.map_append] at h1
    have h2 := refLine L seps (M : Int) ((List.range n).map (pasteB seps.data.toList L)) n _ hl (by simp; omega) (by omega) (htot n) hsp h1 L.length 0 [] (by omega) rfl
    refine h2.step fun k hk => ?_
    simp only [toolchestref08_Paste.l1]
    rw [if_pos (nat_lt (by omega))]
    exact hk
theorem refMost (L : List (List ByteArray)) (seps : ByteArray) (R : List ByteArray) (hl : L.length ≤ 1000000) :
    ∀ (d i m : Nat), i + d = L.length → Ev (fun k => toolchestref08_Paste.l1 k L seps ((((L.drop i).map List.length).foldl max m : Nat) : Int) [] 0) R → Ev (fun k => toolchestref08_Paste.l0 k L seps (m : Int) (i : Int)) R := by
  intro d
  induction d with
  | zero =>
    intro i m hi h
    rw [List.drop_eq_nil_of_le (by omega)] at h
    refine h.step fun k hk => ?_
    simp only [toolchestref08_Paste.l0]
    rw [if_neg (not_nat_lt (by omega))]
    exact hk
  | succ d ih =>
    intro i m hi h
    have hlt : i < L.length := by omega
    rw [List.drop_eq_getElem_cons hlt, List.map_cons, List.foldl_cons] at h
    refine (ih (i + 1) _ (by omega) h).step fun k hk => ?_
    simp only [toolchestref08_Paste.l0]
    rw [if_pos (nat_lt hlt), if_pos (nat_nn i), rd_at L i hlt, max_nat, wrap_one i (by omega)]
    exact hk
theorem refPaste (L : List (List ByteArray)) (seps : ByteArray) (hl : L.length ≤ 1000000) (hM : mostL L ≤ 4000000) (htot : ∀ n, (sideL seps.data.toList (colL L n)).length ≤ 140737488355327) (hsp : seps.size ≤ 140737488351232) :
    Ev (fun k => toolchestref08_Paste.f k L seps) (pasteL seps.data.toList L) :=
  refMost L seps _ hl L.length 0 0 (by omega) (refLines L seps (mostL L) hl hM htot hsp (mostL L) 0 (by omega))
theorem textsSize_any (l : List ByteArray) (hl : ∀ s ∈ l, s.size ≤ 140737488351232) (hn : l.length ≤ 140737488351232) :
    ∃ r, (∀ k, l.length < k → toolchestlaw01_TextsSize.f k l = some r) ∧ 0 ≤ r ∧ r ≤ 140737488351232 + 1048576 ∧ (r ≤ 1048576 → r = (textsN l : Int)) := by
  obtain ⟨r, hr, r0, r1, r2⟩ := textsSize_loop l hl hn l.length (l.length + 1) 0 l.length (by omega) (by omega) (by omega) (by omega) (by omega)
  refine ⟨r, fun k hk => ?_, r0, r1, fun h => by rw [r2 h]; simp [textsN]⟩
  obtain ⟨r', hr', q0, q1, q2⟩ := textsSize_loop l hl hn l.length k 0 l.length (by omega) hk (by omega) (by omega) (by omega)
  have hm : ∀ e, toolchestlaw01_TextsSize.f (l.length + 1 + e) l = some r := by
    intro e
    induction e with
    | zero => exact hr
    | succ e ih => exact toolchestlaw01_TextsSize.mono l (l.length + 1 + e) r ih
  have := hm (k - (l.length + 1))
  rw [show l.length + 1 + (k - (l.length + 1)) = k by omega] at this
  exact this
theorem rowsSize_loop (L : List (List ByteArray)) (hl : ∀ x ∈ L, x.length ≤ 140737488351232 ∧ ∀ s ∈ x, s.size ≤ 140737488351232) (hn : L.length ≤ 1000000) : ∀ (d i : Nat) (n : Int), i + d = L.length → 0 ≤ n → n ≤ 200000000000000 →
    ∃ r, Ev (fun k => toolchestlaw01_RowsSize.l0 k L n (i : Int)) r ∧ n ≤ r ∧ r ≤ 200000000000000 ∧ (r ≤ 1000000 → ∀ j (h : j < L.length), i ≤ j → (textsN L[j] : Int) ≤ r) := by
  intro d
  induction d with
  | zero =>
    intro i n hi h0 h1
    refine ⟨n, Ev.now fun k => ?_, Int.le_refl _, h1, fun _ j h hj => by omega⟩
    simp only [toolchestlaw01_RowsSize.l0]
    rw [if_neg (not_nat_lt (by omega))]
  | succ d ih =>
    intro i n hi h0 h1
    have hlt : i < L.length := by omega
    by_cases hc : n ≤ 1000000
    · obtain ⟨hx1, hx2⟩ := hl L[i] (List.getElem_mem hlt)
      obtain ⟨t, ht, t0, t1, t2⟩ := textsSize_any L[i] hx2 hx1
      obtain ⟨r, ⟨k0, hr⟩, r0, rm, r2⟩ := ih (i + 1) (n + t) (by omega) (by omega) (by omega)
      have hw : wrap64 (n + t) = n + t := by unfold wrap64; omega
      refine ⟨r, ?_, by omega, rm, fun h j hj hij => ?_⟩
      · have : Ev (fun k => (toolchestlaw01_TextsSize.f k L[i]).bind fun t => toolchestlaw01_RowsSize.l0 k L (wrap64 (n + t)) ((i + 1 : Nat) : Int)) r := ⟨max k0 (L[i].length + 1), fun k hk => by
          show ((toolchestlaw01_TextsSize.f k L[i]).bind fun t => toolchestlaw01_RowsSize.l0 k L (wrap64 (n + t)) ((i + 1 : Nat) : Int)) = some r
          rw [ht k (by omega), Option.bind_some, hw]
          exact hr k (by omega)⟩
        refine this.step fun k hk => ?_
        simp only [toolchestlaw01_RowsSize.l0]
        rw [if_pos (nat_lt hlt), if_pos hc, if_pos (nat_nn i), rd_at L i hlt, wrap_one i (by omega)]
        exact hk
      · by_cases hji : j = i
        · subst hji
          have := t2 (by omega)
          omega
        · exact r2 h j hj (by omega)
    · refine ⟨n, Ev.now fun k => ?_, Int.le_refl _, h1, fun h => absurd h hc⟩
      simp only [toolchestlaw01_RowsSize.l0]
      rw [if_pos (nat_lt hlt), if_neg hc]
theorem rowsSize_tells (L : List (List ByteArray)) (hl : ∀ x ∈ L, x.length ≤ 140737488351232 ∧ ∀ s ∈ x, s.size ≤ 140737488351232) (hn : L.length ≤ 1000000) :
    ∃ k r, toolchestlaw01_RowsSize.f k L = some r ∧ (r ≤ 1000000 → ∀ x ∈ L, (textsN x : Int) ≤ r) := by
  obtain ⟨r, hr, r0, rm, r2⟩ := rowsSize_loop L hl hn L.length 0 (L.length : Int) (by omega) (by omega) (by omega)
  obtain ⟨k, hk⟩ := hr.at_
  refine ⟨k, r, hk, fun h x hx => ?_⟩
  obtain ⟨j, hj, rfl⟩ := List.mem_iff_getElem.1 hx
  exact r2 h j hj (Nat.zero_le _)
end Go.Proofs.YtlicjpbmlmongaaDoor.P

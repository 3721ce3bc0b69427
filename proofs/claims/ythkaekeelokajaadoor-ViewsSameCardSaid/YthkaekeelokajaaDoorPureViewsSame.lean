/- ViewsSame: two texts are the same just if nothing is told; told the other way about it is the same place, and the other end: the walk of the law. -/
import Derived.Test.YthkaekeelokajaaDoorVAlive
import Derived.Laws.IdiomStrings
import Derived.Deep.QuietTactic
import Derived.BigQuiet
import Derived.IntWalk
set_option linter.unusedVariables false
set_option linter.unusedSimpArgs false
namespace Go.Proofs.YthkaekeelokajaaDoor.P
open Go.RowKit Go.Proofs Go.Proofs.YthkaekeelokajaaDoor.Q Go.Proofs.YthkaekeelokajaaDoor.H Go.Proofs.YthkaekeelokajaaDoor.C Go.Proofs.YthkaekeelokajaaDoor.S Go.Proofs.YthkaekeelokajaaDoorW.PrintWords Go.Proofs.YthkaekeelokajaaDoorW.PrintLast

theorem beyondTwo (n m : Nat) (h1 : n ≤ 4611686018427387) (h2 : m ≤ 4611686018427387) : Ev (fun k => toolchestlaw01_Beyond.f k [(n : Int), (m : Int)]) (decide (n + m > 1048576)) := by
  have w1 : wrap64 (n : Int) = n := by unfold wrap64; omega
  have w2 : wrap64 1 = 1 := by unfold wrap64; omega
  have w3 : wrap64 ((n : Int) + m) = n + m := by unfold wrap64; omega
  have w4 : wrap64 2 = 2 := by unfold wrap64; omega
  refine ⟨3, fun k hk => ?_⟩
  obtain ⟨j, rfl⟩ : ∃ j, k = j + 1 + 1 + 1 := ⟨k - 3, by omega⟩
  simp [toolchestlaw01_Beyond.f, toolchestlaw01_Beyond.l0, rd, w1, w2, w3, w4]
  by_cases h : 1048576 < n
  · rw [if_pos (by omega)]; simp; omega
  · rw [if_neg (by omega)]
    by_cases h2 : 1048576 < n + m
    · rw [if_pos (by omega)]; simp [h2]
    · rw [if_neg (by omega)]; simp [h2]
theorem cpl_comm : ∀ a b : List UInt8, cplL a b = cplL b a
  | [], [] => rfl
  | [], _ :: _ => rfl
  | _ :: _, [] => rfl
  | x :: a, y :: b => by
    simp only [cplL]
    by_cases h : x = y
    · subst h; rw [if_pos rfl, if_pos rfl, cpl_comm a b]
    · rw [if_neg h, if_neg (fun e => h e.symm)]
theorem cpl_take : ∀ a b : List UInt8, a.take (cplL a b) = b.take (cplL a b)
  | [], [] => rfl
  | [], _ :: _ => by simp [cplL]
  | _ :: _, [] => by simp [cplL]
  | x :: a, y :: b => by
    simp only [cplL]
    by_cases h : x = y
    · subst h; rw [if_pos rfl, List.take_succ_cons, List.take_succ_cons, cpl_take a b]
    · rw [if_neg h, List.take_zero, List.take_zero]
theorem cpl_at : ∀ a b : List UInt8, cplL a b < min a.length b.length → a[cplL a b]? ≠ b[cplL a b]?
  | [], _, h => by simp at h
  | _ :: _, [], h => by simp at h
  | x :: a, y :: b, h => by
    simp only [cplL] at h ⊢
    by_cases e : x = y
    · rw [if_pos e] at h ⊢
      rw [List.getElem?_cons_succ, List.getElem?_cons_succ]
      refine cpl_at a b ?_
      simp only [List.length_cons] at h
      omega
    · rw [if_neg e]
      simpa using e
theorem ba_take (a b : ByteArray) (p : Nat) (h : a.data.toList.take p = b.data.toList.take p) : a.extract 0 p = b.extract 0 p := by
  have e : ∀ s : ByteArray, (s.extract 0 p).data.toList = s.data.toList.take p := fun s => by rw [← Lib.toList_data, Lib.extract_toList]; simp
  apply ByteArray.ext
  apply Array.ext'
  rw [e a, e b, h]
theorem count_pre (a : ByteArray) (p : Nat) : Lib.countByte (a.extract 0 p).data.toList 10 = (a.data.toList.take p).count 10 := by
  have e : ∀ s : ByteArray, (s.extract 0 p).data.toList = s.data.toList.take p := fun s => by rw [← Lib.toList_data, Lib.extract_toList]; simp
  rw [e]; rfl
/-- Two texts that are not the same within both. -/
theorem cmp_apart (a b : ByteArray) (h : cplL a.data.toList b.data.toList < min a.size b.size) : ∃ p c : Nat, p < a.size ∧ p < b.size ∧ c ≤ p ∧ cmpL a.data.toList b.data.toList = (p + 1, c + 1, 0) ∧ cmpL b.data.toList a.data.toList = (p + 1, c + 1, 0) ∧ a.extract 0 p = b.extract 0 p ∧ (∀ (h1 : p < a.size) (h2 : p < b.size), a[p] ≠ b[p]) ∧ ((Lib.countByte (a.extract 0 p).data.toList 10 : Nat) : Int) = (c : Int) ∧ a ≠ b := by
  have hla : a.data.toList.length = a.size := (Lib.size_eq a).symm
  have hlb : b.data.toList.length = b.size := (Lib.size_eq b).symm
  have ht := cpl_take a.data.toList b.data.toList
  have hn := cpl_at a.data.toList b.data.toList (by rw [hla, hlb]; exact h)
  have hcc : ∀ p, cplL a.data.toList b.data.toList = p → (a.data.toList.take p).count 10 ≤ p := fun p _ => by
    have := List.count_le_length (a := (10 : UInt8)) (l := a.data.toList.take p)
    rw [List.length_take] at this; omega
  have e1 : cmpL a.data.toList b.data.toList = (cplL a.data.toList b.data.toList + 1, (a.data.toList.take (cplL a.data.toList b.data.toList)).count 10 + 1, 0) := by unfold cmpL; rw [if_pos (by rw [hla, hlb]; exact h)]
  have e2 : cmpL b.data.toList a.data.toList = (cplL a.data.toList b.data.toList + 1, (a.data.toList.take (cplL a.data.toList b.data.toList)).count 10 + 1, 0) := by unfold cmpL; rw [cpl_comm b.data.toList a.data.toList, if_pos (by rw [hla, hlb]; omega), ht]
  refine ⟨cplL a.data.toList b.data.toList, (a.data.toList.take (cplL a.data.toList b.data.toList)).count 10, by omega, by omega, hcc _ rfl, e1, e2, ba_take a b _ ht, fun h1 h2 e => hn ?_, by rw [count_pre], fun e => hn ?_⟩
  · rw [List.getElem?_eq_getElem (by rw [hla]; exact h1), List.getElem?_eq_getElem (by rw [hlb]; exact h2)]
    exact congrArg some e
  · rw [e]
/-- Two texts of which one begins with the other. -/
theorem cmp_begin (a b : ByteArray) (h : ¬ cplL a.data.toList b.data.toList < min a.size b.size) : cmpL a.data.toList b.data.toList = (0, 0, if a.size < b.size then 1 else if b.size < a.size then 2 else 0) ∧ cmpL b.data.toList a.data.toList = (0, 0, if b.size < a.size then 1 else if a.size < b.size then 2 else 0) ∧ a.extract 0 (min a.size b.size) = b.extract 0 (min a.size b.size) := by
  have hla : a.data.toList.length = a.size := (Lib.size_eq a).symm
  have hlb : b.data.toList.length = b.size := (Lib.size_eq b).symm
  have ht := cpl_take a.data.toList b.data.toList
  have hle := cpl_le a.data.toList b.data.toList
  rw [hla, hlb] at hle
  rw [show cplL a.data.toList b.data.toList = min a.size b.size by omega] at ht
  refine ⟨?_, ?_, ba_take a b _ ht⟩
  · unfold cmpL
    rw [if_neg (by rw [hla, hlb]; exact h), hla, hlb]
    split
    · rfl
    · split <;> rfl
  · unfold cmpL
    rw [cpl_comm b.data.toList a.data.toList, if_neg (by rw [hla, hlb]; omega), hla, hlb]
    split
    · rfl
    · split <;> rfl
theorem ba_whole (a b : ByteArray) (h : a.size = b.size) (e : a.extract 0 (min a.size b.size) = b.extract 0 (min a.size b.size)) : a = b := by
  rw [h, Nat.min_self] at e
  rw [show a.extract 0 b.size = a by rw [← h]; exact ByteArray.extract_zero_size, ByteArray.extract_zero_size] at e
  exact e
set_option maxHeartbeats 4000000 in
set_option maxRecDepth 100000 in
theorem ViewsSame_walk (a0 : ByteArray) (a1 : ByteArray) (W : World) (hT : TzW W) (ok0 : a0.size ≤ 140737488351232) (ok1 : a1.size ≤ 140737488351232) :
    Calls Tryd.prog 11 #[.string a0, .string a1] W fun e W' => e = .returned (.bool true) ∧ Below W.heap.size W W' := by
  obtain ⟨kb, hkb⟩ := (beyondTwo a0.size a1.size (by omega) (by omega)).at_
  have KB := Lib.hid hkb
  have HT := Lib.hid hT
  clear hkb hT
  have HAL := Lib.hid (fun w h => alive_calls w h)
  by_cases hbig : a0.size + a1.size > 1048576
  · rw [decide_eq_true hbig] at KB
    clear hbig
    go_enter Tryd.func11, Tryd.ntmps11
    go_wp2_with fail
    refine (HAL.out _ HT.out).mono ?_
    rintro e w1 ⟨rfl, hb1⟩
    have B1 := Lib.hid hb1
    clear hb1
    go_wp2_with fail
    refine (toolchestlaw01_Beyond.calls kb (some ⟨w1.heap.size, 0, none⟩) 2 [(a0.size : Int), (a1.size : Int)] true _ (C_ints w1 .i64 3 [(a0.size : Int), (a1.size : Int)] (by simp)) (Nat.le_refl _) KB.out).mono ?_
    first | (rintro e w2 rfl hb2) | (rintro e w2 ⟨rfl, hb2⟩)
    have B2 := Lib.hid (bth B1.out (bth (bal (Below.refl _ _) _) hb2.below))
    clear hb2
    go_wp2_with fail
    refine (HAL.out _ (HT.out.below B2.out)).mono ?_
    rintro e w3 ⟨rfl, hb3⟩
    go_wp2
    go_ret
    exact ⟨rfl, bth B2.out hb3⟩
  · rw [decide_eq_false hbig] at KB
    have hs0 : a0.size ≤ 1048576 := by omega
    have hs1 : a1.size ≤ 1048576 := by omega
    have HX := Lib.hid (fun w => cmp_calls a0 a1 (by omega) (by omega) w)
    have HY := Lib.hid (fun w => cmp_calls a1 a0 (by omega) (by omega) w)
    clear hbig
    by_cases hap : cplL a0.data.toList a1.data.toList < min a0.size a1.size
    · obtain ⟨p, c, hp0, hp1, hcp, e1, e2, htk, hne, hcn, hab⟩ := cmp_apart a0 a1 hap
      rw [e1] at HX
      rw [e2] at HY
      have HCN := Lib.hid (And.intro hcn hne)
      have HAB := Lib.hid hab
      have HTK := Lib.hid htk
      clear hap e1 e2 hcn hab htk hne
      go_enter Tryd.func11, Tryd.ntmps11
      go_wp2_with fail
      refine (HAL.out _ HT.out).mono ?_
      rintro e w1 ⟨rfl, hb1⟩
      have B1 := Lib.hid hb1
      clear hb1
      go_wp2_with fail
      refine (toolchestlaw01_Beyond.calls kb (some ⟨w1.heap.size, 0, none⟩) 2 [(a0.size : Int), (a1.size : Int)] false _ (C_ints w1 .i64 3 [(a0.size : Int), (a1.size : Int)] (by simp)) (Nat.le_refl _) KB.out).mono ?_
      first | (rintro e w2 rfl hb2) | (rintro e w2 ⟨rfl, hb2⟩)
      have B2 := Lib.hid (bth B1.out (bth (bal (Below.refl _ _) _) hb2.below))
      clear hb2
      go_wp2_with fail
      refine (HX.out _).mono ?_
      first | (rintro e w3 rfl hb3) | (rintro e w3 ⟨rfl, hb3⟩)
      have B3 := Lib.hid (bth B2.out hb3)
      clear hb3
      go_wp2_with fail
      refine (HY.out _).mono ?_
      first | (rintro e w4 rfl hb4) | (rintro e w4 ⟨rfl, hb4⟩)
      have B4 := Lib.hid (bth B3.out hb4)
      clear hb4
      have hab : (a0.toList == a1.toList) = false := by
        rw [beq_eq_false_iff_ne, Lib.toList_data, Lib.toList_data]
        exact fun e => HAB.out (ByteArray.ext (Array.ext' e))
      have htk := HTK.out
      have hbn : ((a0[p].toNat : Int) == (a1[p].toNat : Int)) = false := by
        rw [beq_eq_false_iff_ne]
        intro e
        exact HCN.out.2 hp0 hp1 (UInt8.toNat_inj.1 (by omega))
      have i1 : ((p : Int) + 1 - 1) = (p : Int) := by omega
      have i2 : IntKind.i64.wrap ((p : Int) + 1 - 1) = (p : Int) := by rw [i1]; exact IntWalk.i64_in _ (by omega)
      have j0 : ¬ a0.size ≤ p := by omega
      have j1 : ¬ a1.size ≤ p := by omega
      have k0 : decide ((a0.size : Int) < (p : Int) + 1) = false := decide_eq_false (by omega)
      have k1 : decide ((a1.size : Int) < (p : Int) + 1) = false := decide_eq_false (by omega)
      have l0 : p ≤ a0.size := by omega
      have l1 : p ≤ a1.size := by omega
      go_wp2_with fail
      go_quiet (fail)
      clear htk
      go_wp2_with fail
      with_reducible refine (count_walk (a0.extract 0 p) (by rw [ByteArray.size_extract]; omega) _).mono ?_
      rw [HCN.out.1]
      rintro e w5 ⟨rfl, hb5⟩
      have B5 := Lib.hid (bth (bdn B4.out _) hb5)
      clear hb5
      go_wp2
      go_ret
      exact ⟨rfl, B5.out⟩
    · obtain ⟨e1, e2, htk⟩ := cmp_begin a0 a1 hap
      rw [e1] at HX
      rw [e2] at HY
      clear hap e1 e2
      have HTK := Lib.hid htk
      clear htk
      rcases Nat.lt_trichotomy a0.size a1.size with h | h | h
      · rw [if_pos h] at HX
        rw [if_neg (by omega), if_pos h] at HY
        have hmin : min a0.size a1.size = a0.size := by omega
        rw [hmin] at HTK
        have HMI := Lib.hid (show min (a0.size : Int) (a1.size : Int) = (a0.size : Int) by omega)
        have hne : (a0.toList == a1.toList) = false := by
          rw [beq_eq_false_iff_ne, Lib.toList_data, Lib.toList_data]
          exact fun e => absurd (congrArg List.length e) (by rw [← Lib.size_eq, ← Lib.size_eq]; omega)
        have HNE := Lib.hid hne
        clear hne hmin
        go_enter Tryd.func11, Tryd.ntmps11
        go_wp2_with fail
        refine (HAL.out _ HT.out).mono ?_
        rintro e w1 ⟨rfl, hb1⟩
        have B1 := Lib.hid hb1
        clear hb1
        go_wp2_with fail
        refine (toolchestlaw01_Beyond.calls kb (some ⟨w1.heap.size, 0, none⟩) 2 [(a0.size : Int), (a1.size : Int)] false _ (C_ints w1 .i64 3 [(a0.size : Int), (a1.size : Int)] (by simp)) (Nat.le_refl _) KB.out).mono ?_
        first | (rintro e w2 rfl hb2) | (rintro e w2 ⟨rfl, hb2⟩)
        have B2 := Lib.hid (bth B1.out (bth (bal (Below.refl _ _) _) hb2.below))
        clear hb2
        go_wp2_with fail
        refine (HX.out _).mono ?_
        first | (rintro e w3 rfl hb3) | (rintro e w3 ⟨rfl, hb3⟩)
        have B3 := Lib.hid (bth B2.out hb3)
        clear hb3
        go_wp2_with fail
        refine (HY.out _).mono ?_
        first | (rintro e w4 rfl hb4) | (rintro e w4 ⟨rfl, hb4⟩)
        have B4 := Lib.hid (bth B3.out hb4)
        clear hb4
        have hab := HNE.out
        have g1 : decide ((a1.size : Int) < (a0.size : Int)) = false := decide_eq_false (by omega)
        have g2 : decide ((a0.size : Int) < (a1.size : Int)) = true := decide_eq_true (by omega)
        have g3 : ¬ a1.size < a0.size := by omega
        have htk : a1.extract 0 a0.size = a0 := by have := HTK.out; rw [ByteArray.extract_zero_size] at this; exact this.symm
        have hmi := HMI.out
        go_wp2_with fail
        go_quiet (fail)
        go_wp2
        go_ret
        exact ⟨rfl, by first | exact bdn B4.out _ | exact B4.out⟩
      · rw [if_neg (by omega), if_neg (by omega)] at HX HY
        obtain rfl := ba_whole a0 a1 h HTK.out
        clear HTK h
        go_enter Tryd.func11, Tryd.ntmps11
        go_wp2_with fail
        refine (HAL.out _ HT.out).mono ?_
        rintro e w1 ⟨rfl, hb1⟩
        have B1 := Lib.hid hb1
        clear hb1
        go_wp2_with fail
        refine (toolchestlaw01_Beyond.calls kb (some ⟨w1.heap.size, 0, none⟩) 2 [(a0.size : Int), (a0.size : Int)] false _ (C_ints w1 .i64 3 [(a0.size : Int), (a0.size : Int)] (by simp)) (Nat.le_refl _) KB.out).mono ?_
        first | (rintro e w2 rfl hb2) | (rintro e w2 ⟨rfl, hb2⟩)
        have B2 := Lib.hid (bth B1.out (bth (bal (Below.refl _ _) _) hb2.below))
        clear hb2
        go_wp2_with fail
        refine (HX.out _).mono ?_
        first | (rintro e w3 rfl hb3) | (rintro e w3 ⟨rfl, hb3⟩)
        have B3 := Lib.hid (bth B2.out hb3)
        clear hb3
        go_wp2_with fail
        refine (HY.out _).mono ?_
        first | (rintro e w4 rfl hb4) | (rintro e w4 ⟨rfl, hb4⟩)
        have B4 := Lib.hid (bth B3.out hb4)
        clear hb4
        go_wp2_with fail
        go_quiet (fail)
        go_wp2
        go_ret
        exact ⟨rfl, by first | exact bdn B4.out _ | exact B4.out⟩
      · rw [if_neg (by omega), if_pos h] at HX
        rw [if_pos h] at HY
        have hmin : min a0.size a1.size = a1.size := by omega
        rw [hmin] at HTK
        have HMI := Lib.hid (show min (a0.size : Int) (a1.size : Int) = (a1.size : Int) by omega)
        have hne : (a0.toList == a1.toList) = false := by
          rw [beq_eq_false_iff_ne, Lib.toList_data, Lib.toList_data]
          exact fun e => absurd (congrArg List.length e) (by rw [← Lib.size_eq, ← Lib.size_eq]; omega)
        have HNE := Lib.hid hne
        clear hne hmin
        go_enter Tryd.func11, Tryd.ntmps11
        go_wp2_with fail
        refine (HAL.out _ HT.out).mono ?_
        rintro e w1 ⟨rfl, hb1⟩
        have B1 := Lib.hid hb1
        clear hb1
        go_wp2_with fail
        refine (toolchestlaw01_Beyond.calls kb (some ⟨w1.heap.size, 0, none⟩) 2 [(a0.size : Int), (a1.size : Int)] false _ (C_ints w1 .i64 3 [(a0.size : Int), (a1.size : Int)] (by simp)) (Nat.le_refl _) KB.out).mono ?_
        first | (rintro e w2 rfl hb2) | (rintro e w2 ⟨rfl, hb2⟩)
        have B2 := Lib.hid (bth B1.out (bth (bal (Below.refl _ _) _) hb2.below))
        clear hb2
        go_wp2_with fail
        refine (HX.out _).mono ?_
        first | (rintro e w3 rfl hb3) | (rintro e w3 ⟨rfl, hb3⟩)
        have B3 := Lib.hid (bth B2.out hb3)
        clear hb3
        go_wp2_with fail
        refine (HY.out _).mono ?_
        first | (rintro e w4 rfl hb4) | (rintro e w4 ⟨rfl, hb4⟩)
        have B4 := Lib.hid (bth B3.out hb4)
        clear hb4
        have hab := HNE.out
        have g1 : decide ((a1.size : Int) < (a0.size : Int)) = true := decide_eq_true (by omega)
        have g2 : decide ((a0.size : Int) < (a1.size : Int)) = false := decide_eq_false (by omega)
        have g3 : ¬ a0.size < a1.size := by omega
        have htk : a0.extract 0 a1.size = a1 := by have := HTK.out; rw [ByteArray.extract_zero_size] at this; exact this
        have hmi := HMI.out
        go_wp2_with fail
        go_quiet (fail)
        go_wp2
        go_ret
        exact ⟨rfl, by first | exact bdn B4.out _ | exact B4.out⟩
end Go.Proofs.YthkaekeelokajaaDoor.P

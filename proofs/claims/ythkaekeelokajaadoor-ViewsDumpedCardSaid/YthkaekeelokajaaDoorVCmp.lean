/- views.Cmp: where two texts are not the same. -/
import Derived.Test.YthkaekeelokajaaDoorVGiven
import Derived.Test.YthkaekeelokajaaDoorHelp
import Derived.Test.YthkaekeelokajaaDoorEvs
import Derived.WalkLawsBesides
import Derived.WalkSpells
import Derived.Deep.QuietTactic
import Derived.BigQuiet
import Derived.Outline
set_option linter.unusedVariables false
set_option linter.unusedSimpArgs false
namespace Go.Proofs.YthkaekeelokajaaDoor.C
open Go.RowKit Go.Proofs Go.Proofs.YthkaekeelokajaaDoor.H Go.Proofs.YthkaekeelokajaaDoor.P Go.Proofs.YthkaekeelokajaaDoorW.PrintWords

/-- How many bytes two texts begin with alike. -/
def cplL : List UInt8 → List UInt8 → Nat
  | x :: a, y :: b => if x = y then cplL a b + 1 else 0
  | _, _ => 0
def cmpL (a b : List UInt8) : Nat × Nat × Nat :=
  if cplL a b < min a.length b.length then (cplL a b + 1, (a.take (cplL a b)).count 10 + 1, 0) else if a.length < b.length then (0, 0, 1) else if b.length < a.length then (0, 0, 2) else (0, 0, 0)
theorem cpl_le : ∀ a b : List UInt8, cplL a b ≤ min a.length b.length
  | [], _ => by simp [cplL]
  | _ :: _, [] => by simp [cplL]
  | x :: a, y :: b => by
    have := cpl_le a b
    simp only [cplL]
    split <;> simp <;> omega
theorem cpl_yes {a b : List UInt8} {k : Nat} (h1 : k < a.length) (h2 : k < b.length) (e : a[k] = b[k]) : cplL (a.drop k) (b.drop k) = cplL (a.drop (k + 1)) (b.drop (k + 1)) + 1 := by
  rw [List.drop_eq_getElem_cons h1, List.drop_eq_getElem_cons h2]
  simp only [cplL]
  rw [if_pos e]
theorem cpl_no {a b : List UInt8} {k : Nat} (h1 : k < a.length) (h2 : k < b.length) (e : ¬ a[k] = b[k]) : cplL (a.drop k) (b.drop k) = 0 := by
  rw [List.drop_eq_getElem_cons h1, List.drop_eq_getElem_cons h2]
  simp only [cplL]
  rw [if_neg e]
theorem count_take (s : ByteArray) (k : Nat) (hk : k ≤ s.size) : Q.strings_Count.f (s.extract 0 k) ⟨#[10]⟩ = some (((s.data.toList.take k).count 10 : Nat) : Int) := by
  unfold Q.strings_Count.f
  have e : (s.extract 0 k).data.toList = s.data.toList.take k := by rw [← Lib.toList_data, Lib.extract_toList]; simp
  show some ((Lib.countByte (s.extract 0 k).data.toList 10 : Nat) : Int) = _
  rw [e]; rfl
set_option maxHeartbeats 4000000 in
set_option maxRecDepth 100000 in
theorem cmp_calls (a b : ByteArray) (ha : a.size ≤ 100000000) (hb : b.size ≤ 100000000) (w : World) :
    Calls Tryd.prog 32 #[.string a, .string b] w fun e w' => e = .returned (.tuple #[.int .i64 ((cmpL a.data.toList b.data.toList).1 : Int), .int .i64 ((cmpL a.data.toList b.data.toList).2.1 : Int), .int .i64 ((cmpL a.data.toList b.data.toList).2.2 : Int)]) ∧ Below w.heap.size w w' := by
  have hla : a.data.toList.length = a.size := (Lib.size_eq a).symm
  have hlb : b.data.toList.length = b.size := (Lib.size_eq b).symm
  have HLA := Lib.hid hla
  have HLB := Lib.hid hlb
  clear hla hlb
  rcases Nat.lt_trichotomy b.size a.size with h | h | h
  · have hi : (b.size : Int) < (a.size : Int) := by omega
    have hi2 : ¬ (b.size : Int) < (b.size : Int) := by omega
    go_enter Tryd.func32, Tryd.ntmps32
    go_wp2
    go_loopw [6, 15] (fun e6 i wr => e6 = .int .i64 0 ∧ ∃ k : Nat, k ≤ b.size ∧ i = .int .i64 k ∧ Hid (cplL a.data.toList b.data.toList = k + cplL (a.data.toList.drop k) (b.data.toList.drop k) ∧ Below w.heap.size w wr)) (fun _ i _ => b.size - (intOf i).toNat)
    case atStart => exact ⟨rfl, 0, Nat.zero_le _, rfl, Lib.hid ⟨by simp, Below.refl _ _⟩⟩
    case round =>
      obtain ⟨rfl, k, hk, rfl, hr⟩ := hrel
      by_cases hlt : k < b.size
      · have ka : k < a.size := by omega
        have kb : k < b.size := by omega
        have ka' : k < a.data.toList.length := by rw [← Lib.size_eq]; exact ka
        have kb' : k < b.data.toList.length := by rw [← Lib.size_eq]; exact kb
        have ea : a.data.toList[k] = a[k] := rfl
        have eb : b.data.toList[k] = b[k] := rfl
        by_cases hab : a[k] = b[k]
        · have hbe : ((a[k].toNat : Int) != (b[k].toNat : Int)) = false := by rw [hab]; simp
          have hn := Lib.hid (show cplL a.data.toList b.data.toList = (k + 1) + cplL (a.data.toList.drop (k + 1)) (b.data.toList.drop (k + 1)) by rw [hr.out.1, cpl_yes ka' kb' hab]; omega)
          clear hab ea eb
          go_wp2
          go_quiet (fail)
          go_wp2
          go_roundw
          case rel => exact ⟨rfl, k + 1, by omega, by go_num, Lib.hid ⟨hn.out, bdn hr.out.2 _⟩⟩
          case measure => simp [intOf]; omega
        · have hbe : ((a[k].toNat : Int) != (b[k].toNat : Int)) = true := by
            rw [bne_iff_ne]; intro e; exact hab (UInt8.toNat_inj.1 (by omega))
          have hn := Lib.hid (show cmpL a.data.toList b.data.toList = (k + 1, (a.data.toList.take k).count 10 + 1, 0) by
            have hc : cplL a.data.toList b.data.toList = k := by rw [hr.out.1, cpl_no ka' kb' hab]; rfl
            unfold cmpL; rw [hc, if_pos (by rw [HLA.out, HLB.out]; omega)])
          have hcnt := Lib.hid (count_take a k (by omega))
          have hcl : (a.data.toList.take k).count 10 ≤ k := by
            have := List.count_le_length (a := (10 : UInt8)) (l := a.data.toList.take k)
            rw [List.length_take] at this; omega
          clear hab ea eb
          generalize (a.data.toList.take k).count 10 = q at hn hcnt hcl
          go_wp2
          go_quiet (fail)
          go_wp2_with (go_at_call 95; refine (Q.strings_Count.calls _ _ _ _ hcnt.out).mono ?_; rintro e w' ⟨rfl, hb2⟩)
          go_ret3
          exact ⟨by rw [hn.out]; rfl, bth (bdn hr.out.2 _) hb2⟩
      · obtain rfl : k = b.size := by omega
        have hn := Lib.hid (show cmpL a.data.toList b.data.toList = (0, 0, 2) by
          have hc : ¬ cplL a.data.toList b.data.toList < min a.data.toList.length b.data.toList.length := by rw [hr.out.1]; rw [HLA.out, HLB.out]; omega
          unfold cmpL; rw [if_neg hc, HLA.out, HLB.out]; rw [if_neg (by omega), if_pos h])
        go_wp2
        go_ret3
        exact ⟨by rw [hn.out]; rfl, hr.out.2⟩
  · have hi : ¬ (b.size : Int) < (a.size : Int) := by omega
    have hi2 : ¬ (a.size : Int) < (b.size : Int) := by omega
    clear hi hi2
    go_enter Tryd.func32, Tryd.ntmps32
    go_wp2
    go_loopw [6, 15] (fun e6 i wr => e6 = .int .i64 0 ∧ ∃ k : Nat, k ≤ a.size ∧ i = .int .i64 k ∧ Hid (cplL a.data.toList b.data.toList = k + cplL (a.data.toList.drop k) (b.data.toList.drop k) ∧ Below w.heap.size w wr)) (fun _ i _ => a.size - (intOf i).toNat)
    case atStart => exact ⟨rfl, 0, Nat.zero_le _, rfl, Lib.hid ⟨by simp, Below.refl _ _⟩⟩
    case round =>
      obtain ⟨rfl, k, hk, rfl, hr⟩ := hrel
      by_cases hlt : k < a.size
      · have ka : k < a.size := by omega
        have kb : k < b.size := by omega
        have ka' : k < a.data.toList.length := by rw [← Lib.size_eq]; exact ka
        have kb' : k < b.data.toList.length := by rw [← Lib.size_eq]; exact kb
        have ea : a.data.toList[k] = a[k] := rfl
        have eb : b.data.toList[k] = b[k] := rfl
        by_cases hab : a[k] = b[k]
        · have hbe : ((a[k].toNat : Int) != (b[k].toNat : Int)) = false := by rw [hab]; simp
          have hn := Lib.hid (show cplL a.data.toList b.data.toList = (k + 1) + cplL (a.data.toList.drop (k + 1)) (b.data.toList.drop (k + 1)) by rw [hr.out.1, cpl_yes ka' kb' hab]; omega)
          clear hab ea eb
          go_wp2
          go_quiet (fail)
          go_wp2
          go_roundw
          case rel => exact ⟨rfl, k + 1, by omega, by go_num, Lib.hid ⟨hn.out, bdn hr.out.2 _⟩⟩
          case measure => simp [intOf]; omega
        · have hbe : ((a[k].toNat : Int) != (b[k].toNat : Int)) = true := by
            rw [bne_iff_ne]; intro e; exact hab (UInt8.toNat_inj.1 (by omega))
          have hn := Lib.hid (show cmpL a.data.toList b.data.toList = (k + 1, (a.data.toList.take k).count 10 + 1, 0) by
            have hc : cplL a.data.toList b.data.toList = k := by rw [hr.out.1, cpl_no ka' kb' hab]; rfl
            unfold cmpL; rw [hc, if_pos (by rw [HLA.out, HLB.out]; omega)])
          have hcnt := Lib.hid (count_take a k (by omega))
          have hcl : (a.data.toList.take k).count 10 ≤ k := by
            have := List.count_le_length (a := (10 : UInt8)) (l := a.data.toList.take k)
            rw [List.length_take] at this; omega
          clear hab ea eb
          generalize (a.data.toList.take k).count 10 = q at hn hcnt hcl
          go_wp2
          go_quiet (fail)
          go_wp2_with (go_at_call 95; refine (Q.strings_Count.calls _ _ _ _ hcnt.out).mono ?_; rintro e w' ⟨rfl, hb2⟩)
          go_ret3
          exact ⟨by rw [hn.out]; rfl, bth (bdn hr.out.2 _) hb2⟩
      · obtain rfl : k = a.size := by omega
        have hn := Lib.hid (show cmpL a.data.toList b.data.toList = (0, 0, 0) by
          have hc : ¬ cplL a.data.toList b.data.toList < min a.data.toList.length b.data.toList.length := by rw [hr.out.1]; rw [HLA.out, HLB.out]; omega
          unfold cmpL; rw [if_neg hc, HLA.out, HLB.out]; rw [if_neg (by omega), if_neg (by omega)])
        go_wp2
        go_ret3
        exact ⟨by rw [hn.out]; rfl, hr.out.2⟩
  · have hi : ¬ (b.size : Int) < (a.size : Int) := by omega
    have hi2 : (a.size : Int) < (b.size : Int) := by omega
    go_enter Tryd.func32, Tryd.ntmps32
    go_wp2
    go_loopw [6, 15] (fun e6 i wr => e6 = .int .i64 0 ∧ ∃ k : Nat, k ≤ a.size ∧ i = .int .i64 k ∧ Hid (cplL a.data.toList b.data.toList = k + cplL (a.data.toList.drop k) (b.data.toList.drop k) ∧ Below w.heap.size w wr)) (fun _ i _ => a.size - (intOf i).toNat)
    case atStart => exact ⟨rfl, 0, Nat.zero_le _, rfl, Lib.hid ⟨by simp, Below.refl _ _⟩⟩
    case round =>
      obtain ⟨rfl, k, hk, rfl, hr⟩ := hrel
      by_cases hlt : k < a.size
      · have ka : k < a.size := by omega
        have kb : k < b.size := by omega
        have ka' : k < a.data.toList.length := by rw [← Lib.size_eq]; exact ka
        have kb' : k < b.data.toList.length := by rw [← Lib.size_eq]; exact kb
        have ea : a.data.toList[k] = a[k] := rfl
        have eb : b.data.toList[k] = b[k] := rfl
        by_cases hab : a[k] = b[k]
        · have hbe : ((a[k].toNat : Int) != (b[k].toNat : Int)) = false := by rw [hab]; simp
          have hn := Lib.hid (show cplL a.data.toList b.data.toList = (k + 1) + cplL (a.data.toList.drop (k + 1)) (b.data.toList.drop (k + 1)) by rw [hr.out.1, cpl_yes ka' kb' hab]; omega)
          clear hab ea eb
          go_wp2
          go_quiet (fail)
          go_wp2
          go_roundw
          case rel => exact ⟨rfl, k + 1, by omega, by go_num, Lib.hid ⟨hn.out, bdn hr.out.2 _⟩⟩
          case measure => simp [intOf]; omega
        · have hbe : ((a[k].toNat : Int) != (b[k].toNat : Int)) = true := by
            rw [bne_iff_ne]; intro e; exact hab (UInt8.toNat_inj.1 (by omega))
          have hn := Lib.hid (show cmpL a.data.toList b.data.toList = (k + 1, (a.data.toList.take k).count 10 + 1, 0) by
            have hc : cplL a.data.toList b.data.toList = k := by rw [hr.out.1, cpl_no ka' kb' hab]; rfl
            unfold cmpL; rw [hc, if_pos (by rw [HLA.out, HLB.out]; omega)])
          have hcnt := Lib.hid (count_take a k (by omega))
          have hcl : (a.data.toList.take k).count 10 ≤ k := by
            have := List.count_le_length (a := (10 : UInt8)) (l := a.data.toList.take k)
            rw [List.length_take] at this; omega
          clear hab ea eb
          generalize (a.data.toList.take k).count 10 = q at hn hcnt hcl
          go_wp2
          go_quiet (fail)
          go_wp2_with (go_at_call 95; refine (Q.strings_Count.calls _ _ _ _ hcnt.out).mono ?_; rintro e w' ⟨rfl, hb2⟩)
          go_ret3
          exact ⟨by rw [hn.out]; rfl, bth (bdn hr.out.2 _) hb2⟩
      · obtain rfl : k = a.size := by omega
        have hn := Lib.hid (show cmpL a.data.toList b.data.toList = (0, 0, 1) by
          have hc : ¬ cplL a.data.toList b.data.toList < min a.data.toList.length b.data.toList.length := by rw [hr.out.1]; rw [HLA.out, HLB.out]; omega
          unfold cmpL; rw [if_neg hc, HLA.out, HLB.out]; rw [if_pos h])
        go_wp2
        go_ret3
        exact ⟨by rw [hn.out]; rfl, hr.out.2⟩
end Go.Proofs.YthkaekeelokajaaDoor.C

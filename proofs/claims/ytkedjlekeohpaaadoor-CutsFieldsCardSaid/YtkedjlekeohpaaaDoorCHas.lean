/- Lists of places: the reference tells whether a place is in a list; what is too great is passed over. -/
import Derived.Test.YtkedjlekeohpaaaDoorQx1
import Derived.Test.YtkedjlekeohpaaaDoorEvs
import Derived.Test.YtkedjlekeohpaaaDoorCBytes
set_option linter.unusedVariables false
set_option linter.unusedSimpArgs false
namespace Go.Proofs.YtkedjlekeohpaaaDoor.P
open Go.RowKit Go.Proofs.YtkedjlekeohpaaaDoor.Q Go.Proofs.YtkedjlekeohpaaaDoor.H Go.Proofs.YtkedjlekeohpaaaDoor.C Go.Proofs.YtkedjlekeohpaaaDoorW.PrintWords Go.Proofs.YtkedjlekeohpaaaDoorW.PrintLast

theorem rdT_at (l : List RS) (i : Nat) (h : i < l.length) : rd_T34 l (i : Int) = l[i] := by unfold rd_T34; rw [List.getD_eq_getElem?_getD, Int.toNat_natCast, List.getElem?_eq_getElem h]; rfl
theorem has_loop (l : List RS) (n : Int) (hl : l.length ≤ 100000000) : ∀ (d i : Nat), i + d = l.length → Ev (fun k => toolchestref03_Has.l0 k l n (i : Int)) (hasR (l.drop i) n) := by
  intro d
  induction d with
  | zero =>
    intro i hi
    rw [List.drop_of_length_le (by omega)]
    refine Ev.now fun k => ?_
    simp only [toolchestref03_Has.l0]
    rw [if_neg (not_nat_lt (by omega))]
    rfl
  | succ d ih =>
    intro i hi
    have hlt : i < l.length := by omega
    have hw := wrap_one i (by omega)
    have hd : l.drop i = l[i] :: l.drop (i + 1) := List.drop_eq_getElem_cons hlt
    have hc : hasR (l[i] :: l.drop (i + 1)) n = (inR l[i] n || hasR (l.drop (i + 1)) n) := rfl
    rw [hd, hc]
    refine (ih (i + 1) (by omega)).next fun k hk => ?_
    simp only [toolchestref03_Has.l0]
    rw [if_pos (nat_lt hlt), if_pos (nat_nn i), rdT_at l i hlt, hw]
    by_cases h1 : n ≥ l[i].f0
    · rw [if_pos h1]
      have h1' : decide (l[i].f0 ≤ n) = true := by simpa using h1
      by_cases h2 : l[i].f1 = 0
      · rw [if_pos h2]; unfold inR; rw [h1', h2]; rfl
      · rw [if_neg h2]
        have h2' : (l[i].f1 == 0) = false := by simpa using h2
        by_cases h3 : n ≤ l[i].f1
        · rw [if_pos h3]; unfold inR; rw [h1', h2', decide_eq_true h3]; rfl
        · rw [if_neg h3, hk]; unfold inR; rw [h1', h2', decide_eq_false h3]; rfl
    · rw [if_neg h1, hk]
      have h1' : decide (l[i].f0 ≤ n) = false := by simpa using h1
      unfold inR; rw [h1']; rfl
theorem has_f (l : List RS) (n : Int) (hl : l.length ≤ 100000000) : Ev (fun k => toolchestref03_Has.f k l n) (hasR l n) := has_loop l n hl l.length 0 (Nat.zero_add _)
def nat8 (l : List UInt8) : List Int := l.map fun b => (b.toNat : Int)
theorem str_nat8 (l : List UInt8) : strOfNums (nat8 l) = ⟨l.toArray⟩ := by
  unfold strOfNums nat8
  congr 1
  simp [Function.comp_def]
theorem great_f (s : ByteArray) (l : List RS) : toolchestlaw07_great.f s l = some true ∨ (toolchestlaw07_great.f s l = some false ∧ s.size ≤ 100000 ∧ l.length ≤ 5000) := by
  unfold toolchestlaw07_great.f
  by_cases h1 : (s.size : Int) > 100000
  · rw [if_pos h1]; exact .inl rfl
  · rw [if_neg h1]
    by_cases h2 : (l.length : Int) > 5000
    · rw [if_pos h2]; exact .inl rfl
    · rw [if_neg h2]
      by_cases h3 : wrap64 ((s.size : Int) * (l.length : Int)) > 5000000
      · rw [decide_eq_true h3]; exact .inl rfl
      · rw [decide_eq_false h3]; exact .inr ⟨rfl, by omega, by omega⟩
end Go.Proofs.YtkedjlekeohpaaaDoor.P

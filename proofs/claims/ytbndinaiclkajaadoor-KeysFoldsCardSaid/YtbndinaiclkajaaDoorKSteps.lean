/- One step along a line: where the next field ends, as the library tells it. -/
import Derived.Test.YtbndinaiclkajaaDoorKCmp
import Derived.Test.YtbndinaiclkajaaDoorKUtf
import Derived.Lib.SlTrimSet
import Derived.Lib.Builder
set_option linter.unusedVariables false
set_option linter.unusedSimpArgs false
namespace Go.Proofs.YtbndinaiclkajaaDoor.K

theorem find_split (l : List UInt8) (c : UInt8) : (Lib.indexByte l c < 0 ∧ ∀ d ∈ l, d ≠ c) ∨ (∃ x r, l = x ++ c :: r ∧ (∀ d ∈ x, d ≠ c) ∧ Lib.indexByte l c = (x.length : Int)) := by
  induction l with
  | nil => left; exact ⟨by simp [Lib.indexByte], fun d hd => by cases hd⟩
  | cons b l ih =>
    by_cases hb : b = c
    · right; subst hb; exact ⟨[], l, rfl, (fun d hd => by cases hd), by simp [Lib.indexByte]⟩
    · have hbb : (b == c) = false := by simpa using hb
      rcases ih with ⟨h1, h2⟩ | ⟨x, r, rfl, h2, h3⟩
      · left
        have h3 : Lib.indexByte l c = -1 := by have := Lib.indexByte_ge l c; omega
        refine ⟨by simp [Lib.indexByte, hbb, h3], fun d hd => ?_⟩
        rcases List.mem_cons.1 hd with rfl | h
        · exact hb
        · exact h2 d h
      · right
        refine ⟨b :: x, r, rfl, fun d hd => ?_, ?_⟩
        · rcases List.mem_cons.1 hd with rfl | h
          · exact hb
          · exact h2 d h
        · simp only [Lib.indexByte, hbb, h3, Bool.false_eq_true, if_false]
          rw [if_neg (by simp)]
          simp
theorem sep_last (l : List UInt8) (c : UInt8) (h : Lib.indexByte l c < 0) (a : Nat) : endsSep c l a a = [(a, a + l.length)] := by
  rcases find_split l c with ⟨_, h2⟩ | ⟨x, r, _, _, h3⟩
  · have := endsSep_run c l [] h2 a a
    rw [List.append_nil] at this
    rw [this]; rfl
  · omega
theorem sep_next (l : List UInt8) (c : UInt8) (k : Nat) (h : Lib.indexByte l c = (k : Int)) (a : Nat) : endsSep c l a a = (a, a + k) :: endsSep c (l.drop (k + 1)) (a + (k + 1)) (a + (k + 1)) ∧ k < l.length := by
  rcases find_split l c with ⟨h1, _⟩ | ⟨x, r, rfl, h2, h3⟩
  · omega
  · have hk : x.length = k := by omega
    subst hk
    refine ⟨?_, by simp⟩
    rw [endsSep_run c x (c :: r) h2]
    have e : (x ++ c :: r).drop (x.length + 1) = r := by rw [List.drop_length_add_append]; rfl
    rw [e]
    simp only [endsSep, if_true]
    rfl
theorem idxAny_split (l : List UInt8) : (Lib.indexAny l [32, 9] < 0 ∧ ∀ d ∈ l, blankC d = false) ∨ (∃ x b r, l = x ++ b :: r ∧ (∀ d ∈ x, blankC d = false) ∧ blankC b = true ∧ Lib.indexAny l [32, 9] = (x.length : Int)) := by
  have hc : ∀ d : UInt8, ([32, 9] : List UInt8).contains d = blankC d := by
    intro d
    unfold blankC
    rw [Bool.eq_iff_iff]
    simp
  induction l with
  | nil => left; exact ⟨by simp [Lib.indexAny], fun d hd => by cases hd⟩
  | cons b l ih =>
    cases hb : blankC b with
    | true => right; exact ⟨[], b, l, rfl, (fun d hd => by cases hd), hb, by rw [Lib.indexAny, hc, hb]; rfl⟩
    | false =>
      have hcb := hc b
      rw [hb] at hcb
      rcases ih with ⟨h1, h2⟩ | ⟨x, b', r, rfl, h2, hb', h3⟩
      · left
        have h3 : Lib.indexAny l [32, 9] = -1 := by have := Lib.indexAny_ge [32, 9] l; omega
        refine ⟨by rw [Lib.indexAny, hcb, h3]; simp, fun d hd => ?_⟩
        rcases List.mem_cons.1 hd with rfl | h
        · exact hb
        · exact h2 d h
      · right
        refine ⟨b :: x, b', r, rfl, fun d hd => ?_, hb', ?_⟩
        · rcases List.mem_cons.1 hd with rfl | h
          · exact hb
          · exact h2 d h
        · rw [Lib.indexAny, hcb, h3, if_neg (by decide), if_neg (by simp)]
          simp
theorem trim_blanks (l : List UInt8) : Lib.trimLeftS l [32, 9] = l.dropWhile blankC := by
  unfold Lib.trimLeftS
  congr 1
  funext d
  unfold blankC
  rw [Bool.eq_iff_iff]
  simp
/-- How many bytes the first field by blanks has, with the blanks ahead of it. -/
def stepB (l : List UInt8) : Nat := (l.length - (l.dropWhile blankC).length) + (if Lib.indexAny (l.dropWhile blankC) [32, 9] < 0 then (l.dropWhile blankC).length else (Lib.indexAny (l.dropWhile blankC) [32, 9]).toNat)
theorem bl_step (l : List UInt8) (hl : l ≠ []) (a : Nat) : endsBl l a a false = (a, a + stepB l) :: endsBl (l.drop (stepB l)) (a + stepB l) (a + stepB l) false ∧ 1 ≤ stepB l ∧ stepB l ≤ l.length := by
  obtain ⟨b, y, rfl, hb, hy, hh⟩ : ∃ b y, l = b ++ y ∧ (∀ d ∈ b, blankC d = true) ∧ (b ++ y).dropWhile blankC = y ∧ ∀ c, y.head? = some c → blankC c = false := by
    refine ⟨l.takeWhile blankC, l.dropWhile blankC, List.takeWhile_append_dropWhile.symm, ?_, ?_, ?_⟩
    · have := List.all_takeWhile (p := blankC) (l := l)
      rw [List.all_eq_true] at this
      exact this
    · rw [List.takeWhile_append_dropWhile]
    · intro c hc
      have := List.head?_dropWhile_not (p := blankC) (l := l)
      rw [hc] at this
      simpa using this
  have hs : stepB (b ++ y) = b.length + (if Lib.indexAny y [32, 9] < 0 then y.length else (Lib.indexAny y [32, 9]).toNat) := by
    unfold stepB
    rw [hy]; simp
  have hstart : ∀ (f r : List UInt8), y = f ++ r → (∀ d ∈ f, blankC d = false) → f ≠ [] → endsBl (b ++ y) a a false = endsBl r a (a + b.length + f.length) true := by
    intro f r e hf hne
    rw [endsBl_blanks b y hb]
    obtain ⟨d, f', rfl⟩ : ∃ d f', f = d :: f' := by cases f with | nil => exact absurd rfl hne | cons d f' => exact ⟨d, f', rfl⟩
    rw [e]
    show endsBl (d :: (f' ++ r)) a _ false = _
    simp only [endsBl]
    rw [hf d (by simp)]
    show endsBl (f' ++ r) a _ true = _
    rw [endsBl_field f' r (fun x hx => hf x (by simp [hx]))]
    congr 1; simp; omega
  rcases idxAny_split y with ⟨h1, h2⟩ | ⟨x, c, r, e, h2, hc, h3⟩
  · rw [hs, if_pos h1]
    have hd : (b ++ y).drop (b.length + y.length) = [] := List.drop_eq_nil_of_le (by simp)
    rw [hd]
    have hz : endsBl [] (a + (b.length + y.length)) (a + (b.length + y.length)) false = [] := by simp [endsBl]
    rw [hz]
    have hpos : 0 < (b ++ y).length := List.length_pos_iff.2 hl
    simp only [List.length_append] at hpos
    refine ⟨?_, by omega, by simp⟩
    by_cases hyn : y = []
    · subst hyn
      rw [endsBl_blanks b [] hb]
      simp only [endsBl, List.length_nil, Nat.add_zero]
      simp only [List.length_nil, Nat.add_zero] at hpos
      rw [if_pos (by omega)]
    · rw [hstart y [] (by simp) h2 hyn]
      have hyp := List.length_pos_iff.2 hyn
      simp only [endsBl]
      rw [if_pos (by omega), Nat.add_assoc]
  · have hx : x ≠ [] := by
      rintro rfl
      rw [e] at hh
      have := hh c rfl
      rw [hc] at this; cases this
    have hxp := List.length_pos_iff.2 hx
    rw [hs, if_neg (by omega), h3, Int.toNat_natCast, hstart x (c :: r) e h2 hx]
    have hd : (b ++ y).drop (b.length + x.length) = c :: r := by
      rw [e, ← List.append_assoc, List.drop_append_of_le_length (by simp), List.drop_eq_nil_of_le (by simp)]; rfl
    rw [hd]
    refine ⟨?_, by omega, by rw [e]; simp⟩
    simp only [endsBl]
    rw [hc]
    simp [Nat.add_assoc]
theorem ends_len (c : UInt8) (l : List UInt8) : (endsOf c l).length ≤ l.length + 1 := by
  have sep : ∀ (l : List UInt8) a p, (endsSep c l a p).length ≤ l.length + 1 := by
    intro l
    induction l with
    | nil => intro a p; simp [endsSep]
    | cons x r ih => intro a p; simp only [endsSep]; split <;> simp only [List.length_cons] <;> have := ih (p + 1) (p + 1) <;> have := ih a (p + 1) <;> omega
  have bl : ∀ (l : List UInt8) a p b, (endsBl l a p b).length ≤ l.length + 1 := by
    intro l
    induction l with
    | nil => intro a p b; simp only [endsBl]; split <;> simp
    | cons x r ih =>
      intro a p b
      cases b
      · simp only [endsBl, List.length_cons]; have := ih a (p + 1) (!blankC x); omega
      · simp only [endsBl]; split <;> simp only [List.length_cons] <;> have := ih p (p + 1) false <;> have := ih a (p + 1) true <;> omega
  unfold endsOf
  split
  · exact bl _ _ _ _
  · exact sep _ _ _
end Go.Proofs.YtbndinaiclkajaaDoor.K

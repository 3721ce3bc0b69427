/- slices.Concat of two lists of texts. -/
import Derived.Test.YtiibaggpaabfcaaDoorShelf
import Derived.Test.YtiibaggpaabfcaaDoorHelp
import Derived.Laws.AppendOwnNone
import Derived.Maps.AppendAt
set_option linter.unusedVariables false
set_option linter.unusedSimpArgs false
namespace Go.Proofs.YtiibaggpaabfcaaDoor.H
open Go.RowKit Go.Proofs Go.Proofs.YtiibaggpaabfcaaDoorW.PrintWords

theorem own_slice' {w : World} {base e size n : Nat} {v : Value} {xs : List Value} (h : w.ownsRow base e size v n xs) : ∃ a c, v = .slice a n c := by
  rcases h.2 with ⟨rfl, h0⟩ | ⟨g, cap, cur, rfl, _⟩
  · exact ⟨none, 0, by rw [h0]⟩
  · exact ⟨_, _, rfl⟩
set_option maxHeartbeats 1000000 in
set_option maxRecDepth 100000 in
theorem grow_nil (n : Nat) (hn : n ≤ 8000000) (w : World) :
    Calls Tryd.prog 62 #[.slice none 0 0, .int .i64 (n : Int)] w fun e w' => ∃ v, e = .returned v ∧ w'.ownsRow w.heap.size 9 1 v 0 [] ∧ Below w.heap.size w w' := by
  by_cases h0 : n = 0
  · subst h0
    go_enter Tryd.func62, Tryd.ntmps62
    go_wp2
    go_ret
    exact ⟨_, rfl, World.ownsRow_nil _ _ _ _, Below.refl _ _⟩
  · have h1 : ¬ ((n : Int) ≤ 0) := by omega
    go_enter Tryd.func62, Tryd.ntmps62
    go_wp2_with (at_builtin; go_loud (refine Kd.R_append_zeros Kd.string w.heap.size rfl _ _ 22 3 9 (.string ⟨#[]⟩) 16 rfl Tryd.underlying22 Tryd.underlying3 infoS rfl (by decide) (by decide) (.slice none 0 0) [] ⟨#[]⟩ (n : Int) (fun _ => True) rfl rfl rfl (fun _ _ => trivial) (Kd.R_nil _ _ _ _ _) (by omega) (Below.refl _ _) (Nat.le_refl _) (by simp; omega) ?_))
    intro v1 w1 hR hb hg hat
    obtain ⟨_, inner, hown, hr⟩ := hR
    obtain ⟨A, c, rfl⟩ := own_slice' hown
    obtain ⟨M, hM⟩ : ∃ M, (List.replicate n (⟨#[]⟩ : ByteArray)).length = M := ⟨_, rfl⟩
    rw [hM] at hown ⊢
    have O0 := own_take hown (Nat.zero_le _)
    rw [Nat.zero_mul, List.take_zero] at O0
    have hO := Lib.hid (And.intro O0 hb)
    have hc : M ≤ c ∧ c ≤ 9223372036854775807 := by
      rcases hown.2 with ⟨h1, h2⟩ | ⟨g, cap, cur, h1, _, _, h2, h3, _⟩
      · cases h1; omega
      · cases h1
        unfold maxLen at h3
        omega
    clear hown hr hM hg hat hb O0
    go_wp2
    go_ret
    exact ⟨_, rfl, hO.out.1, hO.out.2⟩
theorem own_of_R {W : World} {base : Nat} {ok : Nat → Prop} {v : Value} {l : List ByteArray} (h : Kd.R Kd.string 9 W base ok v l) : W.ownsRow base 9 1 v l.length (strs l) := by
  obtain ⟨_, inner, hown, hr⟩ := h
  have e : inner = strs l := by
    apply List.ext_getElem?
    intro j
    have hlen : inner.length = l.length := by have := hr.1; rw [show Kd.string.sz = 1 from rfl, Nat.mul_one] at this; exact this
    by_cases hj : j < l.length
    · have hm := hr.2 j l[j] (List.getElem?_eq_getElem hj)
      have hm2 : (inner.drop (j * 1)).take 1 = [.string l[j]] := hm
      rw [Nat.mul_one, List.drop_eq_getElem_cons (by omega)] at hm2
      have hm3 : inner[j]'(by omega) = .string l[j] := (List.cons.inj hm2).1
      rw [List.getElem?_eq_getElem (by omega), hm3, List.getElem?_eq_getElem (by rw [strs_length]; exact hj)]
      simp [strs]
    · rw [List.getElem?_eq_none (by omega), List.getElem?_eq_none (by rw [strs_length]; omega)]
  rw [← e]
  exact hown
theorem KM_str {w W : World} {base : Nat} {okp : Nat → Prop} (x : ByteArray) (cs : List Value) (h : Kd.string.K w x cs) : Kd.string.M W base okp x cs := h
set_option maxHeartbeats 2000000 in
set_option maxRecDepth 100000 in
theorem concat_calls (G : Nat) (A1 A2 : Option Addr) (n1 c1 n2 c2 : Nat) (l1 l2 : List ByteArray) (w : World) (hG : G < w.heap.size)
    (hg0 : w.cell? ⟨G, 0, none⟩ = some (.slice A1 n1 c1)) (hg1 : w.cell? ⟨G, 1, none⟩ = some (.slice A2 n2 c2)) (e1 : l1.length = n1) (e2 : l2.length = n2)
    (h1 : Kd.C Kd.string w A1 l1.length l1) (h2 : Kd.C Kd.string w A2 l2.length l2) (k1 : n1 ≤ c1) (k2 : n2 ≤ c2) (hl : n1 + n2 ≤ 8000000) :
    Calls Tryd.prog 20 #[.slice (some ⟨G, 0, none⟩) 2 2] w fun e w' => ∃ v, e = .returned v ∧ w'.ownsRow w.heap.size 9 1 v (n1 + n2) (strs (l1 ++ l2)) ∧ Below w.heap.size w w' := by
  subst e1 e2
  have H1 := Lib.hid h1
  have H2 := Lib.hid h2
  clear h1 h2
  go_enter Tryd.func20, Tryd.ntmps20
  go_wp2
  go_loop [3, 11] (fun a i => (a = .int .i64 0 ∧ i = .int .i64 0) ∨ (a = .int .i64 (l1.length : Int) ∧ i = .int .i64 1) ∨ (a = .int .i64 ((l1.length : Int) + (l2.length : Int)) ∧ i = .int .i64 2)) (fun _ i => 2 - (intOf i).toNat)
  case atStart => exact .inl ⟨rfl, rfl⟩
  case round =>
    rcases hrel with ⟨rfl, rfl⟩ | ⟨rfl, rfl⟩ | ⟨rfl, rfl⟩
    · go_wp2
      go_round
      case rel => exact .inr (.inl ⟨by simp, rfl⟩)
      case measure => decide
    · go_wp2
      go_round
      case rel => exact .inr (.inr ⟨rfl, rfl⟩)
      case measure => decide
    · have hn : (l1.length : Int) + (l2.length : Int) = ((l1.length + l2.length : Nat) : Int) := by omega
      have HN := Lib.hid hn
      clear hn
      go_wp2_with (go_at_call 62; rw [HN.out]; refine (grow_nil (l1.length + l2.length) hl _).mono ?_)
      rintro e w2 v rfl ho hb
      have O := Lib.hid (And.intro ho hb)
      clear ho hb
      go_wp2
      go_loopw [6, 27] (fun v i wr => ∃ L : List ByteArray, ((L = [] ∧ i = .int .i64 0) ∨ (L = l1 ∧ i = .int .i64 1) ∨ (L = l1 ++ l2 ∧ i = .int .i64 2)) ∧ Hid (wr.ownsRow w.heap.size 9 1 v L.length (strs L) ∧ Below w.heap.size w wr)) (fun _ i _ => 2 - (intOf i).toNat)
      case atStart => exact ⟨[], .inl ⟨rfl, rfl⟩, O⟩
      case round =>
        obtain ⟨L, hL, hr⟩ := hrel
        have q0 := (hr.out.2.cell (p := ⟨G, 0, none⟩) hG).trans hg0
        have q1 := (hr.out.2.cell (p := ⟨G, 1, none⟩) hG).trans hg1
        have hbase := hr.out.2.size
        rcases hL with ⟨hL1, rfl⟩ | ⟨hL1, rfl⟩ | ⟨hL1, rfl⟩ <;> rw [hL1] at hr <;> clear hL1
        · go_wp2_with (at_builtin; go_loud (refine Kd.R_append_rows Kd.string w.heap.size rfl _ _ 22 9 (.string ⟨#[]⟩) 16 rfl Tryd.underlying22 infoS rfl (by decide) (by decide) _ [] l1 A1 l1.length c1 (fun _ => True) (fun _ => False) rfl rfl (R_of_own hr.out.1) (Kd.C_below H1.out hr.out.2) KM_str (fun _ hk => hk.elim) (fun _ _ => trivial) hr.out.2 hbase (by simp; omega) ?_))
          intro v3 w3 hR hb3 hg3 hat3
          have O3 := Lib.hid (And.intro (own_of_R hR) hb3)
          clear hR hb3 hg3 hat3 q0 q1
          go_wp2
          go_roundw
          case rel => exact ⟨l1, .inr (.inl ⟨rfl, rfl⟩), O3⟩
          case measure => decide
        · go_wp2_with (at_builtin; go_loud (refine Kd.R_append_rows Kd.string w.heap.size rfl _ _ 22 9 (.string ⟨#[]⟩) 16 rfl Tryd.underlying22 infoS rfl (by decide) (by decide) _ l1 l2 A2 l2.length c2 (fun _ => True) (fun _ => False) rfl rfl (R_of_own hr.out.1) (Kd.C_below H2.out hr.out.2) KM_str (fun _ hk => hk.elim) (fun _ _ => trivial) hr.out.2 hbase (by omega) ?_))
          intro v3 w3 hR hb3 hg3 hat3
          have O3 := Lib.hid (And.intro (own_of_R hR) hb3)
          clear hR hb3 hg3 hat3 q0 q1
          go_wp2
          go_roundw
          case rel => exact ⟨l1 ++ l2, .inr (.inr ⟨rfl, rfl⟩), O3⟩
          case measure => decide
        · rw [List.length_append] at hr
          go_wp2
          go_ret
          exact ⟨_, rfl, hr.out.1, hr.out.2⟩
end Go.Proofs.YtiibaggpaabfcaaDoor.H

/- lines.Fields, lines.Count. -/
import Derived.Test.YtgbhcanfjmefiaaDoorRuns
import Derived.Deep.RegionHeld3
import Derived.RegionTactic
set_option linter.unusedVariables false
set_option linter.unusedSimpArgs false
namespace Go.Proofs.YtgbhcanfjmefiaaDoor.S
open Go.RowKit Go.Shelf Go.BigFrame Go.Proofs.YtgbhcanfjmefiaaDoor.H

attribute [local go_sem] Oper.semAt_some

theorem runs_blank (s : ByteArray) (hs : s.size ≤ 8796093022000) (w : World) :
    Calls Tryd.prog 16 #[.agg #[.func (.func 15) #[] #[]], .string s] w fun e W' => ∃ v, e = .returned v ∧ W'.ownsRow w.heap.size 9 1 v (runsOf (fun b => blankI (b.toNat : Int)) s).length (strs (runsOf (fun b => blankI (b.toNat : Int)) s)) ∧ Below w.heap.size w W' :=
  callsIn_wide.1 (runs_in Fence.wide 10 trivial trivial trivial rfl (by omega) _ rfl _ s hs w fun W Bs Bp cs cp => parts_stops_blank Fence.wide 9 trivial trivial rfl (by omega) Bs Bp s (by omega) W cs cp)

theorem split_calls (s : ByteArray) (hs : s.size ≤ 8796093022000) (w : World) :
    Calls Tryd.prog 5 #[.string s] w fun e W' => ∃ v, e = .returned (.tuple #[v, .bool (splitOf s).2]) ∧ W'.ownsRow w.heap.size 9 1 v (splitOf s).1.length (strs (splitOf s).1) ∧ Below w.heap.size w W' :=
  callsIn_wide.1 (split_in Fence.wide 10 trivial trivial trivial trivial trivial trivial rfl (by omega) s hs w fun w => callsIn_wide.2 ((Tryd.strings_CutSuffix s ⟨#[10]⟩ w (by omega)).mono fun e w' h => ⟨h.1, h.2.symm⟩))

/-- The longest of some texts. -/
def longestOf (l : List ByteArray) : Int := l.foldl (fun m x => max m (x.size : Int)) 0
theorem longest_snoc (l : List ByteArray) (x : ByteArray) : longestOf (l ++ [x]) = max (longestOf l) (x.size : Int) := by unfold longestOf; rw [List.foldl_append]; rfl
theorem longest_take {l : List ByteArray} (k : Nat) (h : k < l.length) : longestOf (l.take (k + 1)) = max (longestOf (l.take k)) (l[k].size : Int) := by
  rw [List.take_succ_eq_append_getElem h, longest_snoc]
theorem own_shape {W : World} {base e n : Nat} {v : Value} {l : List ByteArray} (h : W.ownsRow base e 1 v n (strs l)) : ∃ A cap, v = .slice A l.length cap ∧ n = l.length ∧ l.length ≤ cap ∧ cap ≤ maxLen ∧ ∀ k (hk : k < l.length), ∃ g, A = some ⟨g, 0, none⟩ ∧ W.cell? ⟨g, k, none⟩ = some (.string l[k]) := by
  have hn : n = l.length := by have := h.1; simp [strs] at this; omega
  rcases h.2 with ⟨h1, h2⟩ | ⟨g, cap, cur, h1, _⟩
  · have h0 : l.length = 0 := by omega
    exact ⟨none, 0, by rw [h1, h0], hn, by omega, by unfold maxLen; omega, fun k hk => absurd hk (by omega)⟩
  · subst h1
    have := twin_cap h
    exact ⟨_, cap, by rw [hn], hn, by omega, this.2, fun k hk => ⟨g, rfl, own_at h k hk⟩⟩

end Go.Proofs.YtgbhcanfjmefiaaDoor.S

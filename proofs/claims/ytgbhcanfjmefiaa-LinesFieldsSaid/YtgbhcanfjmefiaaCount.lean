/- lines.Fields, lines.Count. -/
import Derived.Test.YtgbhcanfjmefiaaRuns
import Derived.Deep.RegionHeld3
import Derived.RegionTactic
set_option linter.unusedVariables false
set_option linter.unusedSimpArgs false
namespace Go.Proofs.Ytgbhcanfjmefiaa.S
open Go.RowKit Go.Shelf Go.BigFrame Go.Proofs.Ytgbhcanfjmefiaa.H

attribute [local go_sem] Oper.semAt_some

theorem runs_idle (s : ByteArray) (hs : s.size ≤ 8796093022000) (w : World) :
    Calls Try.prog 38 #[.agg #[.func (.func 36) #[] #[]], .string s] w fun e W' => ∃ v, e = .returned v ∧ W'.ownsRow w.heap.size 9 1 v (runsOf (fun b => idleI (b.toNat : Int)) s).length (strs (runsOf (fun b => idleI (b.toNat : Int)) s)) ∧ Below w.heap.size w W' :=
  callsIn_wide.1 (runs_in Fence.wide 10 trivial trivial trivial rfl (by omega) _ rfl _ s hs w fun W Bs Bp cs cp => parts_stops_idle Fence.wide 9 trivial trivial rfl (by omega) Bs Bp s (by omega) W cs cp)
theorem runs_blank (s : ByteArray) (hs : s.size ≤ 8796093022000) (w : World) :
    Calls Try.prog 38 #[.agg #[.func (.func 40) #[] #[]], .string s] w fun e W' => ∃ v, e = .returned v ∧ W'.ownsRow w.heap.size 9 1 v (runsOf (fun b => blankI (b.toNat : Int)) s).length (strs (runsOf (fun b => blankI (b.toNat : Int)) s)) ∧ Below w.heap.size w W' :=
  callsIn_wide.1 (runs_in Fence.wide 10 trivial trivial trivial rfl (by omega) _ rfl _ s hs w fun W Bs Bp cs cp => parts_stops_blank Fence.wide 9 trivial trivial rfl (by omega) Bs Bp s (by omega) W cs cp)

theorem split_calls (s : ByteArray) (hs : s.size ≤ 8796093022000) (w : World) :
    Calls Try.prog 30 #[.string s] w fun e W' => ∃ v, e = .returned (.tuple #[v, .bool (splitOf s).2]) ∧ W'.ownsRow w.heap.size 9 1 v (splitOf s).1.length (strs (splitOf s).1) ∧ Below w.heap.size w W' :=
  callsIn_wide.1 (split_in Fence.wide 10 trivial trivial trivial trivial trivial trivial rfl (by omega) s hs w fun w => callsIn_wide.2 ((Try.strings_CutSuffix s ⟨#[10]⟩ w (by omega)).mono fun e w' h => ⟨h.1, h.2.symm⟩))

/-- The longest of some texts. -/
def longestOf (l : List ByteArray) : Int := l.foldl (fun m x => max m (x.size : Int)) 0
theorem longest_snoc (l : List ByteArray) (x : ByteArray) : longestOf (l ++ [x]) = max (longestOf l) (x.size : Int) := by unfold longestOf; rw [List.foldl_append]; rfl
theorem longest_take {l : List ByteArray} (k : Nat) (h : k < l.length) : longestOf (l.take (k + 1)) = max (longestOf (l.take k)) (l[k].size : Int) := by
  rw [List.take_succ_eq_append_getElem h, longest_snoc]
theorem own_shape {W : World} {base e n : Nat} {v : Value} {l : List ByteArray} (h : W.ownsRow base e 1 v n (strs l)) : ∃ A cap, v = .slice A l.length cap ∧ n = l.length ∧ l.length ≤ cap ∧ cap ≤ maxLen ∧ ∀ k (hk : k < l.length), ∃ g, A = some ⟨g, 0, none⟩ ∧ W.cell? ⟨g, k, none⟩ = some (.string l[k]) := by
  have hn : n = l.length := by have := h.1; simp [strs] at this; omega
  rcases h.2 with ⟨h1, h2⟩ | ⟨g, cap, cur, h1, _⟩
  · have h0 : l.length = 0 := by omega
    exact ⟨none, 0, by rw [h1, h0], hn, by omega, by unfold maxLen; omega, fun k hk => absurd hk (by omega)⟩
  · subst h1
    have := twin_cap h
    exact ⟨_, cap, by rw [hn], hn, by omega, this.2, fun k hk => ⟨g, rfl, own_at h k hk⟩⟩

set_option maxHeartbeats 4000000 in
set_option maxRecDepth 100000 in
theorem count_walk (s : ByteArray) (hs : s.size ≤ 8796093022000) (w : World) :
    Calls Try.prog 26 #[.string s] w fun e w' => e = .returned (.tuple #[.int .i64 (Lib.countByte s.data.toList 10), .int .i64 (runsOf (fun b => idleI (b.toNat : Int)) s).length, .int .i64 s.size, .int .i64 (longestOf (splitOf s).1)]) ∧ Below w.heap.size w w' := by
  go_enter Try.func26, Try.ntmps26
  go_wp2_with (go_at_call 30; refine (split_calls s hs w).mono ?_; rintro e w1 ⟨v, rfl, hown, hb1⟩; obtain ⟨A, cap, rfl, -, hcap, hcm, hcell⟩ := own_shape hown; have hX := Lib.hid (And.intro hcell hb1); clear hown hcell hb1)
  have hlm : (splitOf s).1.length ≤ 9223372036854775807 := by unfold maxLen at hcm; omega
  obtain ⟨l, hl⟩ : ∃ l, (splitOf s).1 = l := ⟨_, rfl⟩
  rw [hl] at hX hlm hcap ⊢
  have hl' := Lib.hid hl
  clear hl hcm
  go_loopw [5, 9, 18] (fun lg x i wr => ∃ k : Nat, k ≤ l.length ∧ i = .int .i64 k ∧ lg = .int .i64 (longestOf (l.take k)) ∧ wr = w1) (fun _ _ i _ => l.length - (intOf i).toNat)
  case atStart => exact ⟨0, Nat.zero_le _, rfl, rfl, rfl⟩
  case round =>
    obtain ⟨k, hk, rfl, rfl, rfl⟩ := hrel
    by_cases hlt : k < l.length
    · obtain ⟨g, rfl, hc⟩ := hX.out.1 k hlt
      have hst := Lib.hid (longest_take k hlt)
      go_wp2
      go_roundw
      case rel => exact ⟨k + 1, by omega, by go_num, by rw [hst.out], by first | rfl | trivial⟩
      case measure => simp [intOf]; omega
    · obtain rfl : k = l.length := by omega
      rw [List.take_length]
      obtain ⟨-, hb1⟩ := hX.out
      clear hX
      go_wp2
      obtain ⟨W0, hW0⟩ : ∃ W0, wr.alloc (Obj.cells #[Value.func (Fn.func 36) #[] #[]] 54) = W0 := ⟨_, rfl⟩
      have hbx : W0.cell? ⟨wr.heap.size, 0, none⟩ = some (.func (.func 36) #[] #[]) := by
        rw [← hW0]; exact (Boxed.new wr 54 _).cell
      have hb0 : Below w.heap.size w W0 := by rw [← hW0]; exact bal hb1 _
      rw [hW0]
      go_region_held3 (fun w' => w'.cell? ⟨wr.heap.size, 0, none⟩ = some (.func (.func 36) #[] #[])) (first | assumption | exact pw_cell_below' hbq ‹_› | go_keep) ((first | (go_at_call 37; refine (Try.strings_Count_one s 10 _).mono ?_; rintro e w' ⟨rfl, rfl⟩) | (go_at_call 38; refine (runs_idle s hs _).mono ?_; rintro e w2 ⟨v, rfl, hown, hbq⟩; obtain ⟨A2, cap2, rfl, -, -, hcm2, -⟩ := own_shape hown)))
      have hbf : Below w.heap.size w w2 := bth (bdr hb0) hbq
      have hbF := Lib.hid hbf
      clear hbf hbq hown hb0 hb1 hbx hW0
      go_wp2
      refine bodyPost_ret (v := .tuple #[.int .i64 (Lib.countByte s.data.toList 10), .int .i64 (runsOf (fun b => idleI (b.toNat : Int)) s).length, .int .i64 s.size, .int .i64 (longestOf l)]) (by simp [results, Try.results26, go_sem]) rfl ⟨by rw [hl'.out], hbF.out⟩
end Go.Proofs.Ytgbhcanfjmefiaa.S

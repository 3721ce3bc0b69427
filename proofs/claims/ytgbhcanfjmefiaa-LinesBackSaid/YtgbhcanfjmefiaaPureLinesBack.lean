/- LinesBack: the plain law. -/
import Derived.Test.YtgbhcanfjmefiaaQx17
import Derived.Test.YtgbhcanfjmefiaaAlive
import Derived.Test.YtgbhcanfjmefiaaEv
set_option linter.unusedVariables false
set_option linter.unusedSimpArgs false
namespace Go.Proofs.Ytgbhcanfjmefiaa.Pure
open Go.RowKit Go.Proofs.Ytgbhcanfjmefiaa.Q Go.Proofs.YtgbhcanfjmefiaaW.PrintWords Go.Proofs.YtgbhcanfjmefiaaW.PrintLast Go.Proofs.Ytgbhcanfjmefiaa.S

theorem back_l1 (s : ByteArray) (l : List ByteArray) (e : Bool) (i : Nat) (hi : i < l.length) (hsz : l[i].size ≤ 1048576) (hli : i ≤ 2000000) (hno : ∀ c ∈ l[i].data.toList, isNl c = false)
    (hnext : Ev (fun k => toolchestlaw02_LinesBack.l0 k s l e ((i + 1 : Nat) : Int)) true) : ∀ (m j : Nat), j + m = l[i].size → Ev (fun k => toolchestlaw02_LinesBack.l1 k s l e (i : Int) (j : Int)) true := by
  have ci := nat_nn i
  have ci2 := nat_lt hi
  have hr := rdOf_at l i hi
  have hw := wrap_one i (by omega)
  intro m
  induction m with
  | zero =>
    intro j hj
    have hjj : ¬ ((j : Nat) : Int) < (l[i].size : Int) := not_nat_lt (by omega)
    refine hnext.step fun k hk => ?_
    simp only [toolchestlaw02_LinesBack.l1]
    rw [if_pos ci, if_pos ci2, hr, if_neg hjj, hw]
    exact hk
  | succ m ih =>
    intro j hj
    have hjl : j < l[i].data.toList.length := by rw [← Lib.size_eq]; omega
    have hjj : ((j : Nat) : Int) < (l[i].size : Int) := nat_lt (by omega)
    have cj := nat_nn j
    have hwj := wrap_one j (by omega)
    have hb := bt_list l[i] j hjl
    have hn := hno _ (List.getElem_mem hjl)
    have hne : ¬ (((l[i].data.toList[j]).toNat : Int) = 10) := fun e => by
      have : l[i].data.toList[j] = 10 := UInt8.toNat_inj.1 (Int.ofNat_inj.1 e)
      rw [(isNl_iff _).2 this] at hn
      cases hn
    refine (ih (j + 1) (by omega)).step fun k hk => ?_
    simp only [toolchestlaw02_LinesBack.l1]
    rw [if_pos ci, if_pos ci2, hr, if_pos hjj, if_pos cj, hb, if_neg hne, hwj]
    exact hk
theorem back_l0 (s : ByteArray) (l : List ByteArray) (e : Bool) (hlen : l.length ≤ 2000000) (hall : ∀ x ∈ l, x.size ≤ 1048576 ∧ ∀ c ∈ x.data.toList, isNl c = false)
    (hend : Ev (fun k => toolchestlaw02_LinesBack.l0 k s l e (l.length : Int)) true) : ∀ (m i : Nat), i + m = l.length → Ev (fun k => toolchestlaw02_LinesBack.l0 k s l e (i : Int)) true := by
  intro m
  induction m with
  | zero =>
    intro i hi
    obtain rfl : i = l.length := by omega
    exact hend
  | succ m ih =>
    intro i hi
    have hlt : i < l.length := by omega
    have ci2 := nat_lt hlt
    obtain ⟨h1, h2⟩ := hall _ (List.getElem_mem hlt)
    refine (back_l1 s l e i hlt h1 (by omega) h2 (ih (i + 1) (by omega)) l[i].size 0 (by omega)).step fun k hk => ?_
    simp only [toolchestlaw02_LinesBack.l0]
    rw [if_pos ci2]
    exact hk
theorem joinL_ends (ls : List (List UInt8)) : joinL (ls.map bs) = endsL ls := by
  unfold joinL endsL
  rw [List.flatMap_map]
  simp only [bs_toList]
theorem LinesBack : toolchestlaw02_LinesBack.Pure := by
  intro a0 h0
  by_cases hb : a0.size ≤ 1048576
  · have hl := linesL_len a0.data.toList
    have hle := linesL_le a0.data.toList
    have hnn := linesL_none a0.data.toList
    have hsz : a0.data.toList.length = a0.size := (Lib.size_eq a0).symm
    have hends := ends_lines a0.data.toList
    have hnil := linesL_nil a0.data.toList
    have hj : (joinL ((linesL a0.data.toList).map bs)).length ≤ 140737488355328 := by
      rw [joinL_ends, hends]
      split
      · simp
      · split
        · omega
        · rw [List.length_append]; simp; omega
    have hjf : lines_Join.f ((linesL a0.data.toList).map bs) = some (bs (endsL (linesL a0.data.toList))) := by
      unfold lines_Join.f
      rw [if_pos hj, joinL_ends]; rfl
    have hfin : Ev (fun k => toolchestlaw02_LinesBack.l0 k a0 ((linesL a0.data.toList).map bs) (splitOf a0).2 (((linesL a0.data.toList).map bs).length : Int)) true := by
      refine Ev.now fun k => ?_
      simp only [toolchestlaw02_LinesBack.l0]
      rw [if_neg (not_nat_lt (Nat.lt_irrefl _)), hjf, Option.bind_some, Option.bind_some]
      by_cases he : a0.size = 0
      · have hn : a0.data.toList = [] := (toList_eq_nil a0).2 he
        rw [if_neg (by omega), if_pos (by rw [Lib.toList_data, Lib.toList_data, bs_toList, hends, if_pos hn, hn]), hnil.2 hn]
        simp [he]
      · have hn : ¬ a0.data.toList = [] := fun e => he ((toList_eq_nil a0).1 e)
        have hln : 0 < (linesL a0.data.toList).length := List.length_pos_iff.2 fun e => hn (hnil.1 e)
        have h2 : (splitOf a0).2 = Lib.hasSuffix a0.data.toList [10] := by unfold splitOf; rw [if_neg he]
        have hd : ((decide ((((linesL a0.data.toList).map bs).length : Int) > 0)) == (decide ((a0.size : Int) > 0))) = true := by
          rw [List.length_map, decide_eq_true (show ((linesL a0.data.toList).length : Int) > 0 by omega), decide_eq_true (show (a0.size : Int) > 0 by omega)]; rfl
        rw [if_pos (by omega), h2, hd]
        cases hs : Lib.hasSuffix a0.data.toList [10] with
        | true =>
          rw [if_pos rfl, if_pos (by rw [Lib.toList_data, Lib.toList_data, bs_toList, hends, if_neg hn, if_pos hs])]
        | false =>
          rw [if_neg (by decide), if_pos (by omega), if_pos (by rw [Lib.toList_data, Lib.toList_data, bs_toList, hends, if_neg hn, if_neg (by rw [hs]; decide)]; simp [ByteArray.data_append])]
    have hall : ∀ x ∈ (linesL a0.data.toList).map bs, x.size ≤ 1048576 ∧ ∀ c ∈ x.data.toList, isNl c = false := by
      intro x hx
      obtain ⟨y, hy, rfl⟩ := List.mem_map.1 hx
      rw [bs_size, bs_toList]
      exact ⟨by have := hle y hy; omega, hnn y hy⟩
    obtain ⟨k0, hk⟩ := back_l0 a0 _ (splitOf a0).2 (by rw [List.length_map]; omega) hall hfin _ 0 (Nat.zero_add _)
    refine ⟨max k0 40 + 1, ?_⟩
    unfold toolchestlaw02_LinesBack.f
    rw [alive_ge _ (by omega), Option.bind_some, if_pos rfl, beyond_ge _ _ (by omega) (by omega) (by omega), Option.bind_some]
    simp only [toolchestlaw02_LinesBack.j0]
    rw [if_neg (by simp; omega), split_f a0 (by omega), Option.bind_some]
    exact hk _ (by omega)
  · refine ⟨41, ?_⟩
    unfold toolchestlaw02_LinesBack.f
    rw [alive_ge 41 (by decide), Option.bind_some, if_pos rfl, beyond_ge 41 _ (by decide) (by omega) (by omega), Option.bind_some]
    simp only [toolchestlaw02_LinesBack.j0]
    rw [if_pos (by simp; omega), alive_ge 40 (by decide), Option.bind_some]
end Go.Proofs.Ytgbhcanfjmefiaa.Pure

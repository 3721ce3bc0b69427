/- CutsBytes: the reference tells the same bytes; the walk of the law. -/
import Derived.Test.YtkedjlekeohpaaaQx1
import Derived.Test.YtkedjlekeohpaaaQx2
import Derived.Test.YtkedjlekeohpaaaEvs
import Derived.Test.YtkedjlekeohpaaaCBytes
set_option linter.unusedVariables false
set_option linter.unusedSimpArgs false
namespace Go.Proofs.Ytkedjlekeohpaaa.P
open Go.RowKit Go.Proofs.Ytkedjlekeohpaaa.Q Go.Proofs.Ytkedjlekeohpaaa.H Go.Proofs.Ytkedjlekeohpaaa.C Go.Proofs.YtkedjlekeohpaaaW.PrintWords Go.Proofs.YtkedjlekeohpaaaW.PrintLast

theorem rdT_at (l : List RS) (i : Nat) (h : i < l.length) : rd_T33 l (i : Int) = l[i] := by unfold rd_T33; rw [List.getD_eq_getElem?_getD, Int.toNat_natCast, List.getElem?_eq_getElem h]; rfl
theorem has_loop (l : List RS) (n : Int) (hl : l.length ≤ 100000000) : ∀ (d i : Nat), i + d = l.length → Ev (fun k => toolchestref03_Has.l0 k l n (i : Int)) (hasR (l.drop i) n) := by
  intro d
  induction d with
  | zero =>
    intro i hi
    rw [List.drop_of_length_le (by omega)]
    refine Ev.now fun k => ?_
    simp only [toolchestref03_Has.l0]
    rw [if_neg (not_nat_lt (by omega))]
    rfl
  | succ d ih =>
    intro i hi
    have hlt : i < l.length := by omega
    have hw := wrap_one i (by omega)
    have hd : l.drop i = l[i] :: l.drop (i + 1) := List.drop_eq_getElem_cons hlt
    have hc : hasR (l[i] :: l.drop (i + 1)) n = (inR l[i] n || hasR (l.drop (i + 1)) n) := rfl
    rw [hd, hc]
    refine (ih (i + 1) (by omega)).next fun k hk => ?_
    simp only [toolchestref03_Has.l0]
    rw [if_pos (nat_lt hlt), if_pos (nat_nn i), rdT_at l i hlt, hw]
    by_cases h1 : n ≥ l[i].f0
    · rw [if_pos h1]
      have h1' : decide (l[i].f0 ≤ n) = true := by simpa using h1
      by_cases h2 : l[i].f1 = 0
      · rw [if_pos h2]; unfold inR; rw [h1', h2]; rfl
      · rw [if_neg h2]
        have h2' : (l[i].f1 == 0) = false := by simpa using h2
        by_cases h3 : n ≤ l[i].f1
        · rw [if_pos h3]; unfold inR; rw [h1', h2', decide_eq_true h3]; rfl
        · rw [if_neg h3, hk]; unfold inR; rw [h1', h2', decide_eq_false h3]; rfl
    · rw [if_neg h1, hk]
      have h1' : decide (l[i].f0 ≤ n) = false := by simpa using h1
      unfold inR; rw [h1']; rfl
theorem has_f (l : List RS) (n : Int) (hl : l.length ≤ 100000000) : Ev (fun k => toolchestref03_Has.f k l n) (hasR l n) := has_loop l n hl l.length 0 (Nat.zero_add _)
def nat8 (l : List UInt8) : List Int := l.map fun b => (b.toNat : Int)
theorem str_nat8 (l : List UInt8) : strOfNums (nat8 l) = ⟨l.toArray⟩ := by
  unfold strOfNums nat8
  congr 1
  simp [Function.comp_def]
theorem bytes_loop (s : ByteArray) (l : List RS) (hs : s.size ≤ 100000000) (hl : l.length ≤ 100000000) : ∀ (d i : Nat), i + d = s.size → Ev (fun k => toolchestref07_Bytes.l0 k s l (nat8 (pickL (hasN l) 1 (s.data.toList.take i))) (i : Int)) (⟨(pickL (hasN l) 1 s.data.toList).toArray⟩ : ByteArray) := by
  have hsz : s.data.toList.length = s.size := (Lib.size_eq s).symm
  intro d
  induction d with
  | zero =>
    intro i hi
    obtain rfl : i = s.size := by omega
    refine Ev.now fun k => ?_
    simp only [toolchestref07_Bytes.l0]
    rw [if_neg (not_nat_lt (by omega)), str_nat8, ← hsz, List.take_length]
  | succ d ih =>
    intro i hi
    have hlt : i < s.size := by omega
    have hlt' : i < s.data.toList.length := by omega
    have hw := wrap_one i (by omega)
    have hlen : (nat8 (pickL (hasN l) 1 (s.data.toList.take i))).length < 140737488355328 := by
      have := pick_len (hasN l) (s.data.toList.take i) 1
      rw [List.length_take] at this
      unfold nat8
      rw [List.length_map]; omega
    obtain ⟨k0, h0⟩ := Ev.and (ih (i + 1) (by omega)) (has_f l ((i : Int) + 1) hl)
    refine ⟨k0 + 1, fun k hk => ?_⟩
    obtain ⟨j, rfl⟩ : ∃ j, k = j + 1 := ⟨k - 1, by omega⟩
    obtain ⟨h1, h2⟩ := h0 j (by omega)
    have h2' : toolchestref03_Has.f j l ((i + 1 : Nat) : Int) = some (hasR l ((i : Int) + 1)) := h2
    show toolchestref07_Bytes.l0 (j + 1) s l _ _ = _
    simp only [toolchestref07_Bytes.l0]
    rw [if_pos (nat_lt hlt), hw, h2', Option.bind_some]
    have hst : pickL (hasN l) 1 (s.data.toList.take (i + 1)) = pickL (hasN l) 1 (s.data.toList.take i) ++ (if hasN l (i + 1) = true then [s.data.toList[i]] else []) := by
      rw [List.take_succ_eq_append_getElem hlt', pick_snoc, List.length_take, Nat.min_eq_left (by omega), Nat.add_comm 1 i]
    have h1' : toolchestref07_Bytes.l0 j s l (nat8 (pickL (hasN l) 1 (s.data.toList.take (i + 1)))) ((i + 1 : Nat) : Int) = some _ := h1
    rw [hst] at h1'
    by_cases hh : hasR l ((i : Int) + 1) = true
    · rw [if_pos hh, if_pos (nat_nn i), if_pos hlen, bt_list s i hlt']
      rw [if_pos (show hasN l (i + 1) = true from hh)] at h1'
      have e : nat8 (pickL (hasN l) 1 (s.data.toList.take i) ++ [s.data.toList[i]]) = nat8 (pickL (hasN l) 1 (s.data.toList.take i)) ++ [((s.data.toList[i]).toNat : Int)] := by unfold nat8; rw [List.map_append]; rfl
      rw [e] at h1'
      exact h1'
    · rw [if_neg hh]
      rw [if_neg (show ¬ hasN l (i + 1) = true from hh), List.append_nil] at h1'
      exact h1'
theorem refBytes_f (s : ByteArray) (l : List RS) (hs : s.size ≤ 100000000) (hl : l.length ≤ 100000000) : Ev (fun k => toolchestref07_Bytes.f k s l) (⟨(pickL (hasN l) 1 s.data.toList).toArray⟩ : ByteArray) := bytes_loop s l hs hl s.size 0 (Nat.zero_add _)
theorem great_f (s : ByteArray) (l : List RS) : toolchestlaw07_great.f s l = some true ∨ (toolchestlaw07_great.f s l = some false ∧ s.size ≤ 100000 ∧ l.length ≤ 5000) := by
  unfold toolchestlaw07_great.f
  by_cases h1 : (s.size : Int) > 100000
  · rw [if_pos h1]; exact .inl rfl
  · rw [if_neg h1]
    by_cases h2 : (l.length : Int) > 5000
    · rw [if_pos h2]; exact .inl rfl
    · rw [if_neg h2]
      by_cases h3 : wrap64 ((s.size : Int) * (l.length : Int)) > 5000000
      · rw [decide_eq_true h3]; exact .inl rfl
      · rw [decide_eq_false h3]; exact .inr ⟨rfl, by omega, by omega⟩
set_option maxHeartbeats 1000000 in
set_option maxRecDepth 100000 in
theorem cutsBytes (a0 : ByteArray) (A1 : Option Addr) (z1 : Nat) (l1 : List RS) (W : World) (hr1 : Kd.C k33 W A1 l1.length l1) (hc1 : l1.length ≤ z1) :
    Calls Try.prog 3 #[.string a0, .slice A1 l1.length z1] W fun e W' => e = .returned (.bool true) ∧ Below W.heap.size W W' := by
  have HR := Lib.hid hr1
  clear hr1
  rcases great_f a0 l1 with hg | ⟨hg, hs, hl⟩
  · have HG := Lib.hid hg
    clear hg
    go_enter Try.func3, Try.ntmps3
    go_wp2_with (go_at_call 5; refine (toolchestlaw07_great.calls a0 A1 z1 l1 true _ HR.out hc1 HG.out).mono ?_)
    rintro e w1 ⟨rfl, hb1⟩
    go_wp2
    go_ret
    exact ⟨rfl, hb1.below⟩
  · have HG := Lib.hid hg
    obtain ⟨kr, hkr⟩ := (refBytes_f a0 l1 (by omega) (by omega)).at_
    have KR := Lib.hid hkr
    clear hg hkr
    go_enter Try.func3, Try.ntmps3
    go_wp2_with (go_at_call 5; refine (toolchestlaw07_great.calls a0 A1 z1 l1 false _ HR.out hc1 HG.out).mono ?_)
    rintro e w1 ⟨rfl, hb1⟩
    have B1 := Lib.hid hb1.below
    have R1 := Lib.hid (Kd.C_below HR.out B1.out)
    clear hb1
    go_wp2_with (go_at_call 6; refine (twinRanges A1 z1 l1 _ R1.out hc1 (by omega)).mono ?_)
    rintro e w2 ⟨g, cap, rfl, ho2, hb2⟩
    have O2 := Lib.hid ho2
    have B2 := Lib.hid (bth B1.out hb2)
    have R2 := Lib.hid (Kd.C_below R1.out hb2)
    have hcap : l1.length ≤ cap := by have := (twin_cap ho2).1; omega
    have T2 : Hid (Kd.C k33 w2 (some ⟨g, 0, none⟩) l1.length l1) := Lib.hid (by have := Cr_own ho2 l1.length (by simp); simpa using this)
    clear ho2 hb2
    go_wp2_with (go_at_call 7; refine (bytes_calls a0 (by omega) (some ⟨g, 0, none⟩) cap l1 _ T2.out hcap).mono ?_)
    rintro e w3 ⟨rfl, hb3⟩
    have O3 := Lib.hid (pw_own_below O2.out hb3)
    have B3 := Lib.hid (bth B2.out hb3)
    have R3 := Lib.hid (Kd.C_below R2.out hb3)
    clear hb3
    go_wp2_with (go_at_call 8; refine (toolchestref07_Bytes.calls kr a0 A1 z1 l1 _ _ R3.out hc1 KR.out).mono ?_)
    rintro e w4 ⟨rfl, hb4⟩
    have O4 := Lib.hid (pw_own_below O3.out hb4)
    have B4 := Lib.hid (bth B3.out hb4)
    have R4 := Lib.hid (Kd.C_below R3.out hb4)
    clear hb4
    go_wp2_with (go_at_call 9; refine (leftRanges g cap _ A1 z1 l1 _ R4.out hc1 O4.out).mono ?_)
    rintro e w5 ⟨rfl, hb5⟩
    go_wp2
    go_ret
    exact ⟨rfl, bth B4.out hb5⟩
theorem CutsBytes_walk {OkR : RS → Prop} (a0 : ByteArray) (A1 : Option Addr) (z1 : Nat) (l1 : List S33) (W : World) (ok0 : a0.size ≤ 140737488351232) (hr1 : Kd.C k33 W A1 l1.length l1) (hc1 : l1.length ≤ z1) (ok1 : (∀ a ∈ l1, OkR a) ∧ l1.length * 16 ≤ 140737488351232) :
    Calls Try.prog 3 #[.string a0, .slice A1 l1.length z1] W fun e W' => e = .returned (.bool true) ∧ Below W.heap.size W W' := by
  exact cutsBytes a0 A1 z1 l1 W hr1 hc1
end Go.Proofs.Ytkedjlekeohpaaa.P

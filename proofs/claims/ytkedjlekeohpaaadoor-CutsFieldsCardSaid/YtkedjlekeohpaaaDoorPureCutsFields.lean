/- CutsFields: the reference tells the same fields; the walk of the law. -/
import Derived.Test.YtkedjlekeohpaaaDoorQx1
import Derived.Test.YtkedjlekeohpaaaDoorCHas
import Derived.Test.YtkedjlekeohpaaaDoorCFields
set_option linter.unusedVariables false
set_option linter.unusedSimpArgs false
namespace Go.Proofs.YtkedjlekeohpaaaDoor.P
open Go.RowKit Go.Proofs.YtkedjlekeohpaaaDoor.Q Go.Proofs.YtkedjlekeohpaaaDoor.H Go.Proofs.YtkedjlekeohpaaaDoor.C Go.Proofs.YtkedjlekeohpaaaDoor.S Go.Proofs.YtkedjlekeohpaaaDoorW.PrintWords Go.Proofs.YtkedjlekeohpaaaDoorW.PrintLast

theorem bytesOf_bs (x : List UInt8) : bytesOf (bs x) = nat8 x := by unfold bytesOf nat8; rw [bs_toList]
theorem joinTail_snoc (c : UInt8) (l : List (List UInt8)) (y : List UInt8) : Lib.joinTail [c] (l ++ [y]) = Lib.joinTail [c] l ++ c :: y := by simp [Lib.joinTail]
theorem join_snoc (c : UInt8) (l : List (List UInt8)) (y : List UInt8) : Lib.join (l ++ [y]) [c] = (if l.isEmpty then y else Lib.join l [c] ++ c :: y) := by
  cases l with
  | nil => exact Lib.join_one y [c]
  | cons x r =>
    rw [List.cons_append, Lib.join_cons, Lib.join_cons, joinTail_snoc]
    simp
/-- How long the fields that are told so far may be. -/
theorem told_le (l : List RS) (c : UInt8) (t : List UInt8) (j : Nat) : (Lib.join (pickL (hasN l) 1 ((splitL (· == c) t).take j)) [c]).length ≤ t.length + 1 := by
  refine Nat.le_trans (join_tail_le _ _) (Nat.le_trans (tail_len _ _ _ _) ?_)
  rw [← tail_split c t]
  have : ∀ (L : List (List UInt8)) (j : Nat), (Lib.joinTail [c] (L.take j)).length ≤ (Lib.joinTail [c] L).length := by
    intro L
    induction L with
    | nil => intro j; simp
    | cons x L ih =>
      intro j
      cases j with
      | zero => simp [Lib.joinTail]
      | succ j =>
        have := ih j
        have e : ∀ M : List (List UInt8), (Lib.joinTail [c] (x :: M)).length = 1 + x.length + (Lib.joinTail [c] M).length := by intro M; simp [Lib.joinTail]; omega
        rw [List.take_succ_cons, e, e]; omega
  exact this _ j
theorem ref_l1 (l : List RS) (c : UInt8) (t : List UInt8) (ht : t.length ≤ 100000) (hl : l.length ≤ 100000000) : ∀ (d j : Nat), j + d = (splitL (· == c) t).length →
    Ev (fun k => toolchestref07_Fields.l1 k l (c.toNat : Int) ((splitL (· == c) t).map bs) (nat8 (Lib.join (pickL (hasN l) 1 ((splitL (· == c) t).take j)) [c])) (!(pickL (hasN l) 1 ((splitL (· == c) t).take j)).isEmpty) (j : Int)) ((⟨(Lib.join (pickL (hasN l) 1 (splitL (· == c) t)) [c]).toArray⟩ : ByteArray), true) := by
  have hLl := splL_len (· == c) t
  obtain ⟨L, hL⟩ : ∃ L, splitL (· == c) t = L := ⟨_, rfl⟩
  have hto := fun j => told_le l c t j
  have hto0 := told_le l c t (splitL (· == c) t).length
  rw [List.take_length] at hto0
  rw [hL] at hLl hto0 ⊢
  simp only [hL] at hto
  have hlen : (L.map bs).length = L.length := List.length_map _
  intro d
  induction d with
  | zero =>
    intro j hj
    obtain rfl : j = L.length := by omega
    refine Ev.now fun k => ?_
    simp only [toolchestref07_Fields.l1]
    rw [hlen, if_neg (not_nat_lt (by omega)), str_nat8, List.take_length]
  | succ d ih =>
    intro j hj
    have hlt : j < L.length := by omega
    have hw := wrap_one j (by omega)
    have hx : rdOf ByteArray.empty (L.map bs) (j : Int) = bs L[j] := by rw [rdOf_at _ j (by rw [hlen]; exact hlt), List.getElem_map]
    have hst : pickL (hasN l) 1 (L.take (j + 1)) = pickL (hasN l) 1 (L.take j) ++ (if hasN l (j + 1) = true then [L[j]] else []) := by
      rw [List.take_succ_eq_append_getElem hlt, pick_snoc, List.length_take, Nat.min_eq_left (by omega), Nat.add_comm 1 j]
    have hb1 := hto j
    have hb2 := hto (j + 1)
    obtain ⟨k0, h0⟩ := Ev.and (ih (j + 1) (by omega)) (has_f l ((j : Int) + 1) hl)
    refine ⟨k0 + 1, fun k hk => ?_⟩
    obtain ⟨m, rfl⟩ : ∃ m, k = m + 1 := ⟨k - 1, by omega⟩
    obtain ⟨h1, h2⟩ := h0 m (by omega)
    have h2' : toolchestref03_Has.f m l ((j + 1 : Nat) : Int) = some (hasR l ((j : Int) + 1)) := h2
    show toolchestref07_Fields.l1 (m + 1) l _ _ _ _ _ = _
    simp only [toolchestref07_Fields.l1]
    rw [hlen, if_pos (nat_lt hlt), hw, h2', Option.bind_some]
    have h1' : toolchestref07_Fields.l1 m l (c.toNat : Int) (L.map bs) (nat8 (Lib.join (pickL (hasN l) 1 (L.take (j + 1))) [c])) (!(pickL (hasN l) 1 (L.take (j + 1))).isEmpty) ((j + 1 : Nat) : Int) = some _ := h1
    rw [hst] at h1' hb2
    obtain ⟨P, hP⟩ : ∃ P, pickL (hasN l) 1 (L.take j) = P := ⟨_, rfl⟩
    rw [hP] at h1' hb1 hb2 ⊢
    have hn8 : ∀ x : List UInt8, (nat8 x).length = x.length := fun x => by unfold nat8; simp
    by_cases hh : hasR l ((j : Int) + 1) = true
    · have hh' : hasN l (j + 1) = true := hh
      rw [if_pos hh]
      rw [if_pos hh'] at h1' hb2
      have hemp : (P ++ [L[j]]).isEmpty = false := by simp
      rw [hemp] at h1'
      rw [hx, bytesOf_bs, bs_size]
      rw [join_snoc] at h1' hb2
      cases hPe : P.isEmpty with
      | true =>
        rw [hPe] at h1' hb2
        have hPn : P = [] := by simpa using hPe
        subst hPn
        rw [if_pos rfl] at h1' hb2
        rw [if_neg (by decide), if_pos (nat_nn j), if_pos (by show (nat8 []).length + L[j].length < _; rw [hn8]; simp; omega)]
        exact h1'
      | false =>
        rw [hPe] at h1' hb2
        rw [if_neg (by decide)] at h1' hb2
        rw [List.length_append, List.length_cons] at hb2
        rw [if_pos (by decide), if_pos (by rw [hn8]; omega), Option.bind_some, if_pos (nat_nn j), if_pos (by rw [List.length_append, hn8]; simp; omega)]
        have e : nat8 (Lib.join P [c]) ++ [(c.toNat : Int)] ++ nat8 L[j] = nat8 (Lib.join P [c] ++ c :: L[j]) := by unfold nat8; simp
        rw [e]
        exact h1'
    · have hh' : ¬ hasN l (j + 1) = true := hh
      rw [if_neg hh]
      rw [if_neg hh', List.append_nil] at h1'
      exact h1'
theorem split_single (c : UInt8) (t : List UInt8) : (splitL (· == c) t).length = 1 ↔ ¬ c ∈ t := by
  refine parts_ind (· == c) (C := fun t => (splitL (· == c) t).length = 1 ↔ ¬ c ∈ t) ?_ ?_ t
  · intro l hl
    have e : splitL (· == c) l = [l] := by unfold splitL; rw [splitL_one _ l hl]; rfl
    rw [e]
    refine ⟨fun _ hc => ?_, fun _ => rfl⟩
    have := hl c hc
    simp at this
  · intro l d r hl hd ih
    obtain rfl : d = c := by simpa using hd
    rw [splitL_app (· == d) l r d hd, List.length_append]
    have h1 : 0 < (splitL (· == d) r).length := List.length_pos_iff.2 (splitL_ne _ _)
    have h2 : 0 < (splitL (· == d) l).length := List.length_pos_iff.2 (splitL_ne _ _)
    refine ⟨fun h => by omega, fun h => absurd (by simp) h⟩
theorem split_of_single (c : UInt8) (t : List UInt8) (h : ¬ c ∈ t) : splitL (· == c) t = [t] := by
  unfold splitL
  rw [splitL_one _ t (fun d hd => by rw [beq_eq_false_iff_ne]; intro e; exact h (e ▸ hd))]
  rfl
theorem ref_l0 (s : ByteArray) (l : List RS) (c : UInt8) (bare : Bool) (hs : s.size ≤ 100000) (hl : l.length ≤ 100000000) : ∀ (d i fr : Nat) (parts : List ByteArray), i + d = s.size → fr ≤ i →
    parts = (spl (· == c) (s.data.toList.take i)).1.map bs → (spl (· == c) (s.data.toList.take i)).2 = (s.data.toList.take i).drop fr →
    Ev (fun k => toolchestref07_Fields.l0 k s l (c.toNat : Int) bare parts (fr : Int) (i : Int)) ((⟨(fieldsE l c bare s.data.toList).1.toArray⟩ : ByteArray), (fieldsE l c bare s.data.toList).2) := by
  have hsz : s.data.toList.length = s.size := (Lib.size_eq s).symm
  have plen : ∀ i, (spl (· == c) (s.data.toList.take i)).1.length ≤ s.size + 1 := fun i => by
    have := splL_len (· == c) (s.data.toList.take i)
    unfold splitL at this
    rw [List.length_append, List.length_take] at this
    simp at this
    omega
  intro d
  induction d with
  | zero =>
    intro i fr parts hi hf hp hq
    obtain rfl : i = s.size := by omega
    have hw := wrap_one s.size (by omega)
    have htk : s.data.toList.take s.size = s.data.toList := by rw [← hsz, List.take_length]
    have hpl : parts.length < 8796093022208 := by rw [hp, List.length_map]; have := plen s.size; omega
    have hlast : parts ++ [s.extract fr s.size] = (splitL (· == c) s.data.toList).map bs := by
      unfold splitL
      rw [List.map_append, ← htk, ← hp, hq, extract_bs, htk]
      simp only [List.map_cons, List.map_nil]
      rw [List.take_of_length_le (by rw [List.length_drop, hsz]; exact Nat.le_refl _)]
    have hfin : Ev (fun k => toolchestref07_Fields.l0 k s l (c.toNat : Int) bare ((splitL (· == c) s.data.toList).map bs) ((s.size + 1 : Nat) : Int) ((s.size + 1 : Nat) : Int)) ((⟨(fieldsE l c bare s.data.toList).1.toArray⟩ : ByteArray), (fieldsE l c bare s.data.toList).2) := by
      unfold fieldsE
      by_cases hin : c ∈ s.data.toList
      · rw [if_pos hin]
        have h1 : ¬ (((((splitL (· == c) s.data.toList).map bs).length : Nat) : Int) = 1) := by
          rw [List.length_map]
          intro h
          exact (split_single c s.data.toList).1 (by omega) hin
        refine (ref_l1 l c s.data.toList (by omega) hl (splitL (· == c) s.data.toList).length 0 (Nat.zero_add _)).step fun k hk => ?_
        simp only [toolchestref07_Fields.l0]
        rw [if_neg (not_nat_le (by omega)), if_neg h1]
        exact hk
      · rw [if_neg hin]
        have h1 : (((((splitL (· == c) s.data.toList).map bs).length : Nat) : Int) = 1) := by
          rw [List.length_map, (split_single c s.data.toList).2 hin]; rfl
        cases bare with
        | true =>
          refine Ev.now fun k => ?_
          simp only [toolchestref07_Fields.l0]
          rw [if_neg (not_nat_le (by omega)), if_pos h1, if_pos trivial]
          rfl
        | false =>
          refine Ev.now fun k => ?_
          simp only [toolchestref07_Fields.l0]
          rw [if_neg (not_nat_le (by omega)), if_pos h1, if_neg (by decide)]
          show some (s, true) = some (bs s.data.toList, true)
          rw [bs_of]
    refine hfin.step fun k hk => ?_
    simp only [toolchestref07_Fields.l0]
    rw [if_pos (Int.le_refl _), if_pos trivial, if_pos (nat_nn _), if_pos (nat_le hf), if_pos hpl, hw, Int.toNat_natCast, Int.toNat_natCast, hlast]
    exact hk
  | succ d ih =>
    intro i fr parts hi hf hp hq
    have hlt : i < s.size := by omega
    have hlt' : i < s.data.toList.length := by omega
    have hw := wrap_one i (by omega)
    have hb := bt_list s i hlt'
    have htk : s.data.toList.take (i + 1) = s.data.toList.take i ++ [s.data.toList[i]] := List.take_succ_eq_append_getElem hlt'
    have hpl : parts.length < 8796093022208 := by rw [hp, List.length_map]; have := plen i; omega
    have hnn : ¬ ((i : Int) = (s.size : Int)) := by omega
    by_cases hc : s.data.toList[i] = c
    · have hpc : (s.data.toList[i] == c) = true := by simpa using hc
      have hst : spl (· == c) (s.data.toList.take (i + 1)) = ((spl (· == c) (s.data.toList.take i)).1 ++ [(spl (· == c) (s.data.toList.take i)).2], []) := by
        rw [htk, spl_snoc]; unfold stepL; rw [if_pos hpc]
      have hex : s.extract fr i = bs ((s.data.toList.take i).drop fr) := by rw [extract_bs, List.drop_take]
      refine (ih (i + 1) (i + 1) (parts ++ [s.extract fr i]) (by omega) (Nat.le_refl _) (by rw [hst, List.map_append, ← hp, hq, hex]; rfl) (by rw [hst]; simp only; rw [List.drop_of_length_le (by rw [List.length_take]; omega)])).step fun k hk => ?_
      simp only [toolchestref07_Fields.l0]
      rw [if_pos (nat_le (by omega)), if_neg hnn, if_pos (nat_nn i), if_pos (nat_lt hlt), hb, if_pos (by rw [hc]), if_pos (nat_nn _), if_pos (nat_le hf), if_pos hpl, hw, Int.toNat_natCast, Int.toNat_natCast]
      exact hk
    · have hpc : (s.data.toList[i] == c) = false := by simpa using hc
      have hst : spl (· == c) (s.data.toList.take (i + 1)) = ((spl (· == c) (s.data.toList.take i)).1, (spl (· == c) (s.data.toList.take i)).2 ++ [s.data.toList[i]]) := by
        rw [htk, spl_snoc]; unfold stepL; rw [if_neg (by show ¬ ((s.data.toList[i] == c) = true); rw [hpc]; decide)]
      have hne : ¬ ((s.data.toList[i].toNat : Int) = (c.toNat : Int)) := fun e => hc (UInt8.toNat_inj.1 (by omega))
      refine (ih (i + 1) fr parts (by omega) (by omega) (by rw [hst]; exact hp) (by rw [hst]; simp only; rw [hq, htk, List.drop_append_of_le_length (by rw [List.length_take]; omega)])).step fun k hk => ?_
      simp only [toolchestref07_Fields.l0]
      rw [if_pos (nat_le (by omega)), if_neg hnn, if_pos (nat_nn i), if_pos (nat_lt hlt), hb, if_neg hne, hw]
      exact hk
theorem refFields_f (s : ByteArray) (l : List RS) (c : UInt8) (bare : Bool) (hs : s.size ≤ 100000) (hl : l.length ≤ 100000000) :
    Ev (fun k => toolchestref07_Fields.f k s l (c.toNat : Int) bare) ((⟨(fieldsE l c bare s.data.toList).1.toArray⟩ : ByteArray), (fieldsE l c bare s.data.toList).2) :=
  ref_l0 s l c bare hs hl s.size 0 0 [] (Nat.zero_add _) (Nat.le_refl _) rfl rfl
set_option maxHeartbeats 1000000 in
set_option maxRecDepth 100000 in
theorem cutsFields (s : ByteArray) (c : UInt8) (bare : Bool) (A1 : Option Addr) (z1 : Nat) (l1 : List RS) (W : World) (hE : W.ShapedOpen Tryd.prog) (hr1 : Kd.C k34 W A1 l1.length l1) (hc1 : l1.length ≤ z1) :
    Calls Tryd.prog 3 #[.agg #[.string s, .int .u8 (c.toNat : Int), .bool bare], .slice A1 l1.length z1] W fun e W' => e = .returned (.bool true) ∧ Below W.heap.size W W' := by
  have HR := Lib.hid hr1
  have HE := Lib.hid hE
  clear hr1 hE
  obtain ⟨W1, hW1⟩ : ∃ W1, W.alloc (.cells #[.string s, .int .u8 (c.toNat : Int), .bool bare] 23) = W1 := ⟨_, rfl⟩
  have hb1 : Below W.heap.size W W1 := by rw [← hW1]; exact bal (Below.refl _ _) _
  have hx1 : W1.heap[W.heap.size]? = some (.cells #[.string s, .int .u8 (c.toNat : Int), .bool bare] 23 (0, 0)) := by rw [← hW1]; exact World.alloc_heap_new W _
  have HW1 := Lib.hid hW1
  have B1 := Lib.hid hb1
  have X1 := Lib.hid hx1
  have R1 := Lib.hid (Kd.C_below HR.out hb1)
  have q0 : W1.cell? ⟨W.heap.size, 0, none⟩ = some (.string s) := (blk_cell hx1 0).trans rfl
  have q1 : W1.cell? ⟨W.heap.size, 1, none⟩ = some (.int .u8 (c.toNat : Int)) := (blk_cell hx1 1).trans rfl
  have q2 : W1.cell? ⟨W.heap.size, 2, none⟩ = some (.bool bare) := (blk_cell hx1 2).trans rfl
  clear hW1 hb1 hx1
  rcases great_f s l1 with hg | ⟨hg, hs, hl⟩
  · have HG := Lib.hid hg
    clear hg
    go_enter Tryd.func3, Tryd.ntmps3
    go_upto_region 1 with (fail)
    rw [HW1.out]
    go_wp2_with (go_at_call 10; refine (toolchestlaw07_great.calls s A1 z1 l1 true _ R1.out hc1 HG.out).mono ?_)
    first | (rintro e w1 rfl hb1) | (rintro e w1 ⟨rfl, hb1⟩)
    go_wp2
    go_ret
    exact ⟨rfl, bth B1.out hb1.below⟩
  · have HG := Lib.hid hg
    obtain ⟨kr, hkr⟩ := (refFields_f s l1 c bare (by omega) (by omega)).at_
    have hfc := fun (A : Option Addr) (z : Nat) (w : World) (h : w.ShapedOpen Tryd.prog) h1 h2 => fields_calls s (by omega) A z l1 c bare w h h1 h2
    generalize fieldsE l1 c bare s.data.toList = R at hkr hfc
    obtain ⟨r, ok⟩ := R
    have KR := Lib.hid hkr
    have FC := Lib.hid hfc
    clear hg hkr hfc
    go_enter Tryd.func3, Tryd.ntmps3
    go_upto_region 1 with (fail)
    rw [HW1.out]
    go_wp2_with (go_at_call 10; refine (toolchestlaw07_great.calls s A1 z1 l1 false _ R1.out hc1 HG.out).mono ?_)
    first | (rintro e w1 rfl hb1) | (rintro e w1 ⟨rfl, hb1⟩)
    have B2 := Lib.hid (bth B1.out hb1.below)
    have R2 := Lib.hid (Kd.C_below R1.out hb1.below)
    have X2 := Lib.hid ((hb1.below.block _ (blk_lt X1.out)).trans X1.out)
    clear hb1
    go_wp2_with (go_at_call 11; refine (twinRanges A1 z1 l1 _ R2.out hc1 (by omega)).mono ?_)
    rintro e w2 ⟨g, cap, rfl, ho2, hb2⟩
    have O3 := Lib.hid ho2
    have B3 := Lib.hid (bth B2.out hb2)
    have R3 := Lib.hid (Kd.C_below R2.out hb2)
    have hcap : l1.length ≤ cap := by have := (twin_cap ho2).1; omega
    have T3 : Hid (Kd.C k34 w2 (some ⟨g, 0, none⟩) l1.length l1) := Lib.hid (by have := Cr_own ho2 l1.length (by simp); simpa using this)
    have x3 := (hb2.block _ (blk_lt X2.out)).trans X2.out
    have X3 := Lib.hid x3
    clear q0 q1 q2
    have q0 : w2.cell? ⟨W.heap.size, 0, none⟩ = some (.string s) := (blk_cell x3 0).trans rfl
    have q1 : w2.cell? ⟨W.heap.size, 1, none⟩ = some (.int .u8 (c.toNat : Int)) := (blk_cell x3 1).trans rfl
    have q2 : w2.cell? ⟨W.heap.size, 2, none⟩ = some (.bool bare) := (blk_cell x3 2).trans rfl
    have E3 := Lib.hid (shaped_below HE.out B3.out)
    clear ho2 hb2 x3
    go_wp2_with (go_at_call 12; refine (FC.out (some ⟨g, 0, none⟩) cap _ E3.out T3.out hcap).mono ?_)
    rintro e w3 ⟨rfl, hb3⟩
    have O4 := Lib.hid (pw_own_below O3.out hb3)
    have B4 := Lib.hid (bth B3.out hb3)
    have R4 := Lib.hid (Kd.C_below R3.out hb3)
    have x4 := (hb3.block _ (blk_lt X3.out)).trans X3.out
    clear q0 q1 q2
    have q0 : w3.cell? ⟨W.heap.size, 0, none⟩ = some (.string s) := (blk_cell x4 0).trans rfl
    have q1 : w3.cell? ⟨W.heap.size, 1, none⟩ = some (.int .u8 (c.toNat : Int)) := (blk_cell x4 1).trans rfl
    have q2 : w3.cell? ⟨W.heap.size, 2, none⟩ = some (.bool bare) := (blk_cell x4 2).trans rfl
    clear hb3 x4
    go_wp2_with (go_at_call 13; refine (toolchestref07_Fields.calls kr s A1 z1 l1 _ bare _ _ _ R4.out hc1 KR.out).mono ?_)
    first | (rintro e w4 rfl hb4) | (rintro e w4 ⟨rfl, hb4⟩)
    have O5 := Lib.hid (pw_own_below O4.out hb4)
    have B5 := Lib.hid (bth B4.out hb4)
    have R5 := Lib.hid (Kd.C_below R4.out hb4)
    clear hb4 q0 q1 q2
    go_wp2_with (go_at_call 14; refine (leftRanges g cap _ A1 z1 l1 _ R5.out hc1 O5.out).mono ?_)
    first | (rintro e w5 rfl hb5) | (rintro e w5 ⟨rfl, hb5⟩)
    go_wp2
    go_ret
    exact ⟨rfl, bth B5.out hb5⟩
theorem byte_of (x : Int) (h : (Lit.int .u8 x).wf = true) : ∃ c : UInt8, x = (c.toNat : Int) := by
  have h' : 0 ≤ x ∧ x ≤ 255 := by simpa [Lit.wf, IntKind.min, IntKind.max, IntKind.signed, IntKind.bits] using h
  exact ⟨UInt8.ofNat x.toNat, by simp [UInt8.toNat_ofNat']; omega⟩
theorem CutsFields_walk {OkR : RS → Prop} (a0_0 : ByteArray) (a0_1 : Int) (a0_2 : Bool) (A1 : Option Addr) (z1 : Nat) (l1 : List S34) (W : World) (hE : W.ShapedOpen Tryd.prog) (ok0_0 : a0_0.size ≤ 140737488351232) (ok0_1 : (Lit.int .u8 a0_1).wf = true) (hr1 : Kd.C k34 W A1 l1.length l1) (hc1 : l1.length ≤ z1) (ok1 : (∀ a ∈ l1, OkR a) ∧ l1.length * 16 ≤ 140737488351232) :
    Calls Tryd.prog 3 #[.agg #[.string a0_0, .int .u8 a0_1, .bool a0_2], .slice A1 l1.length z1] W fun e W' => e = .returned (.bool true) ∧ Below W.heap.size W W' := by
  obtain ⟨c, rfl⟩ := byte_of a0_1 ok0_1
  exact cutsFields a0_0 c a0_2 A1 z1 l1 W hE hr1 hc1
end Go.Proofs.YtkedjlekeohpaaaDoor.P

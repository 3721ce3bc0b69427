/- KeysParted: of two numbers with the same whole part the digits behind the point decide. -/
import Derived.Test.YtbndinaiclkajaaDoorKParted
import Derived.Test.YtbndinaiclkajaaDoorKAlive
set_option linter.unusedVariables false
set_option linter.unusedSimpArgs false
namespace Go.Proofs.YtbndinaiclkajaaDoor.Pure
open Go.RowKit Go.Proofs.YtbndinaiclkajaaDoor.H Go.Proofs.YtbndinaiclkajaaDoorW.PrintWords Go.Proofs.YtbndinaiclkajaaDoor.K
def u8s (A : List Nat) : List Value := A.map fun (x : Nat) => Value.int .u8 (x : Int)
structure Ar (w : World) (A B : List Nat) (W : World) : Prop where
  a : W.heap[w.heap.size]? = some (.cells (u8s A).toArray 42 (0, 0))
  b : W.heap[w.heap.size + 1]? = some (.cells (u8s B).toArray 42 (0, 0))
  low : Below w.heap.size w W
theorem u8s_at (A : List Nat) (k : Nat) (h : k < A.length) : (u8s A).toArray[k]? = some (.int .u8 ((A[k] : Nat) : Int)) := by simp [u8s, h]
theorem Ar.ca {w W : World} {A B : List Nat} (h : Ar w A B W) (k : Nat) (hk : k < A.length) : W.cell? ⟨w.heap.size, k, none⟩ = some (.int .u8 ((A[k] : Nat) : Int)) := (blk_cell h.a k).trans (u8s_at A k hk)
theorem Ar.cb {w W : World} {A B : List Nat} (h : Ar w A B W) (k : Nat) (hk : k < B.length) : W.cell? ⟨w.heap.size + 1, k, none⟩ = some (.int .u8 ((B[k] : Nat) : Int)) := (blk_cell h.b k).trans (u8s_at B k hk)
theorem Ar.drewN {w W : World} {A B : List Nat} (h : Ar w A B W) (n : Nat) : Ar w A B (W.drewN n) := ⟨h.a, h.b, bdn h.low n⟩
def stepW (c : Int) (x y : Nat) : Int := if c = 0 then (if x % 10 < y % 10 then -1 else if y % 10 < x % 10 then 1 else 0) else c
theorem dg_ltI (x y : Nat) : dg x < dg y ↔ x % 10 < y % 10 := by
  rw [UInt8.lt_iff_toNat_lt, dg_nat, dg_nat]; omega
theorem ret_eq {a b : Int} (h : a = b) : Value.int IntKind.i64 a = .int .i64 b := by rw [h]
theorem take_next {PA : List UInt8} {k : Nat} {c : UInt8} (h : PA[k]? = some c) : PA.take (k + 1) = PA.take k ++ [c] := by
  obtain ⟨hlt, hc⟩ := List.getElem?_eq_some_iff.1 h
  rw [List.take_succ_eq_append_getElem hlt, hc]
theorem want_next (PA PB : List UInt8) (k x y : Nat) (hA : PA[k]? = some (dg x)) (hB : PB[k]? = some (dg y)) : cmpB (PA.take (k + 1)) (PB.take (k + 1)) = stepW (cmpB (PA.take k) (PB.take k)) x y := by
  have l1 := (List.getElem?_eq_some_iff.1 hA).1
  have l2 := (List.getElem?_eq_some_iff.1 hB).1
  rw [take_next hA, take_next hB, cmpB_snoc _ _ _ _ (by rw [List.length_take, List.length_take]; omega)]
  unfold stepW
  simp only [dg_ltI]
theorem str_next (D PA : List UInt8) (k x : Nat) (hA : PA[k]? = some (dg x)) : Value.string (bs (D ++ 46 :: PA.take k) ++ (⟨#[48, 49, 50, 51, 52, 53, 54, 55, 56, 57]⟩ : ByteArray).extract (x % 10) (x % 10 + 1)) = .string (bs (D ++ 46 :: PA.take (k + 1))) := by
  rw [digit_cut _ (Nat.mod_lt _ (by omega)), dg_mod, bs_cat, take_next hA]
  simp
theorem cut_last (D PA : List UInt8) (j : Nat) (h0 : 0 < j) (hj : j ≤ PA.length) (S : ByteArray) (hS : bs (D ++ 46 :: PA.take j) = S) :
    (∃ c, PA[j - 1]? = some c ∧ ∀ h : S.size - 1 < S.size, S[S.size - 1]'h = c) ∧ S.extract 0 (S.size - 1) = bs (D ++ 46 :: PA.take (j - 1)) := by
  obtain ⟨m, rfl⟩ : ∃ m, j = m + 1 := ⟨j - 1, by omega⟩
  have e : D ++ 46 :: PA.take (m + 1) = (D ++ 46 :: PA.take m) ++ [PA[m]] := by rw [List.take_succ_eq_append_getElem (by omega)]; simp
  have hl : S.size = (D ++ 46 :: PA.take m).length + 1 := by rw [← hS, bs_size, e, List.length_append]; rfl
  refine ⟨⟨PA[m], List.getElem?_eq_getElem (by omega), fun h => ?_⟩, ?_⟩
  · have e2 : S.data.toList = (D ++ 46 :: PA.take m) ++ [PA[m]] := by rw [← hS, bs_toList, e]
    have e3 : S.data.toList[S.size - 1]? = some PA[m] := by rw [e2, hl, Nat.add_sub_cancel, List.getElem?_append_right (Nat.le_refl _), Nat.sub_self]; rfl
    have e4 : S.data.toList[S.size - 1]? = some (S[S.size - 1]'h) := by rw [List.getElem?_eq_getElem (by rw [← Lib.size_eq]; exact h)]; rfl
    rw [e3] at e4
    exact (Option.some.inj e4).symm
  · rw [extract_bs, hl, ← hS, bs_toList, e, List.drop_zero, Nat.sub_zero, Nat.add_sub_cancel, List.take_left' rfl]
    rfl
theorem trim_snoc (l : List UInt8) : trimR (· == 48) (l ++ [48]) = trimR (· == 48) l := by
  unfold trimR
  rw [List.reverse_append]
  simp
theorem last_fact (S : ByteArray) (c : UInt8) (h : ∀ h : S.size - 1 < S.size, S[S.size - 1]'h = c) (h1 : 2 ≤ S.size) (b : Bool) (hb : (c == 48) = b) : ((((S[S.size - 1]'(by omega)).toNat : Nat) : Int) == 48) = b := by
  rw [h]
  rw [← hb, Bool.eq_iff_iff, beq_iff_eq, beq_iff_eq]
  constructor
  · intro e; rw [← UInt8.toNat_inj]; show c.toNat = 48; omega
  · rintro rfl; rfl
theorem cmpB_one (a b : List UInt8) : -1 ≤ cmpB a b ∧ cmpB a b ≤ 1 := by unfold cmpB; split <;> (try split) <;> omega
set_option maxHeartbeats 4000000 in
set_option maxRecDepth 100000 in
theorem parted_walk (n : Nat) (hn : n ≤ 65535) (a0 a1 a2 a3 a4 a5 b0 b1 b2 b3 b4 b5 : Nat) (hA : ∀ x ∈ [a0, a1, a2, a3, a4, a5], x ≤ 255) (hB : ∀ x ∈ [b0, b1, b2, b3, b4, b5], x ≤ 255) (W : World) :
    Calls Tryd.prog 9 #[.int .u16 n, .agg #[.int .u8 a0, .int .u8 a1, .int .u8 a2, .int .u8 a3, .int .u8 a4, .int .u8 a5], .agg #[.int .u8 b0, .int .u8 b1, .int .u8 b2, .int .u8 b3, .int .u8 b4, .int .u8 b5]] W fun e W' => e = .returned (.bool true) ∧ Below W.heap.size W W' := by
  obtain ⟨A, eA⟩ : ∃ A, [a0, a1, a2, a3, a4, a5] = A := ⟨_, rfl⟩
  obtain ⟨B, eB⟩ : ∃ B, [b0, b1, b2, b3, b4, b5] = B := ⟨_, rfl⟩
  obtain ⟨kd, hkd⟩ := digits_told n (by omega)
  obtain ⟨D, hD⟩ : ∃ D, (if n = 0 then [48] else wz n) = D := ⟨_, rfl⟩
  rw [hD] at hkd
  have HK := Lib.hid hkd
  have HD := Lib.hid hD
  have HA := Lib.hid hA
  have HB := Lib.hid hB
  have lA : Hid (A.length = 6) := Lib.hid (by rw [← eA]; rfl)
  have lB : Hid (B.length = 6) := Lib.hid (by rw [← eB]; rfl)
  have EA := Lib.hid eA
  have EB := Lib.hid eB
  have hD10 : D.length ≤ 10 := by rw [← hD]; split; decide; exact wz_short 10 _ (by omega)
  have hDS : (bs D).size ≤ 10 := by rw [bs_size]; exact hD10
  clear hkd hD hA hB eA eB
  have hn0 : (0 : Int) ≤ (n : Int) := by omega
  have hn1 : (n : Int) ≤ 65535 := by omega
  go_enter Tryd.func9, Tryd.ntmps9
  go_wp2_with (go_at_call 23; with_reducible refine (Q.toolchestlaw05_digits.calls kd _ _ _ HK.out).mono ?_; rintro e w' ⟨rfl, hbq⟩)
  have HB0 := Lib.hid hbq.below
  clear hbq
  have hAr : Hid (Ar W A B w') := Lib.hid ⟨by
      rw [HB0.out.block _ (by simp; omega), ← EA.out]
      exact (Lib.alloc_old _ _ _ (by simp)).trans (World.alloc_heap_new W _), by
      rw [HB0.out.block _ (by simp), ← EB.out]
      have := World.alloc_heap_new (W.alloc (.cells #[.int .u8 a0, .int .u8 a1, .int .u8 a2, .int .u8 a3, .int .u8 a4, .int .u8 a5] 42)) (.cells #[.int .u8 b0, .int .u8 b1, .int .u8 b2, .int .u8 b3, .int .u8 b4, .int .u8 b5] 42)
      rw [World.size_alloc] at this
      exact this, bth (bal (bal (Below.refl _ _) _) _) HB0.out⟩
  clear HB0
  obtain ⟨PA, hPA⟩ : ∃ PA, A.map dg = PA := ⟨_, rfl⟩
  obtain ⟨PB, hPB⟩ : ∃ PB, B.map dg = PB := ⟨_, rfl⟩
  have HPA := Lib.hid hPA
  have HPB := Lib.hid hPB
  clear hPA hPB
  go_loopw [7, 8, 9, 10] (fun s t v i wr => ∃ k : Nat, k ≤ 6 ∧ i = .int .i64 k ∧ s = .string (bs (D ++ 46 :: PA.take k)) ∧ t = .string (bs (D ++ 46 :: PB.take k)) ∧ v = .int .i64 (cmpB (PA.take k) (PB.take k)) ∧ Hid (Ar W A B wr)) (fun _ _ _ i _ => 6 - (intOf i).toNat)
  case atStart => exact ⟨0, Nat.zero_le _, rfl, by rw [cat_zero]; rfl, by rw [cat_zero]; rfl, rfl, hAr⟩
  case round =>
    obtain ⟨k, hk, rfl, rfl, rfl, rfl, hr⟩ := hrel
    have z1 : (bs (D ++ 46 :: PA.take k)).size ≤ 20 := by rw [bs_size, List.length_append, List.length_cons, List.length_take]; omega
    have z2 : (bs (D ++ 46 :: PB.take k)).size ≤ 20 := by rw [bs_size, List.length_append, List.length_cons, List.length_take]; omega
    by_cases hlt : k < 6
    · have ca := hr.out.ca k (by rw [lA.out]; exact hlt)
      have cb := hr.out.cb k (by rw [lB.out]; exact hlt)
      obtain ⟨x, hx⟩ : ∃ x, A[k]'(by rw [lA.out]; exact hlt) = x := ⟨_, rfl⟩
      obtain ⟨y, hy⟩ : ∃ y, B[k]'(by rw [lB.out]; exact hlt) = y := ⟨_, rfl⟩
      have GX : Hid (PA[k]? = some (dg x)) := Lib.hid (by rw [← HPA.out, List.getElem?_map, List.getElem?_eq_getElem (by rw [lA.out]; exact hlt), hx]; rfl)
      have GY : Hid (PB[k]? = some (dg y)) := Lib.hid (by rw [← HPB.out, List.getElem?_map, List.getElem?_eq_getElem (by rw [lB.out]; exact hlt), hy]; rfl)
      rw [hx] at ca
      rw [hy] at cb
      have HS := Lib.hid (want_next PA PB k x y GX.out GY.out)
      clear hx hy
      generalize cmpB (PA.take k) (PB.take k) = c at HS ⊢
      go_wp2
      go_quiet (fail)
      go_wp2
      all_goals
        go_roundw
        case rel =>
          refine ⟨k + 1, by omega, by go_num, str_next D PA k x GX.out, str_next D PB k y GY.out, ?_, Lib.hid (hr.out.drewN _)⟩
          rw [HS.out]
          unfold stepW
          try simp only [bne_iff_ne, ne_eq, bne_eq_false_iff_eq] at *
          refine ret_eq ?_
          split
          · split
            · omega
            · split <;> omega
          · omega
        case measure => simp [intOf]; omega
    · obtain rfl : k = 6 := by omega
      have lPA : Hid (PA.length = 6) := Lib.hid (by rw [← HPA.out, List.length_map, lA.out])
      have lPB : Hid (PB.length = 6) := Lib.hid (by rw [← HPB.out, List.length_map, lB.out])
      obtain ⟨T, hT⟩ : ∃ T, bs (D ++ 46 :: PB.take 6) = T := ⟨_, rfl⟩
      obtain ⟨c, hc⟩ : ∃ c, cmpB (PA.take 6) (PB.take 6) = c := ⟨_, rfl⟩
      have zT : T.size ≤ 20 := by rw [← hT, bs_size, List.length_append, List.length_cons, List.length_take]; omega
      have hc1 : -1 ≤ c := by rw [← hc]; exact (cmpB_one _ _).1
      have hc2 : c ≤ 1 := by rw [← hc]; exact (cmpB_one _ _).2
      have hfin : ∀ j : Nat, j ≤ 6 → trimR (· == 48) (PA.take j) = trimR (· == 48) (PA.take 6) → Q.keys_Number.f 4 (bs (D ++ 46 :: PA.take j)) T = some c ∧ Q.keys_Number.f 4 ((⟨#[45]⟩ : ByteArray) ++ bs (D ++ 46 :: PA.take j)) ((⟨#[45]⟩ : ByteArray) ++ T) = some (-c) := by
        intro j hj ht
        have hdD : ∀ d ∈ D, digitC d = true := by rw [← HD.out]; split; decide; exact wz_digits n
        have hDne : D ≠ [] := by rw [← HD.out]; split; decide; exact fun e => by rename_i h; have := wz_len n (by omega); rw [e] at this; simp at this
        have hpA : ∀ d ∈ PA, digitC d = true := by rw [← HPA.out]; intro d hd; obtain ⟨x, _, rfl⟩ := List.mem_map.1 hd; exact dg_digit x
        have hpB : ∀ d ∈ PB, digitC d = true := by rw [← HPB.out]; intro d hd; obtain ⟨x, _, rfl⟩ := List.mem_map.1 hd; exact dg_digit x
        have h48 : ∀ d : UInt8, digitC d = true → 48 ≤ d := fun d hd => by unfold digitC at hd; simp at hd; exact hd.1
        have key := fun neg => parted_cmp neg D (PA.take j) (PB.take 6) (PA.take 6) (PB.take 6) hdD hDne (fun d hd => hpA d (List.mem_of_mem_take hd)) (fun d hd => hpB d (List.mem_of_mem_take hd)) ht rfl (by rw [List.length_take, List.length_take, lPA.out, lPB.out]) (fun d hd => h48 d (hpA d (List.mem_of_mem_take hd))) (fun d hd => h48 d (hpB d (List.mem_of_mem_take hd)))
        rw [hc] at key
        have zA : (D ++ 46 :: PA.take j).length ≤ 20 := by rw [List.length_append, List.length_cons, List.length_take]; omega
        have zB : (D ++ 46 :: PB.take 6).length ≤ 20 := by rw [List.length_append, List.length_cons, List.length_take]; omega
        refine ⟨?_, ?_⟩
        · rw [← hT, Q.number_f 0 _ _ (by rw [bs_size]; omega) (by rw [bs_size]; omega), bs_toList, bs_toList]
          exact congrArg some (key false)
        · rw [← hT, zero_cat, zero_cat, Q.number_f 0 _ _ (by rw [bs_size, List.length_cons]; omega) (by rw [bs_size, List.length_cons]; omega), bs_toList, bs_toList]
          exact congrArg some (key true)
      have HFIN := Lib.hid hfin
      clear hfin
      rw [hT, hc]
      clear hT hc
      go_wp2
      go_loop [7, 13] (fun s i => ∃ j : Nat, j ≤ 6 ∧ i = .int .i64 ((j : Int) - 1) ∧ s = .string (bs (D ++ 46 :: PA.take j)) ∧ Hid (trimR (· == 48) (PA.take j) = trimR (· == 48) (PA.take 6))) (fun _ i => ((intOf i) + 1).toNat)
      case atStart => exact ⟨6, Nat.le_refl _, rfl, rfl, Lib.hid rfl⟩
      case round =>
        obtain ⟨j, hj, rfl, rfl, ht⟩ := hrel
        have HN := Lib.hid (HFIN.out j hj ht.out)
        obtain ⟨S, hS⟩ : ∃ S, bs (D ++ 46 :: PA.take j) = S := ⟨_, rfl⟩
        have zS : S.size = D.length + 1 + j := by rw [← hS, bs_size, List.length_append, List.length_cons, List.length_take, lPA.out]; omega
        have zS1 : 1 ≤ S.size := by omega
        have zS2 : S.size ≤ 20 := by omega
        rw [hS] at HN
        by_cases hj0 : 0 < j
        · obtain ⟨⟨d, hd1, hd2⟩, hcut⟩ := cut_last D PA j hj0 (by rw [lPA.out]; exact hj) S hS
          have zS3 : 2 ≤ S.size := by omega
          clear zS
          rw [hS]
          by_cases h48 : (d == 48) = true
          · have hb := last_fact S d hd2 zS3 _ h48
            have HC := Lib.hid hcut
            have HT : Hid (trimR (· == 48) (PA.take (j - 1)) = trimR (· == 48) (PA.take 6)) := Lib.hid (by
              rw [← ht.out, show j = (j - 1) + 1 by omega, take_next hd1, Nat.add_sub_cancel, (by simpa using h48 : d = 48), trim_snoc])
            clear hcut hd1 hd2 hS h48
            go_wp2
            go_round
            case rel => exact ⟨j - 1, by omega, ret_eq (by omega), by rw [HC.out], HT⟩
            case measure => simp [intOf]; omega
          · have h48' : (d == 48) = false := by simpa using h48
            have hb := last_fact S d hd2 zS3 _ h48'
            clear hcut hd1 hd2 hS h48 h48'
            go_wp2_with (first | (go_at_call 21; with_reducible refine (Q.toolchestlaw05_alive.calls 8 true _ alive8).mono ?_; rintro e wa ⟨rfl, hba⟩) | (go_at_call 15; with_reducible refine (Q.keys_Number.calls 4 S T c _ HN.out.1).mono ?_; rintro e wb ⟨rfl, hbb⟩) | (go_at_call 15; with_reducible refine (Q.keys_Number.calls 4 _ _ (-c) _ HN.out.2).mono ?_; rintro e wc ⟨rfl, hbc⟩))
            go_ret
            exact ⟨rfl, bth (bth (bth hr.out.low hba) hbb) hbc⟩
        · obtain rfl : j = 0 := by omega
          clear zS
          rw [hS]
          clear hS
          go_wp2_with (first | (go_at_call 21; with_reducible refine (Q.toolchestlaw05_alive.calls 8 true _ alive8).mono ?_; rintro e wa ⟨rfl, hba⟩) | (go_at_call 15; with_reducible refine (Q.keys_Number.calls 4 S T c _ HN.out.1).mono ?_; rintro e wb ⟨rfl, hbb⟩) | (go_at_call 15; with_reducible refine (Q.keys_Number.calls 4 _ _ (-c) _ HN.out.2).mono ?_; rintro e wc ⟨rfl, hbc⟩))
          go_ret
          exact ⟨rfl, bth (bth (bth hr.out.low hba) hbb) hbc⟩
/-- A byte, as a number from 0 on. -/
theorem u8_of {x : Int} (h : (Lit.int .u8 x).wf = true) : ∃ k : Nat, x = (k : Int) ∧ k ≤ 255 := by
  have := byte_ok h
  exact ⟨x.toNat, by omega, by omega⟩
theorem KeysParted_walk (a0 : Int) (a1_0 : Int) (a1_1 : Int) (a1_2 : Int) (a1_3 : Int) (a1_4 : Int) (a1_5 : Int) (a2_0 : Int) (a2_1 : Int) (a2_2 : Int) (a2_3 : Int) (a2_4 : Int) (a2_5 : Int) (W : World) (ok0 : (Lit.int .u16 a0).wf = true) (ok1_0 : (Lit.int .u8 a1_0).wf = true) (ok1_1 : (Lit.int .u8 a1_1).wf = true) (ok1_2 : (Lit.int .u8 a1_2).wf = true) (ok1_3 : (Lit.int .u8 a1_3).wf = true) (ok1_4 : (Lit.int .u8 a1_4).wf = true) (ok1_5 : (Lit.int .u8 a1_5).wf = true) (ok2_0 : (Lit.int .u8 a2_0).wf = true) (ok2_1 : (Lit.int .u8 a2_1).wf = true) (ok2_2 : (Lit.int .u8 a2_2).wf = true) (ok2_3 : (Lit.int .u8 a2_3).wf = true) (ok2_4 : (Lit.int .u8 a2_4).wf = true) (ok2_5 : (Lit.int .u8 a2_5).wf = true) :
    Calls Tryd.prog 9 #[.int .u16 a0, .agg #[.int .u8 a1_0, .int .u8 a1_1, .int .u8 a1_2, .int .u8 a1_3, .int .u8 a1_4, .int .u8 a1_5], .agg #[.int .u8 a2_0, .int .u8 a2_1, .int .u8 a2_2, .int .u8 a2_3, .int .u8 a2_4, .int .u8 a2_5]] W fun e W' => e = .returned (.bool true) ∧ Below W.heap.size W W' := by
  obtain ⟨n, rfl, hn⟩ : ∃ k : Nat, a0 = (k : Int) ∧ k ≤ 65535 := by
    have : 0 ≤ a0 ∧ a0 ≤ 65535 := by simpa [Lit.wf, IntKind.min, IntKind.max, IntKind.signed, IntKind.bits] using ok0
    exact ⟨a0.toNat, by omega, by omega⟩
  obtain ⟨x0, rfl, hx0⟩ := u8_of ok1_0
  obtain ⟨x1, rfl, hx1⟩ := u8_of ok1_1
  obtain ⟨x2, rfl, hx2⟩ := u8_of ok1_2
  obtain ⟨x3, rfl, hx3⟩ := u8_of ok1_3
  obtain ⟨x4, rfl, hx4⟩ := u8_of ok1_4
  obtain ⟨x5, rfl, hx5⟩ := u8_of ok1_5
  obtain ⟨y0, rfl, hy0⟩ := u8_of ok2_0
  obtain ⟨y1, rfl, hy1⟩ := u8_of ok2_1
  obtain ⟨y2, rfl, hy2⟩ := u8_of ok2_2
  obtain ⟨y3, rfl, hy3⟩ := u8_of ok2_3
  obtain ⟨y4, rfl, hy4⟩ := u8_of ok2_4
  obtain ⟨y5, rfl, hy5⟩ := u8_of ok2_5
  exact parted_walk n hn x0 x1 x2 x3 x4 x5 y0 y1 y2 y3 y4 y5 (fun x hx => by simp at hx; omega) (fun x hx => by simp at hx; omega) W
end Go.Proofs.YtbndinaiclkajaaDoor.Pure

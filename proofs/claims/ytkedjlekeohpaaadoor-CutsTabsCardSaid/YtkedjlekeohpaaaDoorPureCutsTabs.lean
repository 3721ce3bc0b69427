/- CutsTabs: the walk of the law. -/
import Derived.Test.YtkedjlekeohpaaaDoorCAlive
import Derived.Test.YtkedjlekeohpaaaDoorTabsPlain
set_option linter.unusedVariables false
set_option linter.unusedSimpArgs false
namespace Go.Proofs.YtkedjlekeohpaaaDoor.P
open Go.RowKit Go.Proofs Go.Proofs.YtkedjlekeohpaaaDoor.Q Go.Proofs.YtkedjlekeohpaaaDoor.H Go.Proofs.YtkedjlekeohpaaaDoor.C Go.Proofs.YtkedjlekeohpaaaDoor.S Go.Proofs.YtkedjlekeohpaaaDoorW.PrintWords Go.Proofs.YtkedjlekeohpaaaDoorW.PrintLast

theorem append_bytes (a b : ByteArray) : (a ++ b).data.toList = a.data.toList ++ b.data.toList := by
  rw [ByteArray.data_append, Array.toList_append]
theorem bs_app (a b : List UInt8) : bs (a ++ b) = bs a ++ bs b := by
  apply ext_bytes
  rw [append_bytes, bs_toList, bs_toList, bs_toList]
set_option maxHeartbeats 4000000 in
set_option maxRecDepth 100000 in
theorem cutsTabs (s t : ByteArray) (m : Nat) (hm : m < 256) (w : World) (hE : EnvW w) (hs : s.size ≤ 140737488351232) (ht : t.size ≤ 140737488351232) :
    Calls Tryd.prog 7 #[.string s, .string t, .int .u8 (m : Int)] w fun e w' => e = .returned (.bool true) ∧ Below w.heap.size w w' := by
  have HE := Lib.hid hE
  clear hE
  by_cases hbig : 5000 < s.size + t.size
  · have hd : decide ((5000 : Int) < (s.size : Int) + (t.size : Int)) = true := decide_eq_true (by omega)
    clear hbig
    go_enter Tryd.func7, Tryd.ntmps7
    go_wp2_with fail
    refine (alive_calls _ HE.out).mono ?_
    rintro e w2 ⟨rfl, hb2⟩
    have B2 := Lib.hid hb2
    clear hb2
    go_wp2_with fail
    refine (alive_calls _ (HE.out.below B2.out)).mono ?_
    rintro e w3 ⟨rfl, hb3⟩
    have B3 := Lib.hid (bth B2.out hb3)
    clear hb3
    go_wp2
    go_ret
    exact ⟨rfl, B3.out⟩
  · have hd : decide ((5000 : Int) < (s.size : Int) + (t.size : Int)) = false := decide_eq_false (by omega)
    obtain ⟨K, hK⟩ : ∃ K, m % 100 + 1 = K := ⟨_, rfl⟩
    have hK1 : 1 ≤ K := by omega
    have hK2 : K ≤ 100 := by omega
    have hKi : (m : Int) % 100 + 1 = (K : Int) := by omega
    have hls : s.data.toList.length = s.size := (Lib.size_eq s).symm
    have hlt : t.data.toList.length = t.size := (Lib.size_eq t).symm
    have e9 : (s ++ ⟨#[9]⟩).data.toList = s.data.toList ++ [9] := append_bytes s ⟨#[9]⟩
    have e9t : (s ++ ⟨#[9]⟩ ++ t).data.toList = s.data.toList ++ 9 :: t.data.toList := by rw [append_bytes, e9]; simp
    have z9 : (s ++ ⟨#[9]⟩).size = s.size + 1 := by rw [ByteArray.size_append]; rfl
    have z9t : (s ++ ⟨#[9]⟩ ++ t).size = s.size + 1 + t.size := by rw [ByteArray.size_append, z9]
    obtain ⟨l1, l2⟩ := tabs_law K hK1 s.data.toList t.data.toList
    have la := exp_len K hK1 hK2 (s.data.toList ++ [9]) 0
    have lb := exp_len K hK1 hK2 t.data.toList 0
    have nc : 9 ∉ expP K 0 (s.data.toList ++ 9 :: t.data.toList) := exp_none K _ 0
    rw [List.length_append] at la
    obtain ⟨a, ha⟩ : ∃ a, expP K 0 (s.data.toList ++ [9]) = a := ⟨_, rfl⟩
    obtain ⟨b, hb⟩ : ∃ b, expP K 0 t.data.toList = b := ⟨_, rfl⟩
    have hla : a.length ≤ 1000000 := by rw [← ha]; simp at la ⊢; omega
    have hlb : b.length ≤ 1000000 := by rw [← hb]; omega
    have x1 := fun (W : World) => expand_calls (s ++ ⟨#[9]⟩) (by omega) (K : Int) W
    rw [e9, expE_exp K hK1 hK2 _ (by rw [List.length_append]; simp; omega), ha] at x1
    have x2 := fun (W : World) => expand_calls t (by omega) (K : Int) W
    rw [expE_exp K hK1 hK2 _ (by omega), hb] at x2
    have x3 := fun (W : World) => expand_calls (s ++ ⟨#[9]⟩ ++ t) (by omega) (K : Int) W
    rw [e9t, expE_exp K hK1 hK2 _ (by rw [List.length_append, List.length_cons]; omega), l1, ha, hb] at x3
    have hlc : (expP K 0 (s.data.toList ++ 9 :: t.data.toList)).length ≤ 1000000 := by
      have := exp_len K hK1 hK2 (s.data.toList ++ 9 :: t.data.toList) 0
      rw [List.length_append, List.length_cons] at this
      omega
    have l1' : expP K 0 (s.data.toList ++ 9 :: t.data.toList) = a ++ b := by rw [l1, ha, hb]
    rw [l1, ha, hb] at nc
    rw [ha] at l2
    obtain ⟨A, hA⟩ : ∃ A, bs a = A := ⟨_, rfl⟩
    obtain ⟨B, hB⟩ : ∃ B, bs b = B := ⟨_, rfl⟩
    have hab : (⟨(a ++ b).toArray⟩ : ByteArray) = A ++ B := by rw [← hA, ← hB]; exact bs_app a b
    have hAl : A.data.toList = a := by rw [← hA, bs_toList]
    have hBl : B.data.toList = b := by rw [← hB, bs_toList]
    have hAs : A.size = a.length := by rw [Lib.size_eq, hAl]
    have hBs : B.size = b.length := by rw [Lib.size_eq, hBl]
    have y1 : ∀ W, Calls Tryd.prog 20 #[.string (s ++ ⟨#[9]⟩), .int .i64 (K : Int)] W fun e w' => e = .returned (.tuple #[.string A, .int .i64 0]) ∧ Below W.heap.size W w' := fun W => by rw [← hA]; exact x1 W
    have y2 : ∀ W, Calls Tryd.prog 20 #[.string t, .int .i64 (K : Int)] W fun e w' => e = .returned (.tuple #[.string B, .int .i64 0]) ∧ Below W.heap.size W w' := fun W => by rw [← hB]; exact x2 W
    have y3 : ∀ W, Calls Tryd.prog 20 #[.string (s ++ ⟨#[9]⟩ ++ t), .int .i64 (K : Int)] W fun e w' => e = .returned (.tuple #[.string (A ++ B), .int .i64 0]) ∧ Below W.heap.size W w' := fun W => by rw [← hab]; exact x3 W
    have y4 : ∀ W, Calls Tryd.prog 20 #[.string (A ++ B), .int .i64 (K : Int)] W fun e w' => e = .returned (.tuple #[.string (A ++ B), .int .i64 0]) ∧ Below W.heap.size W w' := fun W => by
      have h := expand_calls (A ++ B) (by rw [ByteArray.size_append]; omega) (K : Int) W
      have hg : expE (K : Int) (A ++ B).data.toList = (a ++ b, 0) := by
        rw [append_bytes, hAl, hBl]
        have hlen : (a ++ b).length ≤ 1000000 := by rw [← l1']; exact hlc
        exact expE_id K hK1 hK2 _ nc hlen
      rw [hg] at h
      rw [← hab]
      rw [← hab] at h
      exact h
    have hc1 := fun (T : TypeId) => str_add T s ⟨#[9]⟩ (by show _ + 1 ≤ _; omega)
    have hc2 := fun (T : TypeId) => str_add T (s ++ ⟨#[9]⟩) t (by rw [z9]; omega)
    have hc3 := fun (T : TypeId) => str_add T A B (by omega)
    have hab2 : (A ++ B).size ≤ 2000000 := by rw [ByteArray.size_append]; omega
    have hne9 : ∀ i (h : i < (A ++ B).size), ¬ (A ++ B)[i] = 9 := fun i h e => nc (by
      have e2 : (A ++ B).data.toList = a ++ b := by rw [append_bytes, hAl, hBl]
      rw [← e2, ← e]
      exact List.getElem_mem (by rw [← Lib.size_eq]; exact h))
    clear hab
    obtain ⟨C, hC⟩ : ∃ C, A ++ B = C := ⟨_, rfl⟩
    rw [hC] at y3 hab2 hne9
    simp only [hC] at y4 hc3
    have HN := Lib.hid hne9
    have Y1 := Lib.hid y1
    have Y2 := Lib.hid y2
    have Y3 := Lib.hid y3
    have Y4 := Lib.hid y4
    have HAL := Lib.hid hAl
    have HL2 := Lib.hid l2
    have HKI := Lib.hid hKi
    have has2 : A.size ≤ 1000000 := by omega
    have hal : a.length = A.size := hAs.symm
    have HAS := Lib.hid hal
    clear y1 y2 y3 y4 x1 x2 x3 nc hAl hBl hAs hBs hal l1 l1' l2 la lb hlc hla hlb e9 e9t z9 z9t hls hlt hA hB hne9 hC ha hb hKi hbig
    go_enter Tryd.func7, Tryd.ntmps7
    go_wp2_with fail
    refine (alive_calls _ HE.out).mono ?_
    rintro e w2 ⟨rfl, hb2⟩
    have B2 := Lib.hid hb2
    clear hb2
    go_wp2_with fail
    rw [HKI.out]
    refine (Y1.out _).mono ?_
    rintro e w3 ⟨rfl, hb3⟩
    have B3 := Lib.hid (bth B2.out hb3)
    clear hb3
    go_wp2_with fail
    refine (Y2.out _).mono ?_
    rintro e w4 ⟨rfl, hb4⟩
    have B4 := Lib.hid (bth B3.out hb4)
    clear hb4
    go_wp2_with fail
    refine (Y3.out _).mono ?_
    rintro e w5 ⟨rfl, hb5⟩
    have B5 := Lib.hid (bth B4.out hb5)
    clear hb5
    go_wp2_with fail
    refine (Y4.out _).mono ?_
    rintro e w6 ⟨rfl, hb6⟩
    have B6 := Lib.hid (bth B5.out hb6)
    clear hb6
    have hss : (!(C.toList == C.toList)) = false := by simp
    go_wp2_with fail
    go_loop [16] (fun i => ∃ k : Nat, k ≤ C.size ∧ i = .int .i64 k) (fun i => C.size - (intOf i).toNat)
    case atStart => exact ⟨0, Nat.zero_le _, rfl⟩
    case round =>
      obtain ⟨k, hk, rfl⟩ := hrel
      by_cases hlt : k < C.size
      · have hne := HN.out k hlt
        obtain ⟨x, hx⟩ : ∃ x, C[k] = x := ⟨_, rfl⟩
        rw [hx] at hne
        have hx9 : ((C[k].toNat : Int) == 9) = false := by
          rw [hx, beq_eq_false_iff_ne]
          intro e
          exact hne (by rw [← UInt8.toNat_inj]; show x.toNat = 9; omega)
        clear hne hx
        go_wp2
        go_round
        case rel => exact ⟨k + 1, by omega, by go_num⟩
        case measure => simp [intOf]; omega
      · obtain rfl : k = C.size := by omega
        go_wp2
        clear hss
        go_loop [17] (fun i => ∃ k : Nat, k ≤ A.size ∧ i = .int .i64 k ∧ Hid (nlTo a a.length = nlTo a k)) (fun i => (intOf i).toNat)
        case atStart => exact ⟨A.size, Nat.le_refl _, rfl, Lib.hid (by rw [HAS.out])⟩
        case round =>
          obtain ⟨k, hk, rfl, hn⟩ := hrel
          cases k with
          | zero =>
            have hz : ((A.size : Int) % (K : Int) == 0) = true := by
              have h2 := HL2.out
              unfold lastLen at h2
              rw [hn.out, HAS.out] at h2
              have h3 : (A.size - nlTo a 0) = A.size := rfl
              rw [h3] at h2
              rw [beq_iff_eq]
              omega
            go_wp2
            go_ret
            exact ⟨rfl, B6.out⟩
          | succ k =>
            have hlt : k < A.size := by omega
            have hci : ((k + 1 : Nat) : Int) = (k : Int) + 1 := by omega
            have hkl : (k : Int) < (A.size : Int) := by omega
            have hg : a.getD k 0 = A[k] := by
              have : A.data.toList.getD k 0 = A[k] := by
                rw [List.getD_eq_getElem?_getD, List.getElem?_eq_getElem (by rw [Array.length_toList]; exact hlt)]; rfl
              rw [HAL.out] at this
              exact this
            have hst : nlTo a (k + 1) = if A[k] = 10 then k + 1 else nlTo a k := by rw [← hg]; rfl
            by_cases h10 : A[k] = 10
            · have hx : ((A[k].toNat : Int) != 10) = false := by rw [h10]; rfl
              have hz : (((A.size : Int) - ((k : Int) + 1)) % (K : Int) == 0) = true := by
                have h2 := HL2.out
                unfold lastLen at h2
                rw [hn.out, HAS.out, hst, if_pos h10] at h2
                rw [beq_iff_eq]
                have : ((A.size - (k + 1) : Nat) : Int) % (K : Int) = 0 := by omega
                rw [← this]
                congr 1
                omega
              rw [hci]
              clear hg hst h10 hci
              go_wp2
              go_ret
              exact ⟨rfl, B6.out⟩
            · have hx : ((A[k].toNat : Int) != 10) = true := by
                rw [bne_iff_ne]
                intro e
                exact h10 (by rw [← UInt8.toNat_inj]; show A[k].toNat = 10; omega)
              have HN2 := Lib.hid (hn.out.trans (hst.trans (if_neg h10)))
              rw [hci]
              clear hg hst h10 hci
              go_wp2
              go_round
              case rel => exact ⟨k, by omega, by first | rfl | go_num, HN2⟩
              case measure => simp [intOf] <;> omega
theorem CutsTabs_walk (a0 : ByteArray) (a1 : ByteArray) (a2 : Int) (W : World) (hE : EnvW W) (ok0 : a0.size ≤ 140737488351232) (ok1 : a1.size ≤ 140737488351232) (ok2 : (Lit.int .u8 a2).wf = true) :
    Calls Tryd.prog 7 #[.string a0, .string a1, .int .u8 a2] W fun e W' => e = .returned (.bool true) ∧ Below W.heap.size W W' := by
  have h' : 0 ≤ a2 ∧ a2 ≤ 255 := by simpa [Lit.wf, IntKind.min, IntKind.max, IntKind.signed, IntKind.bits] using ok2
  obtain ⟨m, rfl⟩ := Int.eq_ofNat_of_zero_le h'.1
  exact cutsTabs a0 a1 m (by omega) W hE ok0 ok1
end Go.Proofs.YtkedjlekeohpaaaDoor.P

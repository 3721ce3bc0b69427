/- CutsSingle: the walk of the law. -/
import Derived.Test.YtkedjlekeohpaaaDoorCAlive
import Derived.Test.YtkedjlekeohpaaaDoorPlain0
import Derived.Deep.QuietTactic
import Derived.BigQuiet
import Derived.IntWalk
set_option linter.unusedVariables false
set_option linter.unusedSimpArgs false
namespace Go.Proofs.YtkedjlekeohpaaaDoor.P
open Go.RowKit Go.BigFrame Go.Proofs Go.Proofs.YtkedjlekeohpaaaDoor.Q Go.Proofs.YtkedjlekeohpaaaDoor.H Go.Proofs.YtkedjlekeohpaaaDoor.K Go.Proofs.YtkedjlekeohpaaaDoor.C Go.Proofs.YtkedjlekeohpaaaDoor.S Go.Proofs.YtkedjlekeohpaaaDoorW.PrintWords Go.Proofs.YtkedjlekeohpaaaDoorW.PrintLast

theorem append_bytes (a b : ByteArray) : (a ++ b).data.toList = a.data.toList ++ b.data.toList := by
  rw [ByteArray.data_append, Array.toList_append]
theorem pick_app {α : Type} (p : Nat → Bool) (b : List α) : ∀ (a : List α) (i : Nat), pickL p i (a ++ b) = pickL p i a ++ pickL p (i + a.length) b
  | [], i => rfl
  | x :: a, i => by
    rw [List.cons_append]
    simp only [pickL]
    rw [pick_app p b a (i + 1), show i + 1 + a.length = i + (x :: a).length by simp; omega]
    split <;> rfl
theorem pick_no {α : Type} (p : Nat → Bool) : ∀ (l : List α) (i : Nat), (∀ j, i ≤ j → j < i + l.length → p j = false) → pickL p i l = []
  | [], _, _ => rfl
  | x :: l, i, h => by
    simp only [pickL]
    rw [if_neg (by rw [h i (Nat.le_refl _) (by simp)]; decide), pick_no p l (i + 1) (fun j h1 h2 => h j (by omega) (by simp at h2 ⊢; omega))]
theorem has_one (a b : Nat) (hb : 1 ≤ b) (j : Nat) : hasN [⟨(a : Int), (b : Int)⟩] j = (decide (a ≤ j) && decide (j ≤ b)) := by
  show ((decide ((a : Int) ≤ (j : Int)) && ((b : Int) == 0 || decide ((j : Int) ≤ (b : Int)))) || false) = _
  have e : ((b : Int) == 0) = false := by rw [beq_eq_false_iff_ne]; omega
  rw [e, Bool.false_or, Bool.or_false]
  congr 1
  · exact decide_eq_decide.2 (by omega)
  · exact decide_eq_decide.2 (by omega)
/-- One place, and two. -/
theorem pick_one (P : List (List UInt8)) (k : Nat) (hk : 1 ≤ k) (h : k ≤ P.length) : pickL (hasN [⟨(k : Int), (k : Int)⟩]) 1 P = [P[k - 1]] := by
  conv => lhs; rw [← List.take_append_drop (k - 1) P, pick_app]
  rw [pick_no _ _ _ (fun j h1 h2 => by rw [has_one _ _ hk]; simp at h2 ⊢; omega), List.nil_append, List.drop_eq_getElem_cons (by omega), List.length_take, Nat.min_eq_left (by omega), show 1 + (k - 1) = k by omega]
  simp only [pickL]
  rw [if_pos (by rw [has_one _ _ hk]; simp), pick_no _ _ _ (fun j h1 h2 => by rw [has_one _ _ hk]; simp; omega)]
theorem pick_two (P : List (List UInt8)) (k : Nat) (hk : 1 ≤ k) (h : k < P.length) : pickL (hasN [⟨(k : Int), (k : Int) + 1⟩]) 1 P = [P[k - 1], P[k]] := by
  have e : ((k : Int) + 1) = ((k + 1 : Nat) : Int) := by omega
  rw [e]
  conv => lhs; rw [← List.take_append_drop (k - 1) P, pick_app]
  rw [pick_no _ _ _ (fun j h1 h2 => by rw [has_one _ _ (by omega)]; simp at h2 ⊢; omega), List.nil_append, List.drop_eq_getElem_cons (by omega), List.length_take, Nat.min_eq_left (by omega), show 1 + (k - 1) = k by omega]
  have e2 : P.drop (k - 1 + 1) = P[k] :: P.drop (k + 1) := by rw [show k - 1 + 1 = k by omega]; exact List.drop_eq_getElem_cons h
  rw [e2]
  simp only [pickL]
  rw [if_pos (by rw [has_one _ _ (by omega)]; simp), if_pos (by rw [has_one _ _ (by omega)]; simp), pick_no _ _ _ (fun j h1 h2 => by rw [has_one _ _ (by omega)]; simp; omega)]
theorem pick_last (P : List (List UInt8)) (k : Nat) (hk : 1 ≤ k) (h : k = P.length) : pickL (hasN [⟨(k : Int), (k : Int) + 1⟩]) 1 P = [P[k - 1]] := by
  have e : ((k : Int) + 1) = ((k + 1 : Nat) : Int) := by omega
  rw [e]
  conv => lhs; rw [← List.take_append_drop (k - 1) P, pick_app]
  rw [pick_no _ _ _ (fun j h1 h2 => by rw [has_one _ _ (by omega)]; simp at h2 ⊢; omega), List.nil_append, List.drop_eq_getElem_cons (by omega), List.length_take, Nat.min_eq_left (by omega), show 1 + (k - 1) = k by omega]
  have e2 : P.drop (k - 1 + 1) = [] := List.drop_eq_nil_of_le (by omega)
  rw [e2]
  simp only [pickL]
  rw [if_pos (by rw [has_one _ _ (by omega)]; simp)]
theorem pick_far (P : List (List UInt8)) (k b : Nat) (hk : k = P.length + 1) (hb : 1 ≤ b) : pickL (hasN [⟨(k : Int), (b : Int)⟩]) 1 P = [] :=
  pick_no _ _ _ (fun j h1 h2 => by rw [has_one _ _ hb]; simp; omega)
theorem split_in_len (c : UInt8) (t : List UInt8) : (c ∈ t → 2 ≤ (splitL (· == c) t).length) ∧ (c ∉ t → (splitL (· == c) t).length = 1) := by
  refine ⟨fun h => ?_, fun h => ?_⟩
  · obtain ⟨a, b, rfl⟩ := List.append_of_mem h
    rw [splitL_app (· == c) a b c (by simp), List.length_append]
    have h1 := List.length_pos_iff.2 (splitL_ne (· == c) a)
    have h2 := List.length_pos_iff.2 (splitL_ne (· == c) b)
    omega
  · have e : splitL (· == c) t = [t] := by
      unfold splitL
      rw [splitL_one _ t (fun d hd => by simp; rintro rfl; exact h hd)]
      rfl
    rw [e]
    rfl
theorem split_le (c : UInt8) (t : List UInt8) : ∀ x ∈ splitL (· == c) t, x.length ≤ t.length := by
  refine parts_ind (· == c) (C := fun t => ∀ x ∈ splitL (· == c) t, x.length ≤ t.length) ?_ ?_ t
  · intro l hl x hx
    have e : splitL (· == c) l = [l] := by unfold splitL; rw [splitL_one _ l hl]; rfl
    rw [e] at hx
    rw [List.mem_singleton.1 hx]
    exact Nat.le_refl _
  · intro l d r hl hd ih x hx
    have e : splitL (· == c) l = [l] := by unfold splitL; rw [splitL_one _ l hl]; rfl
    rw [splitL_app (· == c) l r d hd, e] at hx
    rw [List.length_append, List.length_cons]
    rcases List.mem_append.1 hx with h | h
    · rw [List.mem_singleton.1 h]; omega
    · have := ih x h; omega
theorem conv_at (W : World) (c : UInt8) (g : Nat) (h : W.cell? ⟨g, 0, none⟩ = some (.int .u8 (c.toNat : Int))) : (convert 53 9 (.slice (some ⟨g, 0, none⟩) 1 1)).run Tryd.prog W = .ok (.string ⟨#[c]⟩) W :=
  run_convert_bytes_back (P := Tryd.prog) W 53 9 5 ⟨g, 0, none⟩ 1 [c] Tryd.underlying53 Tryd.underlying5 Tryd.underlying9 (fun j hj => by
    have : j = 0 := by simpa using hj
    subst this
    exact h)
theorem split_len (c : UInt8) (t : List UInt8) : (splitL (· == c) t).length ≤ t.length + 1 := by
  refine parts_ind (· == c) (C := fun t => (splitL (· == c) t).length ≤ t.length + 1) ?_ ?_ t
  · intro l hl
    have e : splitL (· == c) l = [l] := by unfold splitL; rw [splitL_one _ l hl]; rfl
    rw [e]; simp
  · intro l d r hl hd ih
    have e : splitL (· == c) l = [l] := by unfold splitL; rw [splitL_one _ l hl]; rfl
    rw [splitL_app (· == c) l r d hd, e, List.singleton_append, List.length_cons, List.length_append, List.length_cons]
    omega
/-- What the fields of a line are at one place, and at two. -/
theorem one_fields (t : List UInt8) (c : UInt8) (k : Nat) (hk : 1 ≤ k) (P : List (List UInt8)) (hP : splitL (· == c) t = P) :
    (c ∉ t → P.length = 1 ∧ fieldsE [⟨(k : Int), (k : Int)⟩] c true t = ([], false) ∧ fieldsE [⟨(k : Int), (k : Int) + 1⟩] c true t = ([], false)) ∧
    (c ∈ t → 2 ≤ P.length ∧
      (k = P.length + 1 → fieldsE [⟨(k : Int), (k : Int)⟩] c true t = ([], true) ∧ fieldsE [⟨(k : Int), (k : Int) + 1⟩] c true t = ([], true)) ∧
      (∀ h : k = P.length, fieldsE [⟨(k : Int), (k : Int)⟩] c true t = (P[k - 1], true) ∧ fieldsE [⟨(k : Int), (k : Int) + 1⟩] c true t = (P[k - 1], true)) ∧
      (∀ h : k < P.length, fieldsE [⟨(k : Int), (k : Int)⟩] c true t = (P[k - 1], true) ∧ fieldsE [⟨(k : Int), (k : Int) + 1⟩] c true t = (P[k - 1] ++ c :: P[k], true))) := by
  obtain ⟨s1, s2⟩ := split_in_len c t
  rw [hP] at s1 s2
  refine ⟨fun h => ⟨s2 h, by unfold fieldsE; rw [if_neg h, if_pos rfl], by unfold fieldsE; rw [if_neg h, if_pos rfl]⟩, fun h => ⟨s1 h, fun hk2 => ?_, fun hk2 => ?_, fun hk2 => ?_⟩⟩
  · unfold fieldsE
    rw [if_pos h, if_pos h, hP, pick_far P k k hk2 hk]
    have e : ((k : Int) + 1) = ((k + 1 : Nat) : Int) := by omega
    rw [e, pick_far P k (k + 1) hk2 (by omega)]
    exact ⟨rfl, rfl⟩
  · unfold fieldsE
    rw [if_pos h, if_pos h, hP, pick_one P k hk (by omega), pick_last P k hk hk2, Lib.join_one]
    exact ⟨rfl, rfl⟩
  · unfold fieldsE
    rw [if_pos h, if_pos h, hP, pick_one P k hk (by omega), pick_two P k hk hk2, Lib.join_one, Lib.join_cons]
    refine ⟨rfl, ?_⟩
    simp [Lib.joinTail]
theorem lfields_calls (s : ByteArray) (c : UInt8) (hc : c ≠ 0) (hs : s.size ≤ 8796093022000) (w : World) :
    Calls Tryd.prog 23 #[.string s, .int .u8 (c.toNat : Int)] w fun e W' => ∃ v, e = .returned v ∧ W'.ownsRow w.heap.size 9 1 v ((splitL (· == c) s.data.toList).map bs).length (strs ((splitL (· == c) s.data.toList).map bs)) ∧ Below w.heap.size w W' := by
  have h := callsIn_wide.1 (fields_in Fence.wide 10 trivial trivial trivial trivial trivial trivial trivial rfl (by omega) s (c.toNat : Int) hs w)
  have e : fieldsOf s (c.toNat : Int) = (splitL (· == c) s.data.toList).map bs := by
    unfold fieldsOf
    rw [if_neg (fun e => hc (by rw [← UInt8.toNat_inj]; show c.toNat = 0; omega)), partsOf_spl]
    congr 2
    funext b
    rw [Bool.eq_iff_iff, beq_iff_eq, beq_iff_eq, ← UInt8.toNat_inj]
    omega
  rw [e] at h
  exact h
set_option maxHeartbeats 4000000 in
set_option maxRecDepth 100000 in
theorem cutsSingle (s : ByteArray) (c : UInt8) (n : Nat) (hn : n < 65536) (w : World) (hE : EnvW w) (hs : s.size ≤ 140737488351232) :
    Calls Tryd.prog 9 #[.string s, .int .u8 (c.toNat : Int), .int .u16 (n : Int)] w fun e w' => e = .returned (.bool true) ∧ Below w.heap.size w w' := by
  have HE := Lib.hid hE
  clear hE
  by_cases hbig : 20000 < s.size ∨ c = 0
  · by_cases h2 : 20000 < s.size
    · have d1 : decide ((20000 : Int) < (s.size : Int)) = true := decide_eq_true (by omega)
      clear hbig h2
      go_enter Tryd.func9, Tryd.ntmps9
      go_wp2_with fail
      refine (alive_calls _ HE.out).mono ?_
      rintro e w2 ⟨rfl, hb2⟩
      have B2 := Lib.hid hb2
      clear hb2
      go_wp2_with fail
      refine (alive_calls _ (HE.out.below B2.out)).mono ?_
      rintro e w3 ⟨rfl, hb3⟩
      have B3 := Lib.hid (bth B2.out hb3)
      clear hb3
      go_wp2
      go_ret
      exact ⟨rfl, B3.out⟩
    · have d1 : decide ((20000 : Int) < (s.size : Int)) = false := decide_eq_false (by omega)
      obtain rfl : c = 0 := hbig.resolve_left h2
      show Calls _ _ #[.string s, .int .u8 0, .int .u16 (n : Int)] _ _
      clear hbig h2
      go_enter Tryd.func9, Tryd.ntmps9
      go_wp2_with fail
      refine (alive_calls _ HE.out).mono ?_
      rintro e w2 ⟨rfl, hb2⟩
      have B2 := Lib.hid hb2
      clear hb2
      go_wp2_with fail
      refine (alive_calls _ (HE.out.below B2.out)).mono ?_
      rintro e w3 ⟨rfl, hb3⟩
      have B3 := Lib.hid (bth B2.out hb3)
      clear hb3
      go_wp2
      go_ret
      exact ⟨rfl, B3.out⟩
  · have d1 : decide ((20000 : Int) < (s.size : Int)) = false := decide_eq_false (by omega)
    have hc0 : c ≠ 0 := fun e => hbig (.inr e)
    have hs2 : s.size ≤ 20000 := by omega
    have d2 : ((c.toNat : Int) == 0) = false := by
      rw [beq_eq_false_iff_ne]
      intro e
      exact hc0 (by rw [← UInt8.toNat_inj]; show c.toNat = 0; omega)
    clear hbig
    have lf := fun W => lfields_calls s c hc0 (by omega) W
    obtain ⟨P, hP⟩ : ∃ P, splitL (· == c) s.data.toList = P := ⟨_, rfl⟩
    rw [hP] at lf
    have LF := Lib.hid lf
    clear lf
    go_enter Tryd.func9, Tryd.ntmps9
    go_wp2_with fail
    refine (alive_calls _ HE.out).mono ?_
    rintro e w2 ⟨rfl, hb2⟩
    have B2 := Lib.hid hb2
    clear hb2
    go_wp2_with fail
    refine (LF.out _).mono ?_
    rintro e w3 ⟨v, rfl, ho, hb3⟩
    obtain ⟨Am, Ac, rfl, hcap, hC⟩ := reads_own ho
    have B3 := Lib.hid (bth B2.out hb3)
    have hPl : (P.map bs).length = P.length := List.length_map ..
    rw [hPl] at hcap ⊢
    have HPL := Lib.hid hPl
    have HC := Lib.hid hC
    have hP5 : P.length ≤ 20001 := by
      have h := split_len c s.data.toList
      rw [hP] at h
      have := (Lib.size_eq s).symm
      omega
    have HLE := Lib.hid (show ∀ x ∈ P, x.length ≤ s.size from fun x hx => by rw [Lib.size_eq]; exact split_le c s.data.toList x (by rw [hP]; exact hx))
    obtain ⟨K, hK⟩ : ∃ K, n % (P.length + 1) + 1 = K := ⟨_, rfl⟩
    have hK1 : 1 ≤ K := by omega
    have hK2 : K ≤ P.length + 1 := by have := Nat.mod_lt n (show 0 < P.length + 1 by omega); omega
    have hKi : (n : Int) % ((P.length : Int) + 1) + 1 = (K : Int) := by rw [← hK]; simp
    have hlaw := one_fields s.data.toList c K hK1 P hP
    obtain ⟨⟨x1, b1⟩, hR1⟩ : ∃ R, fieldsE [⟨(K : Int), (K : Int)⟩] c true s.data.toList = R := ⟨_, rfl⟩
    obtain ⟨⟨x2, b2⟩, hR2⟩ : ∃ R, fieldsE [⟨(K : Int), (K : Int) + 1⟩] c true s.data.toList = R := ⟨_, rfl⟩
    have f1 := fun (A : Option Addr) (z : Nat) (W : World) h1 h2 h3 => fields_calls s (by omega) A z [⟨(K : Int), (K : Int)⟩] c true W h1 h2 h3
    have f2 := fun (A : Option Addr) (z : Nat) (W : World) h1 h2 h3 => fields_calls s (by omega) A z [⟨(K : Int), (K : Int) + 1⟩] c true W h1 h2 h3
    rw [hR1] at f1
    rw [hR2] at f2
    rw [hR1, hR2] at hlaw
    have f1' : ∀ (A : Option Addr) (z : Nat) (W : World), W.ShapedOpen Tryd.prog → Kd.C k34 W A 1 [⟨(K : Int), (K : Int)⟩] → 1 ≤ z → Calls Tryd.prog 12 #[.string s, .slice A 1 z, .int .u8 (c.toNat : Int), .bool true] W fun e w' => e = .returned (.tuple #[.string (bs x1), .bool b1]) ∧ Below W.heap.size W w' := f1
    have f2' : ∀ (A : Option Addr) (z : Nat) (W : World), W.ShapedOpen Tryd.prog → Kd.C k34 W A 1 [⟨(K : Int), (K : Int) + 1⟩] → 1 ≤ z → Calls Tryd.prog 12 #[.string s, .slice A 1 z, .int .u8 (c.toNat : Int), .bool true] W fun e w' => e = .returned (.tuple #[.string (bs x2), .bool b2]) ∧ Below W.heap.size W w' := f2
    have F1 := Lib.hid f1'
    have F2 := Lib.hid f2'
    have HL := Lib.hid hlaw
    have HKI := Lib.hid (show wrap64 ((n : Int) % ((P.length : Int) + 1) + 1) = (K : Int) by rw [hKi]; unfold wrap64; omega)
    clear ho hb3 hC hPl f1 f2 f1' f2' hlaw hKi hR1 hR2 hK hP
    go_wp2_with fail
    rw [HKI.out]
    have hC1 : Kd.C k34 (w3.alloc (.cells #[.int .i64 (K : Int), .int .i64 (K : Int)] 34)) (some ⟨w3.heap.size, 0, none⟩) 1 [⟨(K : Int), (K : Int)⟩] := C_rlit w3 [⟨(K : Int), (K : Int)⟩] 1 rfl _ rfl (by simp)
    refine (F1.out _ _ _ (HE.out.below (bal B3.out _)).shape hC1 (Nat.le_refl _)).mono ?_
    rintro e w4 ⟨rfl, hb4⟩
    have B4 := Lib.hid (bth (bal B3.out _) hb4)
    have L4 := Lib.hid (bth (bal (Below.refl w3.heap.size w3) _) hb4)
    clear hb4
    go_wp2_with fail
    have hC2 : Kd.C k34 (w4.alloc (.cells #[.int .i64 (K : Int), .int .i64 ((K : Int) + 1)] 34)) (some ⟨w4.heap.size, 0, none⟩) 1 [⟨(K : Int), (K : Int) + 1⟩] := C_rlit w4 [⟨(K : Int), (K : Int) + 1⟩] 1 rfl _ rfl (by simp)
    refine (F2.out _ _ _ (HE.out.below (bal B4.out _)).shape hC2 (Nat.le_refl _)).mono ?_
    rintro e w5 ⟨rfl, hb5⟩
    have B5 := Lib.hid (bth (bal B4.out _) hb5)
    have L5 := Lib.hid (bth (bal L4.out _) hb5)
    clear hb5 hC1 hC2
    obtain ⟨d, hd⟩ : ∃ d, K = d + 1 := ⟨K - 1, by omega⟩
    have hKd : (K : Int) = (d : Int) + 1 := by omega
    rw [hKd]
    by_cases hin : c ∈ s.data.toList
    · obtain ⟨h2, c1, c2, c3⟩ := HL.out.2 hin
      have e1 : ((P.length : Int) == 1) = false := by rw [beq_eq_false_iff_ne]; omega
      by_cases hk1 : K = P.length + 1
      · obtain ⟨c4, c5⟩ := c1 hk1
        obtain ⟨rfl, rfl⟩ := Prod.mk.inj c4
        obtain ⟨rfl, rfl⟩ := Prod.mk.inj c5
        have e2 : decide ((P.length : Int) < (d : Int) + 1) = true := decide_eq_true (by omega)
        rw [show bs [] = ⟨#[]⟩ from rfl]
        clear c1 c2 c3 c4 c5
        go_wp2
        go_ret
        exact ⟨rfl, B5.out⟩
      · have hdl : d < P.length := by omega
        have e2 : decide ((P.length : Int) < (d : Int) + 1) = false := decide_eq_false (by omega)
        obtain ⟨ad, rfl, hcell⟩ := C_at HC.out L5.out d (by rw [HPL.out]; exact hdl)
        obtain ⟨X, hX⟩ : ∃ X, bs P[d] = X := ⟨_, rfl⟩
        rw [List.getElem_map, hX] at hcell
        have hkd : P[K - 1]'(by omega) = P[d] := by congr 1; omega
        have g1 : (!(X.toList == X.toList)) = false := by simp
        have g2 : (X.toList == X.toList) = true := by simp
        by_cases hk2 : K = P.length
        · obtain ⟨c4, c5⟩ := c2 hk2
          obtain ⟨rfl, rfl⟩ := Prod.mk.inj c4
          obtain ⟨rfl, rfl⟩ := Prod.mk.inj c5
          have e3 : decide ((d : Int) + 1 < (P.length : Int)) = false := decide_eq_false (by omega)
          rw [hkd, hX]
          clear c1 c2 c3 c4 c5 hkd hX
          go_wp2
          go_ret
          exact ⟨rfl, B5.out⟩
        · have hk3 : K < P.length := by omega
          obtain ⟨c4, c5⟩ := c3 hk3
          obtain ⟨rfl, rfl⟩ := Prod.mk.inj c4
          obtain ⟨rfl, rfl⟩ := Prod.mk.inj c5
          have e3 : decide ((d : Int) + 1 < (P.length : Int)) = true := decide_eq_true (by omega)
          obtain ⟨Y, hY⟩ : ∃ Y, bs P[K] = Y := ⟨_, rfl⟩
          obtain ⟨ad2, hA2, hcell2⟩ := C_at HC.out L5.out (d + 1) (by rw [HPL.out]; omega)
          obtain rfl : ad = ad2 := Option.some.inj hA2
          have hkd1 : (P.map bs)[d + 1]'(by rw [HPL.out]; omega) = Y := by
            rw [List.getElem_map, ← hY]
            congr 2
            exact hd.symm
          rw [hkd1] at hcell2
          have hb2 : bs (P[d] ++ c :: P[K]) = X ++ ⟨#[c]⟩ ++ Y := by
            rw [← hX, ← hY]
            apply ext_bytes
            rw [bs_toList, append_bytes, append_bytes, bs_toList, bs_toList]
            simp
          have hXs : X.size ≤ 20000 := by rw [← hX, Lib.size_eq, bs_toList]; exact Nat.le_trans (HLE.out _ (List.getElem_mem _)) hs2
          have hYs : Y.size ≤ 20000 := by rw [← hY, Lib.size_eq, bs_toList]; exact Nat.le_trans (HLE.out _ (List.getElem_mem _)) hs2
          rw [hkd, hX, hb2]
          clear c1 c2 c3 c4 c5 hkd hX hb2 hkd1 hY
          go_wp2_with fail
          have q1 : ((d : Int) + 1).toNat = d + 1 := by omega
          have q2 : (0 : Int) ≤ (d : Int) + 1 := by omega
          have q3 : (d : Int) + 1 < (P.length : Int) := by omega
          have r0 : w5.drew.cell? ⟨ad.block, ad.off + (d + 1), none⟩ = some (.string Y) := hcell2
          have r1 : (w5.alloc (.cells #[.int .u8 (c.toNat : Int)] 5)).drew.cell? ⟨ad.block, ad.off + (d + 1), none⟩ = some (.string Y) := 
            Lib.cell?_alloc_some (.cells #[.int .u8 (c.toNat : Int)] 5) hcell2
          have r2 := conv_at (w5.alloc (.cells #[.int .u8 (c.toNat : Int)] 5)).drew c w5.heap.size (cell_one_new w5 _ _ 0 _ rfl)
          have hc1 := fun (T : TypeId) => str_add T X ⟨#[c]⟩ (by show _ + 1 ≤ _; omega)
          have hc2 := fun (T : TypeId) => str_add T (X ++ ⟨#[c]⟩) Y (by rw [ByteArray.size_append]; show _ + 1 + _ ≤ _; omega)
          go_region
          clear r0 r1 r2 hc1 hc2
          have g3 : ((X ++ ⟨#[c]⟩ ++ Y).toList == (X ++ ⟨#[c]⟩ ++ Y).toList) = true := by simp
          go_wp2
          go_ret
          exact ⟨rfl, bdr (bal B5.out _)⟩
    · obtain ⟨h2, c4, c5⟩ := HL.out.1 hin
      obtain ⟨rfl, rfl⟩ := Prod.mk.inj c4
      obtain ⟨rfl, rfl⟩ := Prod.mk.inj c5
      have e1 : ((P.length : Int) == 1) = true := by rw [beq_iff_eq]; omega
      rw [show bs [] = ⟨#[]⟩ from rfl]
      clear c4 c5
      go_wp2
      go_ret
      exact ⟨rfl, B5.out⟩
theorem byteS_of (x : Int) (h : (Lit.int .u8 x).wf = true) : ∃ c : UInt8, x = (c.toNat : Int) := by
  have h' : 0 ≤ x ∧ x ≤ 255 := by simpa [Lit.wf, IntKind.min, IntKind.max, IntKind.signed, IntKind.bits] using h
  exact ⟨UInt8.ofNat x.toNat, by simp [UInt8.toNat_ofNat']; omega⟩
theorem CutsSingle_walk (a0 : ByteArray) (a1 : Int) (a2 : Int) (W : World) (hE : EnvW W) (ok0 : a0.size ≤ 140737488351232) (ok1 : (Lit.int .u8 a1).wf = true) (ok2 : (Lit.int .u16 a2).wf = true) :
    Calls Tryd.prog 9 #[.string a0, .int .u8 a1, .int .u16 a2] W fun e W' => e = .returned (.bool true) ∧ Below W.heap.size W W' := by
  obtain ⟨c, rfl⟩ := byteS_of a1 ok1
  have h' : 0 ≤ a2 ∧ a2 ≤ 65535 := by simpa [Lit.wf, IntKind.min, IntKind.max, IntKind.signed, IntKind.bits] using ok2
  obtain ⟨m, rfl⟩ := Int.eq_ofNat_of_zero_le h'.1
  exact cutsSingle a0 c m (by omega) W hE ok0
end Go.Proofs.YtkedjlekeohpaaaDoor.P

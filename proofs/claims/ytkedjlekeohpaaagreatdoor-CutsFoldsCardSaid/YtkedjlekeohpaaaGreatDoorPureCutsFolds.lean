/- CutsFolds: the walk of the law: for every line and number it returns true. -/
import Derived.Test.YtkedjlekeohpaaaGreatDoorRefFold
import Derived.Test.YtkedjlekeohpaaaGreatDoorSameSelf
import Derived.Test.YtkedjlekeohpaaaGreatDoorBook6
set_option linter.unusedVariables false
set_option linter.unusedSimpArgs false
namespace Go.Proofs.YtkedjlekeohpaaaGreatDoor.P
open Go.RowKit Go.Proofs Go.Proofs.YtkedjlekeohpaaaGreatDoor.Q Go.Proofs.YtkedjlekeohpaaaGreatDoor.H Go.Proofs.YtkedjlekeohpaaaGreatDoor.K Go.Proofs.YtkedjlekeohpaaaGreatDoor.C Go.Proofs.YtkedjlekeohpaaaGreatDoor.S Go.Proofs.YtkedjlekeohpaaaGreatDoorW.PrintWords Go.Proofs.YtkedjlekeohpaaaGreatDoorW.PrintLast

theorem own_R {W : World} {base : Nat} {ok : Nat → Prop} {v : Value} {l : List ByteArray} (h : Kd.R Kd.string 9 W base ok v l) : ∃ A c, v = .slice A l.length c ∧ l.length ≤ c ∧ Kd.C Kd.string W A l.length l := Kd.R_reads h
theorem below_al {w w' : World} {o : Obj} (h : Below w.heap.size (w.alloc o) w') : Below w.heap.size w w' := ((Below.refl _ w).alloc (Nat.le_refl _) o).trans h
theorem reads_own {W : World} {base n : Nat} {v : Value} {l : List ByteArray} (h : W.ownsRow base 9 1 v n (strs l)) : ∃ A c, v = .slice A l.length c ∧ l.length ≤ c ∧ Kd.C Kd.string W A l.length l := Kd.R_reads (R_of_own h)
theorem fold_len (M : Nat) (bl : Bool) (hM : 1 ≤ M) : ∀ (n : Nat) (T : List UInt8), T.length ≤ n → (foldL M bl T).length ≤ T.length + 1
  | 0, T, h => by
    rw [fold_step M bl hM, if_neg (by omega)]
    simp
  | n + 1, T, h => by
    rw [fold_step M bl hM]
    split
    · rename_i hlt
      have hc := cut_pos M bl T hM
      have := fold_len M bl hM n (T.drop (cutN M bl T)) (by rw [List.length_drop]; omega)
      rw [List.length_drop] at this
      rw [List.length_cons]
      omega
    · simp
theorem foldE_len (n : Int) (bl : Bool) (t : List UInt8) : (foldE n bl t).1.length ≤ t.length + 1 := by
  unfold foldE
  split
  · simp
  · split
    · simp
    · exact fold_len _ bl (by omega) _ t (Nat.le_refl _)
set_option maxHeartbeats 4000000 in
set_option maxRecDepth 100000 in
theorem CutsFolds_walk (a0 : ByteArray) (a1 : Int) (a2 : Bool) (W : World) (hE : EnvW W) (ok0 : a0.size ≤ 140737488351232) (ok1 : (Lit.int .i64 a1).wf = true) :
    Calls Tryz.prog 4 #[.string a0, .int .i64 a1, .bool a2] W fun e W' => e = .returned (.bool true) ∧ Below W.heap.size W W' := by
  obtain ⟨kb, hkb⟩ := (beyond_one a0.size (by omega)).at_
  have HE := Lib.hid hE
  clear hE ok1
  by_cases hbig : a0.size > 1048576
  · rw [decide_eq_true hbig] at hkb
    have KB := Lib.hid hkb
    clear hkb hbig
    go_enter Tryz.func4, Tryz.ntmps4
    go_wp2_with (go_at_call 5; refine (toolchestlaw01_Beyond.calls kb (some ⟨W.heap.size, 0, none⟩) 1 [(a0.size : Int)] true _ (C_ints W .i64 3 [(a0.size : Int)] (by simp)) (Nat.le_refl _) KB.out).mono ?_)
    rintro e w0 ⟨rfl, hb0⟩
    go_wp2
    go_ret
    exact ⟨rfl, bth (bal (Below.refl _ _) _) hb0.below⟩
  · rw [decide_eq_false hbig] at hkb
    have hs : a0.size ≤ 1048576 := by omega
    obtain ⟨kf, hkf⟩ := (ref_fold_f a0 (by omega) a1 a2).at_
    have hln := foldE_len a1 a2 a0.data.toList
    have hz : a0.data.toList.length = a0.size := (Lib.size_eq a0).symm
    have fc := fun (w : World) h => fold_calls a0 (by omega) a1 a2 w h
    obtain ⟨⟨R, E⟩, hRE⟩ : ∃ R, foldE a1 a2 a0.data.toList = R := ⟨_, rfl⟩
    rw [hRE] at hkf hln fc
    obtain ⟨L, hL⟩ : ∃ L, R.map bs = L := ⟨_, rfl⟩
    have hLl : L.length = R.length := by rw [← hL]; simp
    have hL2 : L.length ≤ 1048577 := by rw [hLl]; exact Nat.le_trans hln (by omega)
    obtain ⟨k1, hk1⟩ := (same_self L (by omega)).at_
    have fc2 : ∀ (w : World), Lib.Utf8Tabs 2 3 w → Calls Tryz.prog 14 #[.string a0, .int .i64 a1, .bool a2] w fun e w' => ∃ v, e = .returned (.tuple #[v, .int .i64 (E : Int)]) ∧ w'.ownsRow w.heap.size 9 1 v L.length (strs L) ∧ Below w.heap.size w w' := fun w h => by
      have := fc w h
      rw [hLl, ← hL]
      exact this
    have hkf2 : toolchestref07_Fold.f kf a0 a1 a2 = some (L, (E : Int)) := by rw [← hL]; exact hkf
    have KB := Lib.hid hkb
    have FC := Lib.hid fc2
    have KF := Lib.hid hkf2
    have K1 := Lib.hid hk1
    clear hkb hbig fc fc2 hkf hkf2 hk1 hRE hL hLl hln hz ok0
    go_enter Tryz.func4, Tryz.ntmps4
    go_wp2_with (go_at_call 5; refine (toolchestlaw01_Beyond.calls kb (some ⟨W.heap.size, 0, none⟩) 1 [(a0.size : Int)] false _ (C_ints W .i64 3 [(a0.size : Int)] (by simp)) (Nat.le_refl _) KB.out).mono ?_)
    rintro e w0 ⟨rfl, hb0⟩
    have B0 := Lib.hid (bth (bal (Below.refl _ _) _) hb0.below)
    clear hb0
    go_wp2_with (go_at_call 14; refine (FC.out _ (HE.out.below B0.out).utf).mono ?_)
    rintro e w1 ⟨v1, rfl, ho1, hb1⟩
    obtain ⟨A1, c1, rfl, hc1, hr1⟩ := reads_own ho1
    have O1 := Lib.hid ho1
    have B1 := Lib.hid (bth B0.out hb1)
    have S1 := Lib.hid hb1
    clear hb1 ho1 hr1
    go_wp2_with (go_at_call 14; refine (FC.out _ (HE.out.below B1.out).utf).mono ?_)
    rintro e w2 ⟨v2, rfl, ho2, hb2⟩
    obtain ⟨A2, c2, rfl, hc2, hr2⟩ := reads_own ho2
    have O2 := Lib.hid ho2
    have B2 := Lib.hid (bth B1.out hb2)
    have S2 := Lib.hid hb2
    clear hb2 ho2 hr2
    go_wp2_with (go_at_call 15; refine (toolchestref07_Fold.calls kf a0 a1 a2 L (E : Int) _ KF.out).mono ?_)
    rintro e w3 ⟨v3, rfl, ho3, hb3⟩
    obtain ⟨A3, c3, rfl, hc3, hr3⟩ := own_R ho3
    have R3 := Lib.hid hr3
    have B3 := Lib.hid (bth B2.out hb3)
    have S3 := Lib.hid hb3
    clear hb3 ho3 hr3
    have T1 : Hid (Below w1.heap.size w1 w3) := Lib.hid (bth S2.out S3.out)
    have q1 : Hid (Kd.C Kd.string w3 A1 L.length L) := Lib.hid (by
      obtain ⟨A, c, e, _, h⟩ := reads_own (pw_own_below O1.out T1.out); cases e; exact h)
    have q2 : Hid (Kd.C Kd.string w3 A2 L.length L) := Lib.hid (by
      obtain ⟨A, c, e, _, h⟩ := reads_own (pw_own_below O2.out S3.out); cases e; exact h)
    go_wp2_with (first | (go_at_call 9; with_reducible refine (toolchestlaw01_SameTexts.calls k1 A1 c1 L A3 c3 L true _ q1.out hc1 R3.out hc3 K1.out).mono ?_))
    rintro e w4 ⟨rfl, hb4⟩
    have S4 := Lib.hid hb4.below
    clear hb4
    have q2' := Lib.hid (Kd.C_below q2.out S4.out)
    have q3' := Lib.hid (Kd.C_below R3.out S4.out)
    go_wp2_with (first | (go_at_call 9; with_reducible refine (toolchestlaw01_SameTexts.calls k1 A2 c2 L A3 c3 L true _ q2'.out hc2 q3'.out hc3 K1.out).mono ?_))
    rintro e w5 ⟨rfl, hb5⟩
    have S5 := Lib.hid (bth S4.out hb5.below)
    clear hb5
    go_wp2_with (go_at_call 12; refine (texts_calls w5.heap.size _ 0 _ A1 L.length c1 _ (book_new w5) (by decide) (by simp)).mono ?_)
    rintro e x1 ⟨rfl, ⟨t1, hk1⟩, hx1⟩
    have HK1 := Lib.hid hk1
    have X1 := Lib.hid (below_al hx1)
    clear hk1 hx1
    go_wp2_with (go_at_call 12; refine (texts_calls w5.heap.size _ 1 _ A2 L.length c2 _ HK1.out (by decide) (by simp)).mono ?_)
    rintro e x2 ⟨rfl, ⟨t2, hk2⟩, hx2⟩
    have HK2 := Lib.hid hk2
    have X2 := Lib.hid (X1.out.trans hx2)
    clear hk2 hx2
    have hrdy := Lib.hid (ready_of (B0 := W.heap.size) (w := x2) (fun i => [L, L].getD i []) (fun i => [w0.heap.size, w1.heap.size].getD i 0) (fun i => [w1.heap.size, w2.heap.size].getD i 0) HK2.out (by simp) (by have := B3.out.size; have := S5.out.size; omega)
      (by
        have f1 : ∀ {base n : Nat} {v : Value} {xs : List Value} {w' : World}, w'.ownsRow base 9 1 v n xs → W.heap.size ≤ base → Below w'.heap.size w' w5 → x2.ownsRow W.heap.size 9 1 v n xs := fun {base n v xs w'} h hb hl => own_weaken (pw_own_below (pw_own_below h hl) X2.out) hb
        have z0 := B0.out.size
        have z1 := S1.out.size
        have z2 := S2.out.size
        have z3 := S3.out.size
        have z5 := S5.out.size
        intro i hi
        have hi2 : i < 2 := hi
        rcases (show i = 0 ∨ i = 1 by omega) with rfl | rfl
        · exact ⟨f1 O1.out (by omega) (bth T1.out S5.out), iv_of O1.out, (by show w1.heap.size ≤ w5.heap.size; omega), (by show (1 : Nat) < 100; omega), rfl, (by show L.length ≤ _; omega)⟩
        · exact ⟨f1 O2.out (by omega) (bth S3.out S5.out), iv_of O2.out, (by show w2.heap.size ≤ w5.heap.size; omega), (by show (2 : Nat) < 100; omega), rfl, (by show L.length ≤ _; omega)⟩)
      (by
        intro i j hij hj
        have hj2 : j < 2 := hj
        obtain ⟨rfl, rfl⟩ : i = 0 ∧ j = 1 := by omega
        show w1.heap.size ≤ w1.heap.size; omega))
    go_wp2_with (go_at_call 13; refine (apart_calls W.heap.size w5.heap.size 2 _ _ _ _ hrdy.out).mono ?_)
    rintro e w9 ⟨rfl, hb9⟩
    go_wp2
    go_ret
    exact ⟨rfl, (bth (bth B3.out S5.out) X2.out).trans hb9⟩
end Go.Proofs.YtkedjlekeohpaaaGreatDoor.P

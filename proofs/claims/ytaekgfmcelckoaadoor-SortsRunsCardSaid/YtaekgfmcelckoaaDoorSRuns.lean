/- Written by merge.py out of SLeft, SRefLeft, SSame, SRuns. -/
import Derived.Test.YtaekgfmcelckoaaDoorKRune
import Derived.Test.YtaekgfmcelckoaaDoorSpl
import Derived.IntWalk
import Derived.Shelf.Strings.SlTrimAscii
import Derived.Deep.RegionHeld3
import Derived.RegionTactic
import Derived.Test.YtaekgfmcelckoaaDoorSSort
import Derived.Deep.AppendLies
section
/- sorts.left: what is left of a line when so many fields, and so many bytes, are skipped. -/
set_option linter.unusedVariables false
set_option linter.unusedSimpArgs false
namespace Go.Proofs.YtaekgfmcelckoaaDoor.H
open Go.RowKit Go.Shelf Go.Proofs Go.Proofs.YtaekgfmcelckoaaDoor.S Go.Proofs.YtaekgfmcelckoaaDoorW.PrintWords

def blB (c : UInt8) : Bool := [(32 : UInt8), 9].contains c
def skipF : Nat → List UInt8 → List UInt8
  | 0, t => t
  | n + 1, t => skipF n ((t.dropWhile blB).dropWhile fun c => !blB c)
theorem skip_nil : ∀ n, skipF n [] = []
  | 0 => rfl
  | n + 1 => skip_nil n
def leftL (f b : Int) (t : List UInt8) : List UInt8 := (skipF f.toNat t).drop (max 0 (min b ((skipF f.toNat t).length : Int))).toNat
theorem index_drop : ∀ t : List UInt8, t.drop (if Lib.indexAny t [32, 9] < 0 then t.length else (Lib.indexAny t [32, 9]).toNat) = t.dropWhile (fun c => !blB c) ∧ Lib.indexAny t [32, 9] ≤ t.length ∧ -1 ≤ Lib.indexAny t [32, 9]
  | [] => ⟨by simp [Lib.indexAny], by simp [Lib.indexAny], by simp [Lib.indexAny]⟩
  | c :: t => by
    obtain ⟨h1, h2, h3⟩ := index_drop t
    have hI : Lib.indexAny (c :: t) [32, 9] = if [(32 : UInt8), 9].contains c then 0 else if Lib.indexAny t [32, 9] == -1 then -1 else Lib.indexAny t [32, 9] + 1 := rfl
    generalize Lib.indexAny (c :: t) [32, 9] = I at hI ⊢
    generalize Lib.indexAny t [32, 9] = J at hI h1 h2 h3
    rw [List.length_cons]
    by_cases hc : [(32 : UInt8), 9].contains c = true
    · rw [if_pos hc] at hI
      subst hI
      refine ⟨?_, by omega, by omega⟩
      rw [if_neg (by omega), List.dropWhile_cons_of_neg (by unfold blB; rw [hc]; decide)]
      rfl
    · rw [if_neg hc] at hI
      have hb : (!blB c) = true := by unfold blB; simp only [Bool.not_eq_true] at hc; rw [hc]; rfl
      rw [List.dropWhile_cons_of_pos (p := fun c => !blB c) hb]
      by_cases hn : J = -1
      · subst hn
        rw [if_pos (by decide)] at hI
        subst hI
        rw [if_pos (by omega)] at h1
        refine ⟨?_, by omega, by omega⟩
        rw [if_pos (by omega), ← h1]
        rfl
      · rw [if_neg (by simpa using hn)] at hI
        subst hI
        rw [if_neg (by omega)] at h1
        refine ⟨?_, by omega, by omega⟩
        rw [if_neg (by omega), ← h1, show (J + 1).toNat = J.toNat + 1 by omega]
        rfl
theorem trim_calls (s : ByteArray) (w : World) : Calls Tryd.prog 44 #[.string s, .string ⟨#[32, 9]⟩] w fun e w' => e = .returned (.string (bs (s.data.toList.dropWhile blB))) ∧ Below w.heap.size w w' :=
  Any.strings_TrimLeft_laid Tryd.lays161 K.zeroSet s ⟨#[32, 9]⟩ w (by decide) (fun j b h => by
    have hm := List.mem_of_getElem? h
    simp at hm
    rcases hm with rfl | rfl <;> decide)
theorem dw_len (p : UInt8 → Bool) (t : List UInt8) : (t.dropWhile p).length ≤ t.length := (List.dropWhile_sublist p).length_le
set_option maxHeartbeats 1000000 in
set_option maxRecDepth 100000 in
theorem left_calls (s : ByteArray) (f b : Int) (hs : s.size ≤ 100000000) (hf : -9223372036854775808 ≤ f ∧ f ≤ 9223372036854775807) (w : World) :
    Calls Tryd.prog 27 #[.string s, .int .i64 f, .int .i64 b] w fun e w' => e = .returned (.string (bs (leftL f b s.data.toList))) ∧ Below w.heap.size w w' := by
  go_enter Tryd.func27, Tryd.ntmps27
  go_wp2
  go_loopw [0, 1] (fun v i wr => ∃ (t : List UInt8) (g : Int), t.length ≤ s.size ∧ v = .string (bs t) ∧ i = .int .i64 g ∧ g ≤ f ∧ -9223372036854775808 ≤ g ∧ Hid (skipF g.toNat t = skipF f.toNat s.data.toList ∧ Below w.heap.size w wr)) (fun _ i _ => (intOf i).toNat)
  case atStart => exact ⟨s.data.toList, f, by rw [← Lib.size_eq]; exact Nat.le_refl _, by rw [bs_of], rfl, Int.le_refl _, hf.1, Lib.hid ⟨rfl, Below.refl _ _⟩⟩
  case round =>
    obtain ⟨t, g, ht, rfl, rfl, hg, hg0, hst⟩ := hrel
    by_cases hg1 : 0 < g
    · by_cases hne : t = []
      · subst hne
        have HF := Lib.hid (show skipF f.toNat s.data.toList = [] by rw [← hst.out.1]; exact skip_nil _)
        rw [show bs [] = (⟨#[]⟩ : ByteArray) from rfl]
        have hE : bs (leftL f b s.data.toList) = (⟨#[]⟩ : ByteArray).extract (max 0 (min b 0)).toNat 0 := by
          unfold leftL
          rw [HF.out, extract_bs]
          simp
        have HE := Lib.hid hE
        clear hE
        go_wp2
        go_ret
        exact ⟨by rw [HE.out]; rfl, hst.out.2⟩
      · obtain ⟨u, hu⟩ : ∃ u, (bs t).data.toList.dropWhile blB = u := ⟨_, rfl⟩
        have hul : u.length ≤ s.size := by
          rw [← hu, bs_toList]
          exact Nat.le_trans (dw_len _ _) ht
        have htc := fun W => trim_calls (bs t) W
        rw [hu] at htc
        have TC := Lib.hid htc
        have hia := fun W => K.indexAny_blank (bs u) W (by rw [bs_size]; omega)
        rw [bs_toList] at hia
        obtain ⟨h1, h2, h3⟩ := index_drop u
        have hsz : 0 < (bs t).size := by rw [bs_size]; exact List.length_pos_iff.2 hne
        have hem : (bs t).toList.isEmpty = false := by
          rw [Lib.toList_data, bs_toList]
          cases t with
          | nil => exact absurd rfl hne
          | cons a t => rfl
        clear htc
        generalize Lib.indexAny u [32, 9] = I at h1 h2 h3 hia
        have IA := Lib.hid hia
        clear hia
        go_wp2_with fail
        refine (TC.out _).mono ?_
        rintro e w2 ⟨rfl, hb2⟩
        have B2 := Lib.hid (bth hst.out.2 hb2)
        clear hb2
        go_wp2_with fail
        refine (IA.out _).mono ?_
        rintro e w3 ⟨rfl, hb3⟩
        have B3 := Lib.hid (bth B2.out hb3)
        clear hb3
        have hdw := dw_len (fun c => !blB c) u
        have hsk := Lib.hid (show skipF (g - 1).toNat (u.dropWhile fun c => !blB c) = skipF f.toNat s.data.toList by
          rw [← hst.out.1, show g.toNat = (g - 1).toNat + 1 by omega]
          rw [bs_toList] at hu
          simp only [skipF]
          rw [hu])
        by_cases hI : I < 0
        · rw [if_pos hI, List.drop_length] at h1
          have hnil : (u.dropWhile fun c => !blB c) = [] := h1.symm
          rw [hnil] at hsk
          clear h1
          go_wp2
          go_roundw
          case rel => exact ⟨[], g - 1, Nat.zero_le _, rfl, rfl, by omega, by omega, Lib.hid ⟨hsk.out, B3.out⟩⟩
          case measure => simp [intOf]; omega
        · obtain ⟨d, rfl⟩ := Int.eq_ofNat_of_zero_le (show 0 ≤ I by omega)
          rw [if_neg hI, Int.toNat_natCast] at h1
          have hdu : d ≤ u.length := by omega
          have hex : (bs u).extract d (bs u).size = bs (u.dropWhile fun c => !blB c) := by
            rw [← h1, extract_bs, bs_toList, bs_size, List.take_of_length_le (by rw [List.length_drop]; omega)]
          have HX := Lib.hid hex
          have hdz : (d : Int) ≤ ((bs u).size : Int) := by rw [bs_size]; omega
          clear hex h1 hI
          go_wp2
          go_roundw
          case rel => exact ⟨u.dropWhile fun c => !blB c, g - 1, by omega, by rw [HX.out], rfl, by omega, by omega, Lib.hid ⟨hsk.out, B3.out⟩⟩
          case measure => simp [intOf]; omega
    · have HF := Lib.hid (show t = skipF f.toNat s.data.toList by rw [← hst.out.1, show g.toNat = 0 by omega]; rfl)
      have hE : bs (leftL f b s.data.toList) = (bs t).extract (max 0 (min b ((bs t).size : Int))).toNat (bs t).size := by
        unfold leftL
        rw [← HF.out, extract_bs, bs_toList, bs_size, List.take_of_length_le (by rw [List.length_drop]; exact Nat.le_refl _)]
      have HE := Lib.hid hE
      clear hE
      go_wp2
      go_ret
      exact ⟨by rw [HE.out]; rfl, hst.out.2⟩
end Go.Proofs.YtaekgfmcelckoaaDoor.H

end
section
/- toolchestref06.left: the same. -/
set_option linter.unusedVariables false
set_option linter.unusedSimpArgs false
namespace Go.Proofs.YtaekgfmcelckoaaDoor.H
open Go.RowKit Go.Shelf Go.Proofs Go.Proofs.YtaekgfmcelckoaaDoor.S Go.Proofs.YtaekgfmcelckoaaDoorW.PrintWords

theorem dw_step (p : UInt8 → Bool) (T : List UInt8) (a : Nat) (h : a < T.length) (hp : p (T.getD a 0) = true) : (T.drop (a + 1)).dropWhile p = (T.drop a).dropWhile p := by
  have e : T.getD a 0 = T[a] := by rw [List.getD_eq_getElem?_getD, List.getElem?_eq_getElem h]; rfl
  rw [e] at hp
  rw [List.drop_eq_getElem_cons h, List.dropWhile_cons_of_pos hp]
theorem dw_stop (p : UInt8 → Bool) (T : List UInt8) (a : Nat) (h : a < T.length) (hp : p (T.getD a 0) = false) : (T.drop a).dropWhile p = T.drop a := by
  have e : T.getD a 0 = T[a] := by rw [List.getD_eq_getElem?_getD, List.getElem?_eq_getElem h]; rfl
  rw [e] at hp
  rw [List.drop_eq_getElem_cons h, List.dropWhile_cons_of_neg (by rw [hp]; decide)]
theorem nb_32 {c : UInt8} (h : ¬ blB c = true) : ((c.toNat : Int) == 32) = false := by
  rw [beq_eq_false_iff_ne]
  intro e
  exact h (by rw [show c = 32 by rw [← UInt8.toNat_inj]; show c.toNat = 32; omega]; rfl)
theorem nb_9 {c : UInt8} (h : ¬ blB c = true) : ((c.toNat : Int) == 9) = false := by
  rw [beq_eq_false_iff_ne]
  intro e
  exact h (by rw [show c = 9 by rw [← UInt8.toNat_inj]; show c.toNat = 9; omega]; rfl)
theorem getD_at (s : ByteArray) (a : Nat) (h : a < s.size) : s.data.toList.getD a 0 = s[a] := by
  rw [List.getD_eq_getElem?_getD, List.getElem?_eq_getElem (by rw [Array.length_toList]; exact h)]
  rfl
set_option maxHeartbeats 1000000 in
set_option maxRecDepth 100000 in
theorem refLeft_calls (s : ByteArray) (f b : Int) (hs : s.size ≤ 100000000) (hf : -9223372036854775808 ≤ f ∧ f ≤ 9223372036854775807) (w : World) :
    Calls Tryd.prog 28 #[.string s, .int .i64 f, .int .i64 b] w fun e w' => e = .returned (.string (bs (leftL f b s.data.toList))) ∧ Below w.heap.size w w' := by
  have hT : s.data.toList.length = s.size := (Lib.size_eq s).symm
  obtain ⟨T, hTe⟩ : ∃ T, s.data.toList = T := ⟨_, rfl⟩
  rw [hTe] at hT ⊢
  have HTE := Lib.hid hTe
  clear hTe
  go_enter Tryd.func28, Tryd.ntmps28
  go_wp2
  go_loopw [7, 8] (fun a i wr => ∃ (a0 : Nat) (g : Int), a0 ≤ s.size ∧ a = .int .i64 (a0 : Int) ∧ i = .int .i64 g ∧ 0 ≤ g ∧ (g ≤ f ∨ g = 0) ∧ Hid (skipF (f - g).toNat (T.drop a0) = skipF f.toNat T ∧ Below w.heap.size w wr)) (fun _ i _ => (f - intOf i).toNat)
  case atStart => exact ⟨0, 0, Nat.zero_le _, rfl, rfl, by omega, .inr rfl, Lib.hid ⟨by rw [Int.sub_zero]; rfl, Below.refl _ _⟩⟩
  case round =>
    obtain ⟨a0, g, ha, rfl, rfl, hg0, hgf, hst⟩ := hrel
    by_cases hgo : g < f ∧ a0 < s.size
    · obtain ⟨hg1, ha1⟩ := hgo
      go_wp2
      go_loopw [7] (fun a w0 => ∃ a1 : Nat, a0 ≤ a1 ∧ a1 ≤ s.size ∧ a = .int .i64 (a1 : Int) ∧ Hid ((T.drop a1).dropWhile blB = (T.drop a0).dropWhile blB ∧ Below w.heap.size w w0)) (fun a _ => s.size - (intOf a).toNat)
      case atStart => exact ⟨a0, Nat.le_refl _, ha, rfl, Lib.hid ⟨rfl, hst.out.2⟩⟩
      case round =>
        obtain ⟨a1, h1, h2, rfl, hs1⟩ := hrel
        by_cases hl : a1 < s.size
        · have hgd := getD_at s a1 hl
          rw [HTE.out] at hgd
          by_cases hb : blB s[a1] = true
          · have hstep := Lib.hid ((dw_step blB T a1 (by omega) (by rw [hgd]; exact hb)).trans hs1.out.1)
            have hy : s[a1] = 32 ∨ s[a1] = 9 := by unfold blB at hb; simpa using hb
            clear hgd hb
            rcases hy with hy | hy <;> (
            go_wp2
            go_roundw
            case rel => exact ⟨a1 + 1, by omega, by omega, by go_num, Lib.hid ⟨hstep.out, hs1.out.2⟩⟩
            case measure => simp [intOf]; omega)
          · have hU := Lib.hid (show T.drop a1 = (T.drop a0).dropWhile blB by
              have hbf : blB s[a1] = false := by simpa using hb
              rw [← hs1.out.1, dw_stop blB T a1 (by omega) (by rw [hgd]; exact hbf)])
            have z1 : ((s[a1].toNat : Int) == 32) = false := nb_32 hb
            have z2 : ((s[a1].toNat : Int) == 9) = false := nb_9 hb
            clear hgd hb
            go_wp2
            clear z1 z2
            go_loopw [7] (fun a w0 => ∃ a2 : Nat, a1 ≤ a2 ∧ a2 ≤ s.size ∧ a = .int .i64 (a2 : Int) ∧ Hid ((T.drop a2).dropWhile (fun c => !blB c) = (T.drop a1).dropWhile (fun c => !blB c) ∧ Below w.heap.size w w0)) (fun a _ => s.size - (intOf a).toNat)
            case atStart => exact ⟨a1, Nat.le_refl _, h2, rfl, Lib.hid ⟨rfl, hs1.out.2⟩⟩
            case round =>
              obtain ⟨a2, h3, h4, rfl, hs2⟩ := hrel
              by_cases hl2 : a2 < s.size
              · have hgd2 := getD_at s a2 hl2
                rw [HTE.out] at hgd2
                by_cases hb2 : blB s[a2] = true
                · have hV : T.drop a2 = (T.drop a1).dropWhile (fun c => !blB c) := by rw [← hs2.out.1, dw_stop (fun c => !blB c) T a2 (by omega) (by rw [hgd2, hb2]; rfl)]
                  have hy2 : s[a2] = 32 ∨ s[a2] = 9 := by unfold blB at hb2; simpa using hb2
                  clear hgd2 hb2
                  rcases hy2 with hy2 | hy2 <;> (
                  have hnext := Lib.hid (show skipF (f - (g + 1)).toNat (T.drop a2) = skipF f.toNat T by
                    rw [← hst.out.1, show (f - g).toNat = (f - (g + 1)).toNat + 1 by omega]
                    simp only [skipF]
                    rw [← hU.out, ← hV])
                  clear hV
                  go_wp2
                  go_roundw
                  case rel => exact ⟨a2, g + 1, h4, rfl, rfl, by omega, .inl (by omega), Lib.hid ⟨hnext.out, hs2.out.2⟩⟩
                  case measure => simp [intOf]; omega)
                · have hstep2 := Lib.hid ((dw_step (fun c => !blB c) T a2 (by omega) (by rw [hgd2]; simpa using hb2)).trans hs2.out.1)
                  have z1 : ((s[a2].toNat : Int) == 32) = false := nb_32 hb2
                  have z2 : ((s[a2].toNat : Int) == 9) = false := nb_9 hb2
                  clear hgd2 hb2
                  go_wp2
                  go_roundw
                  case rel => exact ⟨a2 + 1, by omega, by omega, by go_num, Lib.hid ⟨hstep2.out, hs2.out.2⟩⟩
                  case measure => simp [intOf]; omega
              · obtain rfl : a2 = s.size := by omega
                have hV : T.drop s.size = (T.drop a1).dropWhile (fun c => !blB c) := by
                  rw [← hs2.out.1, ← hT, List.drop_length]; rfl
                have hnext := Lib.hid (show skipF (f - (g + 1)).toNat (T.drop s.size) = skipF f.toNat T by
                  rw [← hst.out.1, show (f - g).toNat = (f - (g + 1)).toNat + 1 by omega]
                  simp only [skipF]
                  rw [← hU.out, ← hV])
                clear hV
                go_wp2
                go_roundw
                case rel => exact ⟨s.size, g + 1, Nat.le_refl _, rfl, rfl, by omega, .inl (by omega), Lib.hid ⟨hnext.out, hs2.out.2⟩⟩
                case measure => simp [intOf]; omega
        · obtain rfl : a1 = s.size := by omega
          have hU := Lib.hid (show T.drop s.size = (T.drop a0).dropWhile blB by
            rw [← hs1.out.1, ← hT, List.drop_length]; rfl)
          go_wp2
          go_loopw [7] (fun a w0 => ∃ a2 : Nat, s.size ≤ a2 ∧ a2 ≤ s.size ∧ a = .int .i64 (a2 : Int) ∧ Hid ((T.drop a2).dropWhile (fun c => !blB c) = (T.drop s.size).dropWhile (fun c => !blB c) ∧ Below w.heap.size w w0)) (fun a _ => s.size - (intOf a).toNat)
          case atStart => exact ⟨s.size, Nat.le_refl _, Nat.le_refl _, rfl, Lib.hid ⟨rfl, hs1.out.2⟩⟩
          case round =>
            obtain ⟨a2, h3, h4, rfl, hs2⟩ := hrel
            by_cases hl2 : a2 < s.size
            · have hgd2 := getD_at s a2 hl2
              rw [HTE.out] at hgd2
              by_cases hb2 : blB s[a2] = true
              · have hV : T.drop a2 = (T.drop s.size).dropWhile (fun c => !blB c) := by rw [← hs2.out.1, dw_stop (fun c => !blB c) T a2 (by omega) (by rw [hgd2, hb2]; rfl)]
                have hy2 : s[a2] = 32 ∨ s[a2] = 9 := by unfold blB at hb2; simpa using hb2
                clear hgd2 hb2
                rcases hy2 with hy2 | hy2 <;> (
                have hnext := Lib.hid (show skipF (f - (g + 1)).toNat (T.drop a2) = skipF f.toNat T by
                  rw [← hst.out.1, show (f - g).toNat = (f - (g + 1)).toNat + 1 by omega]
                  simp only [skipF]
                  rw [← hU.out, ← hV])
                clear hV
                go_wp2
                go_roundw
                case rel => exact ⟨a2, g + 1, h4, rfl, rfl, by omega, .inl (by omega), Lib.hid ⟨hnext.out, hs2.out.2⟩⟩
                case measure => simp [intOf]; omega)
              · have hstep2 := Lib.hid ((dw_step (fun c => !blB c) T a2 (by omega) (by rw [hgd2]; simpa using hb2)).trans hs2.out.1)
                have z1 : ((s[a2].toNat : Int) == 32) = false := nb_32 hb2
                have z2 : ((s[a2].toNat : Int) == 9) = false := nb_9 hb2
                clear hgd2 hb2
                go_wp2
                go_roundw
                case rel => exact ⟨a2 + 1, by omega, by omega, by go_num, Lib.hid ⟨hstep2.out, hs2.out.2⟩⟩
                case measure => simp [intOf]; omega
            · obtain rfl : a2 = s.size := by omega
              have hV : T.drop s.size = (T.drop s.size).dropWhile (fun c => !blB c) := by
                rw [← hs2.out.1, ← hT, List.drop_length]; rfl
              have hnext := Lib.hid (show skipF (f - (g + 1)).toNat (T.drop s.size) = skipF f.toNat T by
                rw [← hst.out.1, show (f - g).toNat = (f - (g + 1)).toNat + 1 by omega]
                simp only [skipF]
                rw [← hU.out, ← hV])
              clear hV
              go_wp2
              go_roundw
              case rel => exact ⟨s.size, g + 1, Nat.le_refl _, rfl, rfl, by omega, .inl (by omega), Lib.hid ⟨hnext.out, hs2.out.2⟩⟩
              case measure => simp [intOf]; omega
    · have hrest : T.drop a0 = skipF f.toNat T := by
        rw [← hst.out.1]
        by_cases h : g < f
        · have : T.drop a0 = [] := List.drop_eq_nil_of_le (by omega)
          rw [this, skip_nil]
        · rw [show (f - g).toNat = 0 by omega]; rfl
      have hX : s.extract a0 s.size = bs (skipF f.toNat T) := by
        rw [← hrest, extract_bs, HTE.out, List.take_of_length_le (by rw [List.length_drop]; omega)]
      obtain ⟨X, hXe⟩ : ∃ X, s.extract a0 s.size = X := ⟨_, rfl⟩
      have hE : bs (leftL f b T) = X.extract (max 0 (min b (X.size : Int))).toNat X.size := by
        unfold leftL
        rw [← hXe, hX, extract_bs, bs_toList, bs_size, List.take_of_length_le (by rw [List.length_drop]; exact Nat.le_refl _)]
      have HE := Lib.hid hE
      have hcond : ¬ (g < f ∧ (a0 : Int) < (s.size : Int)) := by omega
      clear hE hX hrest
      by_cases hg1 : g < f
      · have ha1 : ¬ (a0 : Int) < (s.size : Int) := by omega
        go_wp2
        go_ret
        exact ⟨by rw [HE.out]; rfl, hst.out.2⟩
      · go_wp2
        go_ret
        exact ⟨by rw [HE.out]; rfl, hst.out.2⟩
end Go.Proofs.YtaekgfmcelckoaaDoor.H

end
section
/- sorts.Runs$1: is the same left of two lines? -/
set_option linter.unusedVariables false
set_option linter.unusedSimpArgs false
namespace Go.Proofs.YtaekgfmcelckoaaDoor.H
open Go.RowKit Go.Shelf Go.Proofs Go.Proofs.YtaekgfmcelckoaaDoor.S Go.Proofs.YtaekgfmcelckoaaDoorW.PrintWords

structure Two (w : World) (f b : Int) (Bf Bb : Nat) (W : World) : Prop where
  low : Below w.heap.size w W
  f : W.cell? ⟨Bf, 0, none⟩ = some (.int .i64 f)
  b : W.cell? ⟨Bb, 0, none⟩ = some (.int .i64 b)
theorem Two.on {w : World} {f b : Int} {Bf Bb : Nat} {W W' : World} (h : Two w f b Bf Bb W) (lf : Bf < w.heap.size) (lb : Bb < w.heap.size) (hb : Below W.heap.size W W') : Two w f b Bf Bb W' :=
  ⟨bth h.low hb, (hb.cell (p := ⟨Bf, 0, none⟩) (by have := h.low.size; show Bf < _; omega)).trans h.f, (hb.cell (p := ⟨Bb, 0, none⟩) (by have := h.low.size; show Bb < _; omega)).trans h.b⟩
theorem Two.all {w : World} {f b : Int} {Bf Bb : Nat} {W : World} (h : Two w f b Bf Bb W) : Two w f b Bf Bb W ∧ (W.cell? ⟨Bf, 0, none⟩ = some (.int .i64 f) ∧ W.cell? ⟨Bb, 0, none⟩ = some (.int .i64 b)) := ⟨h, h.f, h.b⟩
set_option maxHeartbeats 1000000 in
set_option maxRecDepth 100000 in
theorem same_calls (x y : ByteArray) (f b : Int) (hx : x.size ≤ 100000000) (hy : y.size ≤ 100000000) (hf : -9223372036854775808 ≤ f ∧ f ≤ 9223372036854775807) (Bf Bb : Nat) (w : World)
    (cf : w.cell? ⟨Bf, 0, none⟩ = some (.int .i64 f)) (cb : w.cell? ⟨Bb, 0, none⟩ = some (.int .i64 b)) (lf : Bf < w.heap.size) (lb : Bb < w.heap.size) :
    Calls Tryd.prog 26 #[.string x, .string y, .pointer (some ⟨Bf, 0, none⟩), .pointer (some ⟨Bb, 0, none⟩)] w fun e w' => e = .returned (.bool ((bs (leftL f b x.data.toList)).toList == (bs (leftL f b y.data.toList)).toList)) ∧ Below w.heap.size w w' := by
  go_enter Tryd.func26, Tryd.ntmps26
  go_wp2_with fail
  have HH : Hid (Two w f b Bf Bb w) := Lib.hid ⟨Below.refl _ _, cf, cb⟩
  have LL := Lib.hid (And.intro lf lb)
  have Lx := Lib.hid (fun W => left_calls x f b hx hf W)
  have Ly := Lib.hid (fun W => left_calls y f b hy hf W)
  clear lf lb
  go_region_held3 (fun w' => Two w f b Bf Bb w' ∧ (w'.cell? ⟨Bf, 0, none⟩ = some (.int .i64 f) ∧ w'.cell? ⟨Bb, 0, none⟩ = some (.int .i64 b))) (with_reducible first | assumption | exact Two.all (Two.on (show Two w f b Bf Bb _ ∧ _ from by assumption).1 LL.out.1 LL.out.2 hbq) | exact Two.all ((HH.out.on LL.out.1 LL.out.2 (bdr (Below.refl _ _))).on LL.out.1 LL.out.2 hbq) | exact Two.all (HH.out.on LL.out.1 LL.out.2 hbq) | exact Two.all (HH.out.on LL.out.1 LL.out.2 (bdr (Below.refl _ _))) | exact Two.all HH.out) ((first
    | (go_at_call 27; with_reducible refine (Lx.out _).mono ?_; rintro e w' ⟨rfl, hbq⟩)
    | (go_at_call 27; with_reducible refine (Ly.out _).mono ?_; rintro e w' ⟨rfl, hbq⟩)))
  all_goals go_wp2
  all_goals go_ret
  all_goals exact ⟨rfl, (show Two w f b Bf Bb _ ∧ _ from by assumption).1.low⟩
end Go.Proofs.YtaekgfmcelckoaaDoor.H

end
section
/- sorts.Runs, and the reference's: lines that are alike, one behind the other. -/
set_option linter.unusedVariables false
set_option linter.unusedSimpArgs false
namespace Go.Proofs.YtaekgfmcelckoaaDoor.H
open Go.RowKit Go.Shelf Go.Proofs Go.Proofs.YtaekgfmcelckoaaDoor.S Go.Proofs.YtaekgfmcelckoaaDoorW.PrintWords

/-- A run. -/
abbrev RN := ByteArray × Nat
def bumpR : List RN → List RN
  | [] => []
  | [x] => [(x.1, x.2 + 1)]
  | x :: y :: l => x :: bumpR (y :: l)
theorem bump_snoc (x : RN) : ∀ R : List RN, bumpR (R ++ [x]) = R ++ [(x.1, x.2 + 1)]
  | [] => rfl
  | [y] => rfl
  | y :: z :: l => by
    have := bump_snoc x (z :: l)
    show y :: bumpR (z :: l ++ [x]) = _
    rw [this]; rfl
theorem bump_len (R : List RN) : (bumpR R).length = R.length := by
  rcases List.eq_nil_or_concat R with rfl | ⟨L, x, rfl⟩
  · rfl
  · rw [List.concat_eq_append, bump_snoc]; simp
def sameP (f b : Int) (x y : ByteArray) : Bool := (bs (leftL f b x.data.toList)).toList == (bs (leftL f b y.data.toList)).toList
/-- The runs of the first k lines. -/
def runsN (f b : Int) (l : List ByteArray) : Nat → List RN
  | 0 => []
  | k + 1 => if 0 < k ∧ sameP f b (l.getD (k - 1) ⟨#[]⟩) (l.getD k ⟨#[]⟩) = true then bumpR (runsN f b l k) else runsN f b l k ++ [(l.getD k ⟨#[]⟩, 1)]
theorem runsN_len (f b : Int) (l : List ByteArray) : ∀ k, (runsN f b l k).length ≤ k
  | 0 => Nat.le_refl _
  | k + 1 => by
    have := runsN_len f b l k
    simp only [runsN]
    split
    · rw [bump_len]; omega
    · rw [List.length_append, List.length_singleton]; omega
theorem runsN_ne (f b : Int) (l : List ByteArray) : ∀ k, 0 < k → runsN f b l k ≠ []
  | k + 1, _ => by
    simp only [runsN]
    split
    · rename_i h
      have h1 := runsN_ne f b l k h.1
      intro e
      have h2 := bump_len (runsN f b l k)
      rw [e] at h2
      exact h1 (List.eq_nil_of_length_eq_zero h2.symm)
    · simp
theorem runsN_num (f b : Int) (l : List ByteArray) : ∀ k, ∀ r ∈ runsN f b l k, 1 ≤ r.2 ∧ r.2 ≤ k
  | 0, r, h => by cases h
  | k + 1, r, h => by
    simp only [runsN] at h
    split at h
    · rcases List.eq_nil_or_concat (runsN f b l k) with e | ⟨L, x, e⟩
      · rw [e] at h; cases h
      · rw [List.concat_eq_append] at e
        have hm := runsN_num f b l k
        rw [e] at h hm
        rw [bump_snoc] at h
        rcases List.mem_append.1 h with h | h
        · have := hm r (List.mem_append_left _ h); omega
        · rw [List.mem_singleton.1 h]
          have := hm x (by simp)
          exact ⟨by show 1 ≤ x.2 + 1; omega, by show x.2 + 1 ≤ k + 1; omega⟩
    · rcases List.mem_append.1 h with h | h
      · have := runsN_num f b l k r h; omega
      · rw [List.mem_singleton.1 h]; exact ⟨Nat.le_refl _, by show 1 ≤ k + 1; omega⟩
/-- The cells of runs. -/
def flatR (l : List RN) : List Value := l.flatMap fun r => [.string r.1, .int .i64 (r.2 : Int)]
theorem flatR_len (L : List RN) : (flatR L).length = L.length * 2 := by
  induction L with
  | nil => rfl
  | cons x L ih => simp only [flatR, List.flatMap_cons, List.length_append, List.length_cons, List.length_nil] at ih ⊢; omega
theorem flatR_app (L M : List RN) : flatR (L ++ M) = flatR L ++ flatR M := List.flatMap_append
theorem flatR_get (L : List RN) : ∀ (i : Nat) (hi : i < L.length), (flatR L)[i * 2]? = some (.string L[i].1) ∧ (flatR L)[i * 2 + 1]? = some (.int .i64 (L[i].2 : Int)) := flatN_get L
theorem flatR_bump (R : List RN) (x : RN) : (flatR (R ++ [x])).set (R.length * 2 + 1) (.int .i64 ((x.2 : Int) + 1)) = flatR (R ++ [(x.1, x.2 + 1)]) := by
  rw [flatR_app, flatR_app, List.set_append_right _ _ (by rw [flatR_len]; omega), flatR_len]
  congr 1
  rw [show R.length * 2 + 1 - R.length * 2 = 1 by omega]
  rfl
theorem infoRun : (Tryd.prog.info? 32).map (fun i => (i.zero, i.size, i.bytes)) = some (some (.agg #[.string ⟨#[]⟩, .int .i64 0]), 2, 24) := by kernel_rfl
section
variable {ops : Array Oper} {rest : List Oper} {o : Oper} {a : Act} {Q : Exit → Act → World → Prop}
theorem app_Run (w : World) (base : Nat) (hgd : o.guard = none) (s x : Operand) (ho : o.op = .call { callee := .builtin .append, args := #[s, x], argTypes := #[26, 26] })
    (v : Value) (L L2 : List RN) (c : ByteArray) (hL2 : L ++ [(c, 1)] = L2) (hs : a.eval s = v) (hx : a.eval x = .slice (some ⟨w.heap.size, 0, none⟩) 1 1) (HO : w.ownsRow base 32 2 v L.length (flatR L)) (hbase : base ≤ w.heap.size) (hl : L.length + 1 ≤ 1000000000000)
    (h : ∀ v1 w1, w1.ownsRow base 32 2 v1 L2.length (flatR L2) → w.grownBy w1 v.ownBlock → wpList Tryd.prog ops Q rest (a.put o.dst v1) w1) :
    wpList Tryd.prog ops Q (o :: rest) a (w.alloc (.cells #[.string c, .int .i64 1] 32)) := by
  subst hL2
  obtain ⟨i0, hi, hz0, hz1, hz2⟩ := info_parts infoRun
  refine wpList_append_own _ hgd s x 26 ho base 32 i0 (.agg #[.string ⟨#[]⟩, .int .i64 0]) 2 24 Tryd.underlying26 hi hz0 hz1 hz2 rfl (by decide) v L.length (flatR L) hs (World.ownsRow.alloc HO _) ⟨w.heap.size, 0, none⟩ 1 1 [.string c, .int .i64 1] hx rfl ?c1 ?c2 ?c3 ?c4 ?c5 ?_
  case c1 =>
    intro j u hj
    match j, hj with
    | 0, hj => simp at hj; subst hj; simp [Addr.add]
    | 1, hj => simp at hj; subst hj; simp [Addr.add]
  case c2 => intro u hu; simp at hu; rcases hu with rfl | rfl <;> rfl
  case c3 => unfold maxLen; omega
  case c4 => omega
  case c5 => simp; omega
  intro v1 w1 hown hg _
  refine h v1 w1 ?_ ⟨hg.os, hg.tape, hg.output, by have := hg.size; simp at this; omega, fun k hk hr => (hg.block k (by simp; omega) hr).trans (Lib.alloc_old w _ k hk)⟩
  rw [flatR_app, List.length_append, List.length_singleton]
  exact hown
end
set_option maxHeartbeats 4000000 in
set_option maxRecDepth 100000 in
theorem runs_calls (A : Option Addr) (c : Nat) (l : List ByteArray) (f b : Int) (hf : -9223372036854775808 ≤ f ∧ f ≤ 9223372036854775807) (w : World) (hr : Kd.C Kd.string w A l.length l) (hc : l.length ≤ c) (hl : l.length ≤ 2000000) (hs : ∀ s ∈ l, s.size ≤ 100000000) :
    Calls Tryd.prog 13 #[.slice A l.length c, .int .i64 f, .int .i64 b] w fun e w' => ∃ v, e = .returned v ∧ w'.ownsRow w.heap.size 32 2 v (runsN f b l l.length).length (flatR (runsN f b l l.length)) ∧ Below w.heap.size w w' := by
  have HR := Lib.hid hr
  have HS := Lib.hid hs
  obtain ⟨B, hB⟩ : ∃ B, w.heap.size = B := ⟨_, rfl⟩
  obtain ⟨W0, hW0⟩ : ∃ W0, (w.alloc (.cells #[.int .i64 f] 3)).alloc (.cells #[.int .i64 b] 3) = W0 := ⟨_, rfl⟩
  have b0 : Below w.heap.size w W0 := by rw [← hW0]; exact bal (bal (Below.refl _ _) _) _
  have z0 : W0.heap.size = B + 2 := by rw [← hW0, ← hB]; simp
  have p0 : W0.cell? ⟨B, 0, none⟩ = some (.int .i64 f) := by
    rw [← hW0, ← hB]
    exact pw_cell_below (bal (Below.refl _ _) _) (by rw [Lib.cell_of_heap (heap_alloc_new w _)]; rfl)
  have p1 : W0.cell? ⟨B + 1, 0, none⟩ = some (.int .i64 b) := by
    have := heap_alloc_new (w.alloc (.cells #[.int .i64 f] 3)) (.cells #[.int .i64 b] 3)
    rw [World.size_alloc] at this
    rw [← hW0, ← hB, Lib.cell_of_heap this]; rfl
  have HW := Lib.hid hW0
  have B0 := Lib.hid (And.intro b0 (And.intro z0 (And.intro p0 p1)))
  clear hr hs hW0 b0 z0 p0 p1
  go_enter Tryd.func13, Tryd.ntmps13
  go_wp2
  try simp only [hB]
  rw [HW.out]
  clear hB
  go_loopw [6, 13] (fun v i wr => ∃ k : Nat, k ≤ l.length ∧ i = .int .i64 (k : Int) ∧ Hid (wr.ownsRow W0.heap.size 32 2 v (runsN f b l k).length (flatR (runsN f b l k)) ∧ Below W0.heap.size W0 wr)) (fun _ i _ => l.length - (intOf i).toNat)
  case atStart => exact ⟨0, Nat.zero_le _, rfl, Lib.hid ⟨World.ownsRow_nil _ _ _ _, Below.refl _ _⟩⟩
  case round =>
    obtain ⟨k, hk, rfl, hst⟩ := hrel
    by_cases hlt : k < l.length
    · have hstep : runsN f b l (k + 1) = if 0 < k ∧ sameP f b (l.getD (k - 1) ⟨#[]⟩) (l.getD k ⟨#[]⟩) = true then bumpR (runsN f b l k) else runsN f b l k ++ [(l.getD k ⟨#[]⟩, 1)] := rfl
      have hlow := bth B0.out.1 hst.out.2
      obtain ⟨ad, rfl, hx⟩ := C_at HR.out hlow k hlt
      have hgk : l.getD k ⟨#[]⟩ = l[k] := by rw [List.getD_eq_getElem?_getD, List.getElem?_eq_getElem hlt]; rfl
      have hxs := HS.out l[k] (List.getElem_mem hlt)
      rw [hgk] at hstep
      obtain ⟨x, hxe⟩ : ∃ x, l[k] = x := ⟨_, rfl⟩
      rw [hxe] at hx hstep hxs
      have hRl := runsN_len f b l k
      have hRne := runsN_ne f b l k
      have hRnum := runsN_num f b l k
      obtain ⟨R, hR⟩ : ∃ R, runsN f b l k = R := ⟨_, rfl⟩
      rw [hR] at hstep hst hRl hRne hRnum
      have HST := Lib.hid hst.out
      have hln := Lib.hid (show R.length + 1 ≤ 1000000000000 by omega)
      clear hst hgk hxe hR
      rcases Nat.eq_zero_or_pos k with rfl | hk0
      · rw [if_neg (by omega)] at hstep
        have HN := Lib.hid hstep
        have hx0 : wr.cell? ad = some (.string x) := by
          have e : ad.add 0 = ad := by unfold Addr.add; rw [if_pos rfl]
          rw [e] at hx; exact hx
        clear hstep hRne hRnum hRl hlow
        go_wp2_with (at_builtin; go_loud (refine app_Run wr W0.heap.size rfl (.tmp 40) (.tmp 43) rfl u6 R (runsN f b l (0 + 1)) x HN.out.symm rfl rfl HST.out.1 HST.out.2.size hln.out ?_))
        intro v1 w5 h5 g5
        have D5 := Lib.hid (And.intro h5 (HST.out.2.grown g5 HST.out.2.size (fun b hb => own_base HST.out.1 b hb)))
        clear h5 g5
        go_wp2
        go_roundw
        case rel => exact ⟨0 + 1, hlt, by go_num, D5⟩
        case measure => simp [intOf]; omega
      · obtain ⟨q, hq⟩ : ∃ q, k = q + 1 := ⟨k - 1, by omega⟩
        have hql : q < l.length := by omega
        obtain ⟨ad', hae, hy⟩ := C_at HR.out hlow q hql
        obtain rfl := Option.some.inj hae
        have hgq : l.getD (k - 1) ⟨#[]⟩ = l[q] := by rw [show k - 1 = q by omega, List.getD_eq_getElem?_getD, List.getElem?_eq_getElem hql]; rfl
        have hys := HS.out l[q] (List.getElem_mem hql)
        rw [hgq] at hstep
        obtain ⟨y, hye⟩ : ∃ y, l[q] = y := ⟨_, rfl⟩
        rw [hye] at hy hstep hys
        have cf := pw_cell_below HST.out.2 B0.out.2.2.1
        have cb := pw_cell_below HST.out.2 B0.out.2.2.2
        have hsz := HST.out.2.size
        rw [B0.out.2.1] at hsz
        obtain ⟨d, hd⟩ : ∃ d, sameP f b y x = d := ⟨_, rfl⟩
        have HSA := Lib.hid (show Calls Tryd.prog 26 #[.string y, .string x, .pointer (some ⟨B, 0, none⟩), .pointer (some ⟨B + 1, 0, none⟩)] wr fun e w' => e = .returned (.bool d) ∧ Below wr.heap.size wr w' from by
          have h := same_calls y x f b hys hxs hf B (B + 1) wr cf cb (by omega) (by omega)
          rw [← hd]; exact h)
        rw [hd] at hstep
        have q1 : ((k : Int) - 1) = (q : Int) := by omega
        have q2 : IntKind.i64.wrap ((k : Int) - 1) = (q : Int) := by rw [q1]; exact IntWalk.i64_in _ (by omega)
        have q3 : (q : Int) < (l.length : Int) := by omega
        have q5 : (0 : Int) ≤ (q : Int) := Int.natCast_nonneg _
        have q6 : IntKind.i64.wrap (q : Int) = (q : Int) := IntWalk.i64_in _ (by omega)
        have hqc : q < c := by omega
        have HRN := Lib.hid (And.intro (hRne hk0) hRnum)
        clear hq hgq hye cf cb hsz hd hlow hRne hRnum hys hxs
        go_wp2_with fail
        with_reducible refine HSA.out.mono ?_
        rintro e w2 ⟨rfl, hb2⟩
        have H2 := Lib.hid (And.intro (pw_own_below HST.out.1 hb2) (bth HST.out.2 hb2))
        clear hb2
        cases d
        · rw [if_neg (by simp)] at hstep
          have HN := Lib.hid hstep
          clear hstep
          go_wp2_with (at_builtin; go_loud (refine app_Run w2 W0.heap.size rfl (.tmp 40) (.tmp 43) rfl u6 R (runsN f b l (k + 1)) x HN.out.symm rfl rfl H2.out.1 H2.out.2.size hln.out ?_))
          intro v1 w5 h5 g5
          have D5 := Lib.hid (And.intro h5 (H2.out.2.grown g5 H2.out.2.size (fun b hb => own_base H2.out.1 b hb)))
          clear h5 g5
          go_wp2
          go_roundw
          case rel => exact ⟨k + 1, hlt, by go_num, D5⟩
          case measure => simp [intOf]; omega
        · rw [if_pos ⟨hk0, rfl⟩] at hstep
          rcases List.eq_nil_or_concat R with e | ⟨R0, z, e⟩
          · exact absurd e HRN.out.1
          · rw [List.concat_eq_append] at e
            have hz := (HRN.out.2 z (by rw [e]; simp)).2
            rw [e, bump_snoc] at hstep
            have HN := Lib.hid hstep
            have ho2 := H2.out.1
            rw [e] at ho2 hRl
            rw [List.length_append, List.length_singleton] at hRl
            obtain ⟨g, cap, hu, hgb, hgl, hgc, hgm⟩ := own_formN ho2 (by simp)
            rw [List.length_append, List.length_singleton] at hu hgc
            obtain ⟨N, hN⟩ : ∃ N, R0.length = N := ⟨_, rfl⟩
            rw [hN] at hu hgc hRl
            have ho3 : w2.ownsRow W0.heap.size 32 2 (.slice (some ⟨g, 0, none⟩) (N + 1) cap) (N + 1) (flatR (R0 ++ [z])) := by
              rw [List.length_append, List.length_singleton, hN, hu] at ho2; exact ho2
            have hc3 : w2.cell? ⟨g, N * 2 + 1, none⟩ = some (.int .i64 (z.2 : Int)) := by
              have h := (flatR_get (R0 ++ [z]) N (by simp; omega)).2
              have h2 := ho3.cells (g := g) rfl (N * 2 + 1) _ h
              rw [add_plain] at h2
              simpa [← hN] using h2
            have hf3 := ho3.frozenAt (N * 2 + 1)
            have hset := own_setj ho3 (N * 2 + 1) (by rw [flatR_len]; simp; omega) (.int .i64 ((z.2 : Int) + 1))
            rw [← hN, flatR_bump R0 z, hN] at hset
            have HSET := Lib.hid hset
            have HB2 := Lib.hid (And.intro H2.out.2 hgb)
            have n1 : ((N : Int) + 1 - 1) = (N : Int) := by omega
            have hzk : z.2 ≤ 2000000 := by omega
            have HLN := Lib.hid (show (R0 ++ [(z.1, z.2 + 1)]).length = N + 1 by rw [List.length_append, List.length_singleton, hN])
            subst hu
            clear hstep ho2 ho3 hset e hN
            go_wp2
            go_roundw
            case rel => exact ⟨k + 1, hlt, by go_num, Lib.hid ⟨by rw [HN.out, HLN.out]; exact HSET.out, HB2.out.1.setCell (p := ⟨g, _, none⟩) HB2.out.2 _⟩⟩
            case measure => simp [intOf]; omega
    · obtain rfl : k = l.length := by omega
      have HE := Lib.hid (And.intro (own_weaken hst.out.1 (show w.heap.size ≤ W0.heap.size from B0.out.1.size)) (bth B0.out.1 hst.out.2))
      clear hst
      go_wp2
      go_ret
      exact ⟨_, rfl, HE.out⟩
end Go.Proofs.YtaekgfmcelckoaaDoor.H

end

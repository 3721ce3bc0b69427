/- Lists of places: a copy of the call's own, and whether a place is in a list. -/
import Derived.Test.YtkedjlekeohpaaaDoorQx0
import Derived.Test.YtkedjlekeohpaaaDoorHelp
import Derived.WalkLawsBesides
import Derived.WalkSpells
import Derived.Deep.QuietTactic
import Derived.BigQuiet
import Derived.Outline
import Derived.RangeFuncBox
set_option linter.unusedVariables false
set_option linter.unusedSimpArgs false
namespace Go.Proofs.YtkedjlekeohpaaaDoor.H
open Go.RowKit Go.Proofs.YtkedjlekeohpaaaDoorW.PrintWords Go.Proofs.YtkedjlekeohpaaaDoor.Q

abbrev RS := S34
def RS.cells (x : RS) : List Value := [.int .i64 x.f0, .int .i64 x.f1]
def rgs (l : List RS) : List Value := l.flatMap RS.cells
theorem rgs_len (l : List RS) : (rgs l).length = l.length * 2 := by
  induction l with
  | nil => rfl
  | cons h L ih => simp only [rgs, List.flatMap_cons, List.length_append, RS.cells, List.length_cons, List.length_nil] at ih ⊢; omega
theorem rgs_app (l m : List RS) : rgs (l ++ m) = rgs l ++ rgs m := List.flatMap_append
theorem rgs_get (L : List RS) : ∀ (i : Nat) (hi : i < L.length), (rgs L)[i * 2]? = some (.int .i64 L[i].f0) ∧ (rgs L)[i * 2 + 1]? = some (.int .i64 L[i].f1) := by
  induction L with
  | nil => intro i hi; simp at hi
  | cons h L ih =>
    intro i hi
    match i, hi with
    | 0, _ => exact ⟨rfl, rfl⟩
    | i + 1, hi =>
      obtain ⟨a, b⟩ := ih i (by simpa using hi)
      have e : rgs (h :: L) = .int .i64 h.f0 :: .int .i64 h.f1 :: rgs L := rfl
      rw [e]
      refine ⟨?_, ?_⟩
      · rw [show (i + 1) * 2 = i * 2 + 1 + 1 by omega]; exact a
      · rw [show (i + 1) * 2 + 1 = i * 2 + 1 + 1 + 1 by omega]; exact b
theorem rgs_take (l : List RS) (k : Nat) (h : k < l.length) : rgs (l.take (k + 1)) = rgs (l.take k) ++ [.int .i64 l[k].f0, .int .i64 l[k].f1] := by
  rw [List.take_succ_eq_append_getElem h, rgs_app]; rfl
theorem infoR : (Tryd.prog.info? 34).map (fun i => (i.zero, i.size, i.bytes)) = some (some (.agg #[.int .i64 0, .int .i64 0]), 2, 16) := by kernel_rfl
/-- An element of a list that is read, in any later world. -/
theorem Cr_at {w w1 : World} {A : Option Addr} {l : List RS} (h : Kd.C k34 w A l.length l) (hb : Below w.heap.size w w1) (k : Nat) (hk : k < l.length) :
    ∃ ad, A = some ad ∧ w1.cell? (ad.add (k * 2)) = some (.int .i64 l[k].f0) ∧ w1.cell? ⟨(ad.add (k * 2)).block, (ad.add (k * 2)).off + 1, none⟩ = some (.int .i64 l[k].f1) := by
  obtain ⟨ad, e, h1, h2⟩ := at_T34 h (k : Int) (by omega) (by omega)
  have e2 : rd_T34 l (k : Int) = l[k] := by unfold rd_T34; rw [List.getD_eq_getElem?_getD, Int.toNat_natCast, List.getElem?_eq_getElem hk]; rfl
  rw [e2] at h1 h2
  rw [Int.toNat_natCast] at h1 h2
  exact ⟨ad, e, pw_cell_below hb h1, pw_cell_below hb h2⟩
/-- What has been made is read as any list of places. -/
theorem Cr_own {W : World} {base g cap n : Nat} {l : List RS} (h : W.ownsRow base 34 2 (.slice (some ⟨g, 0, none⟩) n cap) n (rgs l)) (m : Nat) (hm : m ≤ l.length) : Kd.C k34 W (some ⟨g, 0, none⟩) m (l.take m) := by
  have hn : n = l.length := by have := h.1; rw [rgs_len] at this; omega
  subst hn
  have hx := (twin_cap h).1
  have hx2 := (twin_cap h).2
  unfold maxLen at hx2
  refine ⟨by rw [List.length_take]; omega, by omega, fun h0 => ⟨_, rfl, fun j p hj => ⟨[.int .i64 p.f0, .int .i64 p.f1], rfl, k34_mk _ _, fun i u hu => ?_⟩⟩⟩
  obtain ⟨hlt, hp⟩ := List.getElem?_eq_some_iff.1 hj
  rw [List.length_take] at hlt
  rw [List.getElem_take] at hp
  obtain ⟨a, b⟩ := rgs_get l j (by omega)
  rw [add_plain]
  match i, hu with
  | 0, hu =>
    simp at hu
    subst hu
    exact (h.cellAt (j * 2) (by omega)).trans (by rw [a, hp])
  | 1, hu =>
    simp at hu
    subst hu
    exact (h.cellAt (j * 2 + 1) (by omega)).trans (by rw [b, hp])
  | i + 2, hu => simp at hu
def spareR : RS := ⟨77, 0⟩
set_option maxHeartbeats 1000000 in
set_option maxRecDepth 100000 in
theorem twinRanges (A : Option Addr) (c : Nat) (l : List RS) (w : World) (hr : Kd.C k34 w A l.length l) (hc : l.length ≤ c) (hl : (l.length + 1) * 16 ≤ 140737488355328) :
    Calls Tryd.prog 11 #[.slice A l.length c] w fun e w' => ∃ g cap, e = .returned (.slice (some ⟨g, 0, none⟩) l.length cap) ∧
      w'.ownsRow w.heap.size 34 2 (.slice (some ⟨g, 0, none⟩) (l.length + 1) cap) (l.length + 1) (rgs (l ++ [spareR])) ∧ Below w.heap.size w w' := by
  obtain ⟨i0, hi, hz0, hz1, hz2⟩ := info_parts infoR
  have hr' := Lib.hid hr
  clear hr
  have hl63 : l.length ≤ 9223372036854775807 := by omega
  go_enter Tryd.func11, Tryd.ntmps11
  go_wp2_with (first | (at_make; refine wpList_make_own _ rfl _ _ 24 rfl w.heap.size 34 i0 _ 2 Tryd.underlying24 hi hz0 hz1 .i64 .i64 _ (l.length + 1) rfl rfl ?h1 ?h2 ?h3 ?h4 ?_))
  case h1 => simp
  case h2 => rw [hz2]; omega
  case h3 => unfold maxLen; omega
  case h4 => exact Nat.le_refl _
  intro w1 hown1 hg1
  have hB1 := Lib.hid ((Below.refl w.heap.size w).grown hg1 (Nat.le_refl _) (fun k hk => by cases hk))
  have hown1' := Lib.hid hown1
  clear hown1 hg1
  go_wp2
  go_loopw [3, 4] (fun v i wr => ∃ k : Nat, k ≤ l.length ∧ i = .int .i64 k ∧ v = .slice (some ⟨w.heap.size, 0, none⟩) k (l.length + 1) ∧ Hid (wr.ownsRow w.heap.size 34 2 (.slice (some ⟨w.heap.size, 0, none⟩) k (l.length + 1)) k (rgs (l.take k))) ∧ Hid (Below w.heap.size w wr)) (fun _ i _ => l.length - (intOf i).toNat)
  case atStart => exact ⟨0, Nat.zero_le _, rfl, rfl, by simpa [rgs] using hown1', hB1⟩
  case round =>
    obtain ⟨k, hk, rfl, rfl, ho, hb⟩ := hrel
    by_cases hlt : k < l.length
    · obtain ⟨ad, hA, hcell, hcell2⟩ := Cr_at hr'.out hb.out k hlt
      subst hA
      go_wp2_with (at_builtin; refine wpList_append_fits _ rfl _ _ 24 rfl w.heap.size 34 i0 2 Tryd.underlying24 hi hz1 w.heap.size k (l.length + 1) _ rfl (ho.out.alloc _) ⟨wr.heap.size, 0, none⟩ 1 1 [.int .i64 l[k].f0, .int .i64 l[k].f1] rfl rfl (World.news_of_block (heap_alloc_new wr _)) ?c2 ?c3 ?_)
      case c2 => intro u hu; simp at hu; rcases hu with rfl | rfl <;> rfl
      case c3 => omega
      intro w2 ho2 hg2
      have ho2' := Lib.hid ho2
      have hb2 := Lib.hid (((bal hb.out (.cells #[.int .i64 l[k].f0, .int .i64 l[k].f1] 34)).grown hg2 (by simp; have := hb.out.size; omega) (fun j hj => by cases hj; exact Nat.le_refl _)))
      clear ho2 hg2 ho hb
      go_wp2
      go_roundw
      case rel => exact ⟨k + 1, by omega, by go_num, rfl, Lib.hid (by rw [rgs_take l k hlt]; exact ho2'.out), hb2⟩
      case measure => simp [intOf]; omega
    · obtain rfl : k = l.length := by omega
      go_wp2_with (at_builtin; refine wpList_append_fits _ rfl _ _ 24 rfl w.heap.size 34 i0 2 Tryd.underlying24 hi hz1 w.heap.size l.length (l.length + 1) _ rfl (ho.out.alloc _) ⟨wr.heap.size, 0, none⟩ 1 1 [.int .i64 77, .int .i64 0] rfl rfl (World.news_of_block (heap_alloc_new wr _)) ?c2 ?c3 ?_)
      case c2 => intro u hu; simp at hu; rcases hu with rfl | rfl <;> rfl
      case c3 => omega
      intro w2 ho2 hg2
      have ho2' := Lib.hid ho2
      have hb2 := Lib.hid (((bal hb.out (.cells #[.int .i64 77, .int .i64 0] 34)).grown hg2 (by simp; have := hb.out.size; omega) (fun j hj => by cases hj; exact Nat.le_refl _)))
      clear ho2 hg2 ho hb
      go_wp2
      go_ret
      exact ⟨_, _, rfl, by have := ho2'.out; rw [rgs_app]; exact this, hb2.out⟩
set_option maxHeartbeats 1000000 in
set_option maxRecDepth 100000 in
theorem leftRanges (g cap base : Nat) (A : Option Addr) (c : Nat) (l : List RS) (w : World) (hr : Kd.C k34 w A l.length l) (hc : l.length ≤ c)
    (ho : w.ownsRow base 34 2 (.slice (some ⟨g, 0, none⟩) (l.length + 1) cap) (l.length + 1) (rgs (l ++ [spareR]))) :
    Calls Tryd.prog 14 #[.slice (some ⟨g, 0, none⟩) l.length cap, .slice A l.length c] w fun e w' => e = .returned (.bool true) ∧ Below w.heap.size w w' := by
  have hr' := Lib.hid hr
  have ho' := Lib.hid ho
  have hcap : l.length < cap := by have := (twin_cap ho).1; omega
  have hmx : cap ≤ 9223372036854775807 := by have := (twin_cap ho).2; unfold maxLen at this; omega
  have hl63 : l.length ≤ 9223372036854775807 := by omega
  have b1 : (l.length != l.length) = false := by simp
  have b2 : decide (cap ≤ l.length) = false := by simp; omega
  clear hr ho
  go_enter Tryd.func14, Tryd.ntmps14
  go_wp2
  go_loopw [5] (fun i wr => ∃ k : Nat, k ≤ l.length ∧ i = .int .i64 k ∧ Hid (Below w.heap.size w wr)) (fun i _ => l.length - (intOf i).toNat)
  case atStart => exact ⟨0, Nat.zero_le _, rfl, Lib.hid (Below.refl _ _)⟩
  case round =>
    obtain ⟨k, hk, rfl, hb⟩ := hrel
    by_cases hlt : k < l.length
    · obtain ⟨ad, hA, hc1, hc2⟩ := Cr_at hr'.out hb.out k hlt
      subst hA
      obtain ⟨q1, q2⟩ := rgs_get (l ++ [spareR]) k (by simp; omega)
      rw [List.getElem_append_left hlt] at q1 q2
      have hc3 : wr.cell? ⟨g, k * 2, none⟩ = some (.int .i64 l[k].f0) := pw_cell_below hb.out ((ho'.out.cellAt (k * 2) (by omega)).trans q1)
      have hc4 : wr.cell? ⟨g, k * 2 + 1, none⟩ = some (.int .i64 l[k].f1) := pw_cell_below hb.out ((ho'.out.cellAt (k * 2 + 1) (by omega)).trans q2)
      have h5 : k < cap := by omega
      clear q1 q2
      go_wp2
      go_quiet (fail)
      go_wp2
      go_roundw
      case rel => exact ⟨k + 1, by omega, by go_num, Lib.hid (bdn hb.out _)⟩
      case measure => simp [intOf]; omega
    · obtain rfl : k = l.length := by omega
      obtain ⟨q1, q2⟩ := rgs_get (l ++ [spareR]) l.length (by simp)
      have hc3 : wr.cell? ⟨g, l.length * 2, none⟩ = some (.int .i64 77) := pw_cell_below hb.out ((ho'.out.cellAt (l.length * 2) (by omega)).trans (by rw [q1]; simp [spareR]))
      have hc4 : wr.cell? ⟨g, l.length * 2 + 1, none⟩ = some (.int .i64 0) := pw_cell_below hb.out ((ho'.out.cellAt (l.length * 2 + 1) (by omega)).trans (by rw [q2]; simp [spareR]))
      clear q1 q2
      go_wp2
      go_ret
      exact ⟨rfl, bal hb.out _⟩

/-! ### lists.Has -/
/-- Is a place in a range? -/
def inR (r : RS) (n : Int) : Bool := decide (r.f0 ≤ n) && (r.f1 == 0 || decide (n ≤ r.f1))
def hasR (l : List RS) (n : Int) : Bool := l.any fun r => inR r n
set_option maxHeartbeats 1000000 in
set_option maxRecDepth 100000 in
theorem in_calls (r : RS) (n : Int) (w : World) : Calls Tryd.prog 37 #[.agg #[.int .i64 r.f0, .int .i64 r.f1], .int .i64 n] w fun e w' => e = .returned (.bool (inR r n)) ∧ w' = w.alloc (.cells #[.int .i64 r.f0, .int .i64 r.f1] 34) := by
  obtain ⟨a, b⟩ := r
  simp only
  by_cases h1 : a ≤ n
  · by_cases h2 : b = 0
    · subst h2
      have hi := Lib.hid (show inR ⟨a, 0⟩ n = true by simp [inR, h1])
      go_enter Tryd.func37, Tryd.ntmps37
      go_wp2
      go_ret
      exact ⟨by rw [hi.out]; rfl, rfl⟩
    · have hb : (b == 0) = false := by simpa using h2
      have hi := Lib.hid (show inR ⟨a, b⟩ n = decide (n ≤ b) by simp [inR, h1, h2])
      go_enter Tryd.func37, Tryd.ntmps37
      go_wp2
      go_ret
      exact ⟨by rw [hi.out]; rfl, rfl⟩
  · have hd : decide (a ≤ n) = false := by simpa using h1
    have hi := Lib.hid (show inR ⟨a, b⟩ n = false by simp [inR, h1])
    go_enter Tryd.func37, Tryd.ntmps37
    go_wp2
    go_ret
    exact ⟨by rw [hi.out]; rfl, rfl⟩
set_option maxHeartbeats 1000000 in
set_option maxRecDepth 100000 in
theorem has1_calls (r : RS) (n : Int) (Bn : Nat) (w : World) (hc : w.cell? ⟨Bn, 0, none⟩ = some (.int .i64 n)) : Calls Tryd.prog 36 #[.agg #[.int .i64 r.f0, .int .i64 r.f1], .pointer (some ⟨Bn, 0, none⟩)] w fun e w' => e = .returned (.bool (inR r n)) ∧ Below w.heap.size w w' := by
  have hlt : Bn < w.heap.size := World.block_lt_of_cell? w _ hc
  go_enter Tryd.func36, Tryd.ntmps36
  go_wp2_with (go_at_call 37; refine (in_calls r n _).mono ?_; rintro e w' ⟨rfl, rfl⟩)
  go_ret
  exact ⟨rfl, bal (bal (Below.refl _ _) _) _⟩
/-- The first of a list that fits, from place i on. -/
def idxR (n : Int) : List RS → Nat → Int
  | [], _ => -1
  | r :: l, i => if inR r n then (i : Int) else idxR n l (i + 1)
theorem idxR_has (n : Int) : ∀ (l : List RS) (i : Nat), decide (idxR n l i ≥ 0) = hasR l n
  | [], _ => rfl
  | r :: l, i => by
    unfold idxR
    by_cases h : inR r n = true
    · rw [if_pos h]; simp [hasR, h]
    · have h2 : inR r n = false := by simpa using h
      rw [if_neg h, idxR_has n l (i + 1)]
      simp [hasR, h2]
set_option maxHeartbeats 1000000 in
set_option maxRecDepth 100000 in
theorem index_calls (A : Option Addr) (c : Nat) (l : List RS) (n : Int) (Bn : Nat) (w : World) (hr : Kd.C k34 w A l.length l) (hcl : l.length ≤ c) (hc : w.cell? ⟨Bn, 0, none⟩ = some (.int .i64 n)) :
    Calls Tryd.prog 52 #[.slice A l.length c, .func (.func 36) #[] #[.pointer (some ⟨Bn, 0, none⟩)]] w fun e w' => e = .returned (.int .i64 (idxR n l 0)) ∧ Below w.heap.size w w' := by
  have HR := Lib.hid hr
  have HC := Lib.hid hc
  have hl63 : l.length ≤ 9223372036854775807 := hr.2.1
  clear hr hc
  go_enter Tryd.func52, Tryd.ntmps52
  go_wp2
  go_loopw [8] (fun i wr => ∃ k : Nat, k ≤ l.length ∧ i = .int .i64 k ∧ Hid (Below w.heap.size w wr ∧ idxR n l 0 = idxR n (l.drop k) k)) (fun i _ => l.length - (intOf i).toNat)
  case atStart => exact ⟨0, Nat.zero_le _, rfl, Lib.hid ⟨Below.refl _ _, rfl⟩⟩
  case round =>
    obtain ⟨k, hk, rfl, hb⟩ := hrel
    by_cases hlt : k < l.length
    · obtain ⟨ad, hA, hc1, hc2⟩ := Cr_at HR.out hb.out.1 k hlt
      subst hA
      have hcn := Lib.hid (pw_cell_below hb.out.1 HC.out)
      have hdr : l.drop k = l[k] :: l.drop (k + 1) := List.drop_eq_getElem_cons hlt
      cases hin : inR l[k] n with
      | true =>
        have HI := Lib.hid (show idxR n l 0 = (k : Int) by rw [hb.out.2, hdr]; unfold idxR; rw [if_pos hin])
        have hc := fun w h => has1_calls l[k] n Bn w h
        rw [hin] at hc
        have HCC := Lib.hid hc
        clear hin hc hdr
        go_wp2_with (go_at_call 36; refine (HCC.out _ hcn.out).mono ?_; rintro e w' ⟨rfl, hb2⟩)
        go_ret
        exact ⟨by rw [HI.out]; rfl, bth hb.out.1 hb2⟩
      | false =>
        have HI := Lib.hid (show idxR n l 0 = idxR n (l.drop (k + 1)) (k + 1) by rw [hb.out.2, hdr]; conv => lhs; unfold idxR; rw [if_neg (by rw [hin]; decide)])
        have hc := fun w h => has1_calls l[k] n Bn w h
        rw [hin] at hc
        have HCC := Lib.hid hc
        clear hin hc hdr
        go_wp2_with (go_at_call 36; refine (HCC.out _ hcn.out).mono ?_; rintro e w' ⟨rfl, hb2⟩)
        go_roundw
        case rel => exact ⟨k + 1, by omega, by go_num, Lib.hid ⟨bth hb.out.1 hb2, HI.out⟩⟩
        case measure => simp [intOf]; omega
    · obtain rfl : k = l.length := by omega
      have HI := Lib.hid (show idxR n l 0 = -1 by rw [hb.out.2, List.drop_length]; rfl)
      go_wp2
      go_ret
      exact ⟨by rw [HI.out]; rfl, hb.out.1⟩
set_option maxHeartbeats 1000000 in
set_option maxRecDepth 100000 in
theorem contains_calls (A : Option Addr) (c : Nat) (l : List RS) (n : Int) (Bn : Nat) (w : World) (hr : Kd.C k34 w A l.length l) (hcl : l.length ≤ c) (hc : w.cell? ⟨Bn, 0, none⟩ = some (.int .i64 n)) :
    Calls Tryd.prog 35 #[.slice A l.length c, .func (.func 36) #[] #[.pointer (some ⟨Bn, 0, none⟩)]] w fun e w' => e = .returned (.bool (hasR l n)) ∧ Below w.heap.size w w' := by
  have HR := Lib.hid hr
  have HC := Lib.hid hc
  have hx := idxR_has n l 0
  have hi := index_calls A c l n Bn w hr hcl hc
  generalize idxR n l 0 = x at hx hi
  rw [← hx]
  have HI := Lib.hid hi
  clear hr hc hx hi HR HC
  go_enter Tryd.func35, Tryd.ntmps35
  go_wp2_with (go_at_call 52; refine HI.out.mono ?_; rintro e w' ⟨rfl, hb2⟩)
  go_ret
  exact ⟨rfl, hb2⟩
set_option maxHeartbeats 1000000 in
set_option maxRecDepth 100000 in
theorem has_calls (A : Option Addr) (c : Nat) (l : List RS) (n : Int) (w : World) (hr : Kd.C k34 w A l.length l) (hcl : l.length ≤ c) :
    Calls Tryd.prog 18 #[.slice A l.length c, .int .i64 n] w fun e w' => e = .returned (.bool (hasR l n)) ∧ Below w.heap.size w w' := by
  have hr1 := Kd.C_below hr (bal (Below.refl _ _) (.cells #[.int .i64 n] 3))
  have hi := contains_calls A c l n w.heap.size (w.alloc (.cells #[.int .i64 n] 3)) hr1 hcl (Boxed.new w _ _).cell
  have HI := Lib.hid hi
  clear hr hr1 hi
  go_enter Tryd.func18, Tryd.ntmps18
  go_wp2_with (go_at_call 35; refine HI.out.mono ?_; rintro e w' ⟨rfl, hb2⟩)
  go_ret
  exact ⟨rfl, bth (bal (Below.refl _ _) _) hb2⟩
end Go.Proofs.YtkedjlekeohpaaaDoor.H

/- Lists of places: a copy of the call's own, and whether a place is in a list. -/
import Derived.Test.YtkgppbdelggncaaQx0
import Derived.Test.YtkgppbdelggncaaHelp
import Derived.WalkLawsBesides
import Derived.WalkSpells
import Derived.Deep.QuietTactic
import Derived.BigQuiet
import Derived.Outline
import Derived.RangeFuncBox
set_option linter.unusedVariables false
set_option linter.unusedSimpArgs false
namespace Go.Proofs.Ytkgppbdelggncaa.H
open Go.RowKit Go.Proofs.YtkgppbdelggncaaW.PrintWords Go.Proofs.Ytkgppbdelggncaa.Q

abbrev ES := S58
def ES.cells (x : ES) : List Value := [.string x.f0, .int .i64 x.f1]
def ens (l : List ES) : List Value := l.flatMap ES.cells
theorem ens_len (l : List ES) : (ens l).length = l.length * 2 := by
  induction l with
  | nil => rfl
  | cons h L ih => simp only [ens, List.flatMap_cons, List.length_append, ES.cells, List.length_cons, List.length_nil] at ih ⊢; omega
theorem ens_app (l m : List ES) : ens (l ++ m) = ens l ++ ens m := List.flatMap_append
theorem ens_get (L : List ES) : ∀ (i : Nat) (hi : i < L.length), (ens L)[i * 2]? = some (.string L[i].f0) ∧ (ens L)[i * 2 + 1]? = some (.int .i64 L[i].f1) := by
  induction L with
  | nil => intro i hi; simp at hi
  | cons h L ih =>
    intro i hi
    match i, hi with
    | 0, _ => exact ⟨rfl, rfl⟩
    | i + 1, hi =>
      obtain ⟨a, b⟩ := ih i (by simpa using hi)
      have e : ens (h :: L) = .string h.f0 :: .int .i64 h.f1 :: ens L := rfl
      rw [e]
      refine ⟨?_, ?_⟩
      · rw [show (i + 1) * 2 = i * 2 + 1 + 1 by omega]; exact a
      · rw [show (i + 1) * 2 + 1 = i * 2 + 1 + 1 + 1 by omega]; exact b
theorem ens_take (l : List ES) (k : Nat) (h : k < l.length) : ens (l.take (k + 1)) = ens (l.take k) ++ [.string l[k].f0, .int .i64 l[k].f1] := by
  rw [List.take_succ_eq_append_getElem h, ens_app]; rfl
theorem infoE : (Try.prog.info? 58).map (fun i => (i.zero, i.size, i.bytes)) = some (some (.agg #[.string ⟨#[]⟩, .int .i64 0]), 2, 24) := by kernel_rfl
/-- An element of a list that is read, in any later world. -/
theorem Ce_at {w w1 : World} {A : Option Addr} {l : List ES} (h : Kd.C k58 w A l.length l) (hb : Below w.heap.size w w1) (k : Nat) (hk : k < l.length) :
    ∃ ad, A = some ad ∧ w1.cell? (ad.add (k * 2)) = some (.string l[k].f0) ∧ w1.cell? ⟨(ad.add (k * 2)).block, (ad.add (k * 2)).off + 1, none⟩ = some (.int .i64 l[k].f1) := by
  obtain ⟨ad, e, h1, h2⟩ := at_T58 h (k : Int) (by omega) (by omega)
  have e2 : rd_T58 l (k : Int) = l[k] := by unfold rd_T58; rw [List.getD_eq_getElem?_getD, Int.toNat_natCast, List.getElem?_eq_getElem hk]; rfl
  rw [e2] at h1 h2
  rw [Int.toNat_natCast] at h1 h2
  exact ⟨ad, e, pw_cell_below hb h1, pw_cell_below hb h2⟩
/-- What has been made is read as any list of places. -/
theorem Ce_own {W : World} {base g cap n : Nat} {l : List ES} (h : W.ownsRow base 58 2 (.slice (some ⟨g, 0, none⟩) n cap) n (ens l)) (m : Nat) (hm : m ≤ l.length) : Kd.C k58 W (some ⟨g, 0, none⟩) m (l.take m) := by
  have hn : n = l.length := by have := h.1; rw [ens_len] at this; omega
  subst hn
  have hx := (twin_cap h).1
  have hx2 := (twin_cap h).2
  unfold maxLen at hx2
  refine ⟨by rw [List.length_take]; omega, by omega, fun h0 => ⟨_, rfl, fun j p hj => ⟨[.string p.f0, .int .i64 p.f1], rfl, k58_mk _ _, fun i u hu => ?_⟩⟩⟩
  obtain ⟨hlt, hp⟩ := List.getElem?_eq_some_iff.1 hj
  rw [List.length_take] at hlt
  rw [List.getElem_take] at hp
  obtain ⟨a, b⟩ := ens_get l j (by omega)
  rw [add_plain]
  match i, hu with
  | 0, hu =>
    simp at hu
    subst hu
    exact (h.cellAt (j * 2) (by omega)).trans (by rw [a, hp])
  | 1, hu =>
    simp at hu
    subst hu
    exact (h.cellAt (j * 2 + 1) (by omega)).trans (by rw [b, hp])
  | i + 2, hu => simp at hu
def spareE : ES := ⟨⟨#[115, 112, 97, 114, 101]⟩, 0⟩
set_option maxHeartbeats 1000000 in
set_option maxRecDepth 100000 in
theorem twinEntries (A : Option Addr) (c : Nat) (l : List ES) (w : World) (hr : Kd.C k58 w A l.length l) (hc : l.length ≤ c) (hl : (l.length + 1) * 24 ≤ 140737488355328) :
    Calls Try.prog 24 #[.slice A l.length c] w fun e w' => ∃ g cap, e = .returned (.slice (some ⟨g, 0, none⟩) l.length cap) ∧
      w'.ownsRow w.heap.size 58 2 (.slice (some ⟨g, 0, none⟩) (l.length + 1) cap) (l.length + 1) (ens (l ++ [spareE])) ∧ Below w.heap.size w w' := by
  obtain ⟨i0, hi, hz0, hz1, hz2⟩ := info_parts infoE
  have hr' := Lib.hid hr
  clear hr
  have hl63 : l.length ≤ 9223372036854775807 := by omega
  go_enter Try.func24, Try.ntmps24
  go_wp2_with (first | (at_make; refine wpList_make_own _ rfl _ _ 24 rfl w.heap.size 58 i0 _ 2 Try.underlying24 hi hz0 hz1 .i64 .i64 _ (l.length + 1) rfl rfl ?h1 ?h2 ?h3 ?h4 ?_))
  case h1 => simp
  case h2 => rw [hz2]; omega
  case h3 => unfold maxLen; omega
  case h4 => exact Nat.le_refl _
  intro w1 hown1 hg1
  have hB1 := Lib.hid ((Below.refl w.heap.size w).grown hg1 (Nat.le_refl _) (fun k hk => by cases hk))
  have hown1' := Lib.hid hown1
  clear hown1 hg1
  go_wp2
  go_loopw [3, 4] (fun v i wr => ∃ k : Nat, k ≤ l.length ∧ i = .int .i64 k ∧ v = .slice (some ⟨w.heap.size, 0, none⟩) k (l.length + 1) ∧ Hid (wr.ownsRow w.heap.size 58 2 (.slice (some ⟨w.heap.size, 0, none⟩) k (l.length + 1)) k (ens (l.take k))) ∧ Hid (Below w.heap.size w wr)) (fun _ i _ => l.length - (intOf i).toNat)
  case atStart => exact ⟨0, Nat.zero_le _, rfl, rfl, by simpa [ens] using hown1', hB1⟩
  case round =>
    obtain ⟨k, hk, rfl, rfl, ho, hb⟩ := hrel
    by_cases hlt : k < l.length
    · obtain ⟨ad, hA, hcell, hcell2⟩ := Ce_at hr'.out hb.out k hlt
      subst hA
      go_wp2_with (at_builtin; refine wpList_append_fits _ rfl _ _ 24 rfl w.heap.size 58 i0 2 Try.underlying24 hi hz1 w.heap.size k (l.length + 1) _ rfl (ho.out.alloc _) ⟨wr.heap.size, 0, none⟩ 1 1 [.string l[k].f0, .int .i64 l[k].f1] rfl rfl (World.news_of_block (heap_alloc_new wr _)) ?c2 ?c3 ?_)
      case c2 => intro u hu; simp at hu; rcases hu with rfl | rfl <;> rfl
      case c3 => omega
      intro w2 ho2 hg2
      have ho2' := Lib.hid ho2
      have hb2 := Lib.hid (((bal hb.out (.cells #[.string l[k].f0, .int .i64 l[k].f1] 58)).grown hg2 (by simp; have := hb.out.size; omega) (fun j hj => by cases hj; exact Nat.le_refl _)))
      clear ho2 hg2 ho hb
      go_wp2
      go_roundw
      case rel => exact ⟨k + 1, by omega, by go_num, rfl, Lib.hid (by rw [ens_take l k hlt]; exact ho2'.out), hb2⟩
      case measure => simp [intOf]; omega
    · obtain rfl : k = l.length := by omega
      go_wp2_with (at_builtin; refine wpList_append_fits _ rfl _ _ 24 rfl w.heap.size 58 i0 2 Try.underlying24 hi hz1 w.heap.size l.length (l.length + 1) _ rfl (ho.out.alloc _) ⟨wr.heap.size, 0, none⟩ 1 1 [.string ⟨#[115, 112, 97, 114, 101]⟩, .int .i64 0] rfl rfl (World.news_of_block (heap_alloc_new wr _)) ?c2 ?c3 ?_)
      case c2 => intro u hu; simp at hu; rcases hu with rfl | rfl <;> rfl
      case c3 => omega
      intro w2 ho2 hg2
      have ho2' := Lib.hid ho2
      have hb2 := Lib.hid (((bal hb.out (.cells #[.string ⟨#[115, 112, 97, 114, 101]⟩, .int .i64 0] 58)).grown hg2 (by simp; have := hb.out.size; omega) (fun j hj => by cases hj; exact Nat.le_refl _)))
      clear ho2 hg2 ho hb
      go_wp2
      go_ret
      exact ⟨_, _, rfl, by have := ho2'.out; rw [ens_app]; exact this, hb2.out⟩
set_option maxHeartbeats 1000000 in
set_option maxRecDepth 100000 in
theorem leftEntries (g cap base : Nat) (A : Option Addr) (c : Nat) (l : List ES) (w : World) (hr : Kd.C k58 w A l.length l) (hc : l.length ≤ c)
    (ho : w.ownsRow base 58 2 (.slice (some ⟨g, 0, none⟩) (l.length + 1) cap) (l.length + 1) (ens (l ++ [spareE]))) :
    Calls Try.prog 26 #[.slice (some ⟨g, 0, none⟩) l.length cap, .slice A l.length c] w fun e w' => e = .returned (.bool true) ∧ Below w.heap.size w w' := by
  have hr' := Lib.hid hr
  have ho' := Lib.hid ho
  have hcap : l.length < cap := by have := (twin_cap ho).1; omega
  have hmx : cap ≤ 9223372036854775807 := by have := (twin_cap ho).2; unfold maxLen at this; omega
  have hl63 : l.length ≤ 9223372036854775807 := by omega
  have b1 : (l.length != l.length) = false := by simp
  have b2 : decide (cap ≤ l.length) = false := by simp; omega
  clear hr ho
  go_enter Try.func26, Try.ntmps26
  go_wp2
  go_loopw [5] (fun i wr => ∃ k : Nat, k ≤ l.length ∧ i = .int .i64 k ∧ Hid (Below w.heap.size w wr)) (fun i _ => l.length - (intOf i).toNat)
  case atStart => exact ⟨0, Nat.zero_le _, rfl, Lib.hid (Below.refl _ _)⟩
  case round =>
    obtain ⟨k, hk, rfl, hb⟩ := hrel
    by_cases hlt : k < l.length
    · obtain ⟨ad, hA, hc1, hc2⟩ := Ce_at hr'.out hb.out k hlt
      subst hA
      obtain ⟨q1, q2⟩ := ens_get (l ++ [spareE]) k (by simp; omega)
      rw [List.getElem_append_left hlt] at q1 q2
      have hc3 : wr.cell? ⟨g, k * 2, none⟩ = some (.string l[k].f0) := pw_cell_below hb.out ((ho'.out.cellAt (k * 2) (by omega)).trans q1)
      have hc4 : wr.cell? ⟨g, k * 2 + 1, none⟩ = some (.int .i64 l[k].f1) := pw_cell_below hb.out ((ho'.out.cellAt (k * 2 + 1) (by omega)).trans q2)
      have h5 : k < cap := by omega
      clear q1 q2
      go_wp2
      go_quiet (fail)
      go_wp2
      go_roundw
      case rel => exact ⟨k + 1, by omega, by go_num, Lib.hid (bdn hb.out _)⟩
      case measure => simp [intOf]; omega
    · obtain rfl : k = l.length := by omega
      obtain ⟨q1, q2⟩ := ens_get (l ++ [spareE]) l.length (by simp)
      have hc3 : wr.cell? ⟨g, l.length * 2, none⟩ = some (.string ⟨#[115, 112, 97, 114, 101]⟩) := pw_cell_below hb.out ((ho'.out.cellAt (l.length * 2) (by omega)).trans (by rw [q1]; simp [spareE]))
      have hc4 : wr.cell? ⟨g, l.length * 2 + 1, none⟩ = some (.int .i64 0) := pw_cell_below hb.out ((ho'.out.cellAt (l.length * 2 + 1) (by omega)).trans (by rw [q2]; simp [spareE]))
      clear q1 q2
      go_wp2
      go_ret
      exact ⟨rfl, bal hb.out _⟩

end Go.Proofs.Ytkgppbdelggncaa.H

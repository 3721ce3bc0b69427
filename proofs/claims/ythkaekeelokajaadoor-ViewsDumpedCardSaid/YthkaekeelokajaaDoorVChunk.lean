/- slices.Chunk of bytes by sixteen: the iterator. -/
import Derived.Test.YthkaekeelokajaaDoorRangeBox
import Derived.Test.YthkaekeelokajaaDoorHelp
import Derived.RangeFuncNested
import Derived.RangeFuncBound
import Derived.RangeFuncCalls
import Derived.RangeFuncLeaves
import Derived.Shelf.Abstract
import Derived.Shelf.RegionOpen
import Derived.WalkKit
import Derived.OwnWalkIn
import Derived.TacticsInMore
import Derived.LoopNIn
import Derived.LoopIn
import Derived.RegionIn
import Derived.Sort.BigQuietIn
import Derived.Maps.AppendAt
import Derived.WalkLawsBesides
import Derived.WalkSpells
import Derived.Outline
set_option linter.unusedVariables false
set_option linter.unusedSimpArgs false
namespace Go.Proofs.YthkaekeelokajaaDoor.C
open Go.RowKit Go.Shelf Go.BigFrame Go.Proofs Go.Proofs.YthkaekeelokajaaDoor.H Go.Proofs.YthkaekeelokajaaDoorW.PrintWords

attribute [local go_sem] Oper.semAt_some
set_option maxHeartbeats 1000000 in
theorem chunk_in (F : Fence) (n : Nat) (h : F.fn 77) (hro : F.round = none) (A : Option Addr) (m c : Nat) (w : World) :
    CallsIn F n Tryd.prog 77 #[.slice A m c, .int .i64 16] w fun e w' => e = .returned (.func (.func 121) #[] #[.pointer (some ⟨w.heap.size, 0, none⟩), .pointer (some ⟨w.heap.size + 1, 0, none⟩)]) ∧
      w' = (w.alloc (.cells #[.slice A m c] 53)).alloc (.cells #[.int .i64 16] 3) := by
  refine callsIn_of_wp Tryd.func77 rfl h ?_ hro
  simp only [Tryd.ntmps77, List.size_toArray, List.length_cons, List.length_nil, Nat.reduceAdd, Nat.reduceSub, Array.replicate_succ, Array.replicate_zero, List.push_toArray, List.append_toArray, List.nil_append, List.cons_append]
  gi_wp2
  go_ret
  exact ⟨rfl, rfl⟩
/-- Where the parts begin. -/
def starts (n : Nat) : List Nat := (List.range ((n + 15) / 16)).map (16 * ·)
abbrev Pl (n : Nat) := {i : Nat // i < n}
def KpD (Bs Bn : Nat) (A B : World) : Prop := B.heap[Bs]? = A.heap[Bs]? ∧ B.heap[Bn]? = A.heap[Bn]? ∧ A.heap.size ≤ B.heap.size
theorem KpD.trans {Bs Bn : Nat} {A B C : World} (h : KpD Bs Bn A B) (k : KpD Bs Bn B C) : KpD Bs Bn A C := ⟨k.1.trans h.1, k.2.1.trans h.2.1, Nat.le_trans h.2.2 k.2.2⟩
def partV (g n : Nat) (x : Pl n) : Value := .slice (some ⟨g, x.1, none⟩) (min 16 (n - x.1)) (min 16 (n - x.1))
set_option maxHeartbeats 4000000 in
set_option maxRecDepth 100000 in
theorem chunk_seq (F : Fence) (k : Nat) (h1 : F.fn 121) (hro : F.round = none) (hk : 1 ≤ k) (Bs Bn g n c : Nat) (hn : n ≤ 100000000) (hc : n ≤ c) (hc2 : c ≤ 9223372036854775807) (w : World)
    (hbs : Boxed w Bs 53 (.slice (some ⟨g, 0, none⟩) n c)) (hbn : Boxed w Bn 3 (.int .i64 16)) :
    SeqBox F k Tryd.prog 121 #[.pointer (some ⟨Bs, 0, none⟩), .pointer (some ⟨Bn, 0, none⟩)] (fun x : Pl n => #[partV g n x]) (KpD Bs Bn) (fun xs => xs.map (·.1) = starts n) (n + 1) Bs w := by
  intro l J W hW hJs hJa hJd hJb hY h0
  have HS := Lib.hid (show Boxed W Bs 53 (.slice (some ⟨g, 0, none⟩) n c) from (hW.block Bs hbs.lt).trans hbs)
  have HN := Lib.hid (show Boxed W Bn 3 (.int .i64 16) from (hW.block Bn hbn.lt).trans hbn)
  have HY := Lib.hid hY
  have HJd := Lib.hid hJd
  have H0 := Lib.hid h0
  clear hbs hbn hY hJs hJa hJd hJb h0 hW
  refine callsIn_of_wp Tryd.func121 rfl h1 ?_ hro
  simp only [Tryd.ntmps121, List.size_toArray, List.length_cons, List.length_nil, Nat.reduceAdd, Nat.reduceSub, Array.replicate_succ, Array.replicate_zero, List.push_toArray, List.append_toArray, List.nil_append, List.cons_append]
  have hmx : Tryd.prog.follows .mixedOrders = true := by kernel_rfl
  gi_wp2
  gi_loopw [4] (fun i wr => ∃ (q : Nat) (pre : List (Pl n)), i = .int .i64 ((16 * q : Nat) : Int) ∧ 16 * q < n + 16 ∧ Hid (J pre wr ∧ KpD Bs Bn W wr ∧ pre.map (·.1) = (List.range q).map (16 * ·))) (fun i _ => n - (intOf i).toNat)
  case atStart => exact ⟨0, [], rfl, by omega, Lib.hid ⟨H0.out, ⟨rfl, rfl, Nat.le_refl _⟩, rfl⟩⟩
  case round =>
    obtain ⟨q, pre, rfl, hq, hst⟩ := hrel
    have cs : wr.cell? ⟨Bs, 0, none⟩ = some (.slice (some ⟨g, 0, none⟩) n c) := Boxed.cell (hst.out.2.1.1.trans HS.out)
    have cn : wr.cell? ⟨Bn, 0, none⟩ = some (.int .i64 16) := Boxed.cell (hst.out.2.1.2.1.trans HN.out)
    have hpl : pre.length = q := by have := congrArg List.length hst.out.2.2; simpa using this
    obtain ⟨i, hi⟩ : ∃ i, 16 * q = i := ⟨_, rfl⟩
    rw [hi] at hq ⊢
    have HI := Lib.hid (And.intro hi hpl)
    clear hi hpl
    by_cases hlt : i < n
    · gi_wp2
      refine wpIn_region_quiet_lit hro (by kernel_rfl) (by kernel_rfl) ?_
      repeat (gi_big_quiet_step (fail))
      refine wpQuietIn_nil ?_
      intro _ hw'
      obtain ⟨nq, hw''⟩ := hw'
      subst hw''
      have he : (if ((n - i : Nat) : Int) < 16 then ((n - i : Nat) : Int) else 16) = ((min 16 (n - i) : Nat) : Int) := by split <;> omega
      rw [he]
      clear he
      obtain ⟨fn, tmps, assign, body, hy, hR⟩ := HY.out pre ⟨i, hlt⟩ (wr.drewN nq) (HJd.out _ _ _ hst.out.1) (by have := HI.out.2; have := HI.out.1; omega)
      have hp0 : partV g n ⟨i, hlt⟩ = .slice (some ⟨g, i, none⟩) (min 16 (n - i)) (min 16 (n - i)) := rfl
      rw [hp0] at hy
      clear hp0
      obtain ⟨e, hee⟩ : ∃ e, min 16 (n - i) = e := ⟨_, rfl⟩
      rw [hee] at hy ⊢
      have he1 : 0 < e := by omega
      have he2 : i + e ≤ n := by omega
      have he3 : i + e ≤ c := by omega
      have he4 : ¬ (i + e = i) := by omega
      have he5 : i + e - i = e := by omega
      have HE := Lib.hid hee
      clear hee
      gi_wp2
      refine hR.mono ?_
      rintro e' W3 ⟨rfl, hJ3, hk3⟩
      have hk3' : KpD Bs Bn wr W3 := ⟨hk3.1, hk3.2.1, hk3.2.2⟩
      have hkk := hst.out.2.1.trans hk3'
      have cn3 : W3.cell? ⟨Bn, 0, none⟩ = some (.int .i64 16) := Boxed.cell (hkk.2.1.trans HN.out)
      have hm : (pre ++ [(⟨i, hlt⟩ : Pl n)]).map (·.1) = (List.range (q + 1)).map (16 * ·) := by
        rw [List.map_append, hst.out.2.2, List.range_succ, List.map_append]
        simp [HI.out.1]
      have HR3 := Lib.hid (And.intro hJ3 (And.intro hkk hm))
      clear hJ3 hk3 hk3' hkk hm hR hy cs cn
      gi_wp2
      go_roundw
      case rel => exact ⟨q + 1, pre ++ [⟨i, hlt⟩], by have := HI.out.1; simp; omega, by have := HI.out.1; omega, HR3⟩
      case measure => simp [intOf]; omega
    · gi_wp2
      go_end0
      have e : q = (n + 15) / 16 := by have := HI.out.1; omega
      exact ⟨⟨_, rfl⟩, pre, by rw [hst.out.2.2, e]; rfl, hst.out.1⟩
end Go.Proofs.YthkaekeelokajaaDoor.C

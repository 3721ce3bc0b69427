/- cuts.parts: the parts of a line, one after the other, at blanks where it can be. -/
import Derived.RangeFuncNested
import Derived.RangeFuncBound
import Derived.RangeFuncCalls
import Derived.RangeFuncLeaves
import Derived.RangeFuncBox
import Derived.Shelf.Abstract
import Derived.Shelf.RegionOpen
import Derived.WalkKit
import Derived.OwnWalkIn
import Derived.TacticsInMore
import Derived.LoopNIn
import Derived.LoopIn
import Derived.Sort.LoopGhostIn
import Derived.RegionIn
import Derived.Sort.BigQuietIn
import Derived.Maps.AppendAt
import Derived.WalkLawsBesides
import Derived.WalkSpells
import Derived.Laws.EntriesVeiled
import Derived.Outline
import Derived.Test.YtkedjlekeohpaaaGreatDoorRangeBox
import Derived.Test.YtkedjlekeohpaaaGreatDoorBoxApp
import Derived.Test.YtkedjlekeohpaaaGreatDoorLastAny
import Derived.Test.YtkedjlekeohpaaaGreatDoorSpl
set_option linter.unusedVariables false
set_option linter.unusedSimpArgs false
namespace Go.Proofs.YtkedjlekeohpaaaGreatDoor.C
open Go.RowKit Go.Shelf Go.BigFrame Go.Proofs Go.Proofs.YtkedjlekeohpaaaGreatDoor.H Go.Proofs.YtkedjlekeohpaaaGreatDoor.K Go.Proofs.YtkedjlekeohpaaaGreatDoor.S

attribute [local go_sem] Oper.semAt_some

/-- How many bytes the next part has. -/
def cutN (n : Nat) (bl : Bool) (l : List UInt8) : Nat := if bl && decide (0 < behL (l.take n)) then behL (l.take n) else n
theorem cut_le (n : Nat) (bl : Bool) (l : List UInt8) : cutN n bl l ≤ n := by
  unfold cutN
  split
  · have := beh_le (l.take n) (l.take n).length
    rw [List.length_take] at this
    unfold behL
    rw [List.length_take]; omega
  · exact Nat.le_refl _
theorem cut_pos (n : Nat) (bl : Bool) (l : List UInt8) (hn : 1 ≤ n) : 1 ≤ cutN n bl l := by
  unfold cutN
  split
  · rename_i h
    simp at h
    omega
  · exact hn
def foldGo (n : Nat) (bl : Bool) : Nat → List UInt8 → List (List UInt8)
  | 0, l => [l]
  | f + 1, l => if n < l.length then l.take (cutN n bl l) :: foldGo n bl f (l.drop (cutN n bl l)) else [l]
/-- The parts of a line. -/
def foldL (n : Nat) (bl : Bool) (l : List UInt8) : List (List UInt8) := foldGo n bl l.length l
theorem fold_fuel (n : Nat) (bl : Bool) (hn : 1 ≤ n) : ∀ (f g : Nat) (l : List UInt8), l.length ≤ f → l.length ≤ g → foldGo n bl f l = foldGo n bl g l
  | 0, 0, _, _, _ => rfl
  | 0, g + 1, l, h, _ => by
    have : ¬ n < l.length := by omega
    simp only [foldGo]
    rw [if_neg this]
  | f + 1, 0, l, _, h => by
    have : ¬ n < l.length := by omega
    simp only [foldGo]
    rw [if_neg this]
  | f + 1, g + 1, l, h1, h2 => by
    simp only [foldGo]
    by_cases h : n < l.length
    · rw [if_pos h, if_pos h]
      have hc := cut_pos n bl l hn
      rw [fold_fuel n bl hn f g _ (by rw [List.length_drop]; omega) (by rw [List.length_drop]; omega)]
    · rw [if_neg h, if_neg h]
theorem fold_step (n : Nat) (bl : Bool) (hn : 1 ≤ n) (l : List UInt8) : foldL n bl l = if n < l.length then l.take (cutN n bl l) :: foldL n bl (l.drop (cutN n bl l)) else [l] := by
  unfold foldL
  cases hl : l.length with
  | zero => rw [if_neg (by omega)]; rfl
  | succ f =>
    simp only [foldGo]
    by_cases h : n < l.length
    · rw [if_pos h, if_pos (by omega)]
      have hc := cut_pos n bl l hn
      rw [fold_fuel n bl hn f _ _ (by rw [List.length_drop]; omega) (Nat.le_refl _)]
    · rw [if_neg h, if_neg (by omega)]

/-- Below M nothing has turned but block Bo. -/
def KpM (M Bo : Nat) (A B : World) : Prop := (∀ k, k < M → k ≠ Bo → B.heap[k]? = A.heap[k]?) ∧ A.heap.size ≤ B.heap.size
theorem KpM.trans {M Bo : Nat} {A B C : World} (h : KpM M Bo A B) (k : KpM M Bo B C) : KpM M Bo A C := ⟨fun i h1 h2 => (k.1 i h1 h2).trans (h.1 i h1 h2), Nat.le_trans h.2 k.2⟩
/-- The iterator's own state: what is left stands in the box Bs; all else below M, but Bo, as it was. -/
structure FSt (W : World) (M Bo Bs : Nat) (t : ByteArray) (wr : World) : Prop where
  box : Boxed wr Bs 9 (.string t)
  same : ∀ k, k < M → k ≠ Bo → k ≠ Bs → wr.heap[k]? = W.heap[k]?
  size : M ≤ wr.heap.size
theorem FSt.on {W : World} {M Bo Bs : Nat} {t : ByteArray} {wr w' : World} (h : FSt W M Bo Bs t wr) (hb : Below wr.heap.size wr w') : FSt W M Bo Bs t w' :=
  ⟨(hb.block Bs h.box.lt).trans h.box, fun k h1 h2 h3 => (hb.block k (by have := h.size; omega)).trans (h.same k h1 h2 h3), Nat.le_trans h.size hb.size⟩
theorem FSt.kp {W : World} {M Bo Bs : Nat} {t : ByteArray} {wr w' : World} (h : FSt W M Bo Bs t wr) (hk : KpM M Bo wr w') (h1 : Bs < M) (h2 : Bs ≠ Bo) : FSt W M Bo Bs t w' :=
  ⟨(hk.1 Bs h1 h2).trans h.box, fun k a b c => (hk.1 k a b).trans (h.same k a b c), Nat.le_trans h.size hk.2⟩
theorem FSt.set {W : World} {M Bo Bs : Nat} {t : ByteArray} {wr : World} (h : FSt W M Bo Bs t wr) (u : ByteArray) : FSt W M Bo Bs u (wr.setCell ⟨Bs, 0, none⟩ (.string u)) :=
  ⟨h.box.set _, fun k a b c => (Below.heap_setCell wr _ _ k c).trans (h.same k a b c), by simpa [World.setCell] using h.size⟩
theorem utf_same {A B : World} (h : Lib.Utf8Tabs 2 3 A) (h1 : B.heap[(2 : Nat)]? = A.heap[(2 : Nat)]?) (h2 : B.heap[(3 : Nat)]? = A.heap[(3 : Nat)]?) :
    Lib.Utf8Tabs 2 3 B :=
  ⟨fun c hc => (World.cell?_of_block h1).trans (h.1 c hc), fun i hi => ⟨(World.cell?_of_block h2).trans (h.2 i hi).1, (World.cell?_of_block h2).trans (h.2 i hi).2⟩⟩
theorem extract_bytes (s : ByteArray) (a b : Nat) : (s.extract a b).data.toList = (s.data.toList.drop a).take (b - a) := by rw [extract_bs, bs_toList]

set_option maxHeartbeats 4000000 in
set_option maxRecDepth 100000 in
theorem partsF_seq (F : Fence) (n : Nat) (h53 : F.fn 89) (h54 : F.fn 90) (hro : F.round = none) (hn : 1 ≤ n) (M Bo Bs Bn Bb : Nat) (d1 : Bs ≠ Bo) (d2 : Bn ≠ Bo) (d3 : Bb ≠ Bo) (d4 : Bn ≠ Bs) (d5 : Bb ≠ Bs) (m1 : Bs < M) (m2 : Bn < M) (m3 : Bb < M)
    (g1 : 2 < M ∧ 2 ≠ Bo ∧ 2 ≠ Bs) (g2 : 3 < M ∧ 3 ≠ Bo ∧ 3 ≠ Bs)
    (s : ByteArray) (hs : s.size ≤ 100000000) (most : Nat) (hm : 1 ≤ most) (hm2 : most ≤ 65536) (bl : Bool) (w : World) (hM : w.heap.size = M)
    (hbs : Boxed w Bs 9 (.string s)) (hbn : Boxed w Bn 3 (.int .i64 most)) (hbb : Boxed w Bb 4 (.bool bl)) (hT : Lib.Utf8Tabs 2 3 w)
    (hLA : ∀ (t : ByteArray) (W : World), t.size ≤ 100000000 → Lib.Utf8Tabs 2 3 W → CallsIn F (n - 1) Tryz.prog 90 #[.string t, .string ⟨#[32, 9]⟩] W fun e W' => e = .returned (.int .i64 ((behL t.data.toList : Int) - 1)) ∧ Below W.heap.size W W') :
    SeqBox F n Tryz.prog 89 #[.pointer (some ⟨Bs, 0, none⟩), .pointer (some ⟨Bn, 0, none⟩), .pointer (some ⟨Bb, 0, none⟩)] (fun x : ByteArray => #[Value.string x]) (KpM M Bo) (fun xs => xs = (foldL most bl s.data.toList).map bs) (s.size + 1) Bs w := by
  intro l J W hW hJs hJa hJd hJb hY h0
  have HF0 : Hid (FSt W M Bo Bs s W) := Lib.hid ⟨(hW.block Bs hbs.lt).trans hbs, fun _ _ _ _ => rfl, by rw [← hM]; exact hW.size⟩
  have HN := Lib.hid (show Boxed W Bn 3 (.int .i64 most) from (hW.block Bn hbn.lt).trans hbn)
  have HBB := Lib.hid (show Boxed W Bb 4 (.bool bl) from (hW.block Bb hbb.lt).trans hbb)
  have HT := Lib.hid (Utf8Tabs_below hT hW)
  have HG := Lib.hid (And.intro g1 g2)
  have HLA := Lib.hid hLA
  have HY := Lib.hid hY
  have HJ := Lib.hid (And.intro hJs (And.intro hJd hJb))
  have H0 := Lib.hid h0
  have HM := Lib.hid hM
  clear hbs hbn hbb hT g1 g2 hLA hY hJs hJa hJd hJb h0 hW hM
  refine callsIn_of_wp Tryz.func89 rfl h53 ?_ hro
  simp only [Tryz.ntmps89, List.size_toArray, List.length_cons, List.length_nil, Nat.reduceAdd, Nat.reduceSub, Array.replicate_succ, Array.replicate_zero, List.push_toArray, List.append_toArray, List.nil_append, List.cons_append]
  have hmx : Tryz.prog.follows .mixedOrders = true := by kernel_rfl
  gi_wp2
  gi_loopg [5] s.size (fun g _ wr => ∃ (t : ByteArray) (pre : List ByteArray), t.size ≤ g ∧ t.size ≤ s.size ∧ Hid (FSt W M Bo Bs t wr) ∧ Hid (J pre wr) ∧ Hid (pre ++ (foldL most bl t.data.toList).map bs = (foldL most bl s.data.toList).map bs ∧ pre.length + t.size ≤ s.size))
  case atStart => exact ⟨s, [], Nat.le_refl _, Nat.le_refl _, HF0, H0, Lib.hid ⟨rfl, by simp⟩⟩
  case round =>
    obtain ⟨t, pre, htg, hts, hf, hj, hp⟩ := hrel
    have cs := hf.out.box.cell
    have fs := hf.out.box.frozen
    have cn : wr.cell? ⟨Bn, 0, none⟩ = some (.int .i64 most) := Boxed.cell ((hf.out.same Bn m2 d2 d4).trans HN.out)
    have cb : wr.cell? ⟨Bb, 0, none⟩ = some (.bool bl) := Boxed.cell ((hf.out.same Bb m3 d3 d5).trans HBB.out)
    by_cases hlt : most < t.size
    · have hT1 : Lib.Utf8Tabs 2 3 wr := utf_same HT.out (hf.out.same _ HG.out.1.1 HG.out.1.2.1 HG.out.1.2.2) (hf.out.same _ HG.out.2.1 HG.out.2.2.1 HG.out.2.2.2)
      have HT1 := Lib.hid hT1
      clear hT1
      have hex : (t.extract 0 most).data.toList = t.data.toList.take most := by rw [extract_bytes]; simp
      have hexs : (t.extract 0 most).size ≤ 100000000 := by rw [Lib.size_eq, hex, List.length_take]; omega
      have hla := fun W h => HLA.out (t.extract 0 most) W hexs h
      rw [hex] at hla
      have hcut := cut_le most bl t.data.toList
      have hcp := cut_pos most bl t.data.toList hm
      have hlen : t.data.toList.length = t.size := (Lib.size_eq t).symm
      obtain ⟨c, hc⟩ : ∃ c, cutN most bl t.data.toList = c := ⟨_, rfl⟩
      rw [hc] at hcut hcp
      have hfs := Lib.hid (show foldL most bl t.data.toList = t.data.toList.take c :: foldL most bl (t.data.toList.drop c) by rw [fold_step most bl hm, if_pos (by omega), hc])
      obtain ⟨b, hb⟩ : ∃ b, behL (t.data.toList.take most) = b := ⟨_, rfl⟩
      have hcb : c = if bl && decide (0 < b) then b else most := by rw [← hc, ← hb]; rfl
      have hble : b ≤ most := by rw [← hb]; unfold behL; exact Nat.le_trans (beh_le _ _) (by rw [List.length_take]; omega)
      rw [hb] at hla
      have HLA1 := Lib.hid hla
      have HLEN := Lib.hid hlen
      clear hex hexs hla hc hb hlen
      have hx1 : (t.extract 0 c).data.toList = t.data.toList.take c := by rw [extract_bytes]; simp
      have hx2 : (t.extract c t.size).data.toList = t.data.toList.drop c := by rw [extract_bytes]; exact List.take_of_length_le (by rw [List.length_drop, HLEN.out]; omega)
      have hx2s : (t.extract c t.size).size = t.size - c := by rw [Lib.size_eq, hx2, List.length_drop, HLEN.out]
      have hnext : Hid ((pre ++ [t.extract 0 c]) ++ (foldL most bl (t.extract c t.size).data.toList).map bs = (foldL most bl s.data.toList).map bs ∧ (pre ++ [t.extract 0 c]).length + (t.extract c t.size).size ≤ s.size) := by
        refine Lib.hid ⟨?_, ?_⟩
        · rw [← hp.out.1, hfs.out, List.map_cons, hx2, List.append_assoc]
          congr 1
          have e0 : bs (t.data.toList.take c) = t.extract 0 c := by rw [← hx1, bs_of]
          rw [e0]
          rfl
        · have := hp.out.2
          rw [List.length_append, hx2s]
          show pre.length + 1 + _ ≤ _
          omega
      have hpl : pre.length < s.size + 1 := by have := hp.out.2; omega
      have HX := Lib.hid (And.intro hx2s hpl)
      clear hx1 hx2 hx2s hpl hfs
      have key : ∀ (w2 : World), Below wr.heap.size wr w2 → Hid (FSt W M Bo Bs t w2) ∧ Hid (J pre w2) := fun w2 h => ⟨Lib.hid (hf.out.on h), Lib.hid (HJ.out.2.2 pre wr w2 hj.out h)⟩
      have KEY := Lib.hid key
      clear key
      cases hbz : (bl && decide (0 < b)) with
      | true =>
        rw [hbz, if_pos rfl] at hcb
        subst hcb
        have hb1 : bl = true ∧ 0 < c := by simpa using hbz
        obtain ⟨rfl, hb0⟩ := hb1
        have hge : (0 : Int) ≤ (c : Int) - 1 := by omega
        have hge1 : (1 : Int) ≤ (c : Int) := by omega
        clear hbz
        gi_wp2_with fail
        refine (HLA1.out _ HT1.out).mono ?_
        rintro e w2 ⟨rfl, hb2⟩
        obtain ⟨hf2, hj2⟩ := KEY.out w2 hb2
        have cs2 := hf2.out.box.cell
        have cn2 : w2.cell? ⟨Bn, 0, none⟩ = some (.int .i64 most) := Boxed.cell ((hf2.out.same Bn m2 d2 d4).trans HN.out)
        have cb2 : w2.cell? ⟨Bb, 0, none⟩ = some (.bool true) := Boxed.cell ((hf2.out.same Bb m3 d3 d5).trans HBB.out)
        clear hb2 cs fs cn cb
        obtain ⟨fn, tmps, assign, body, hy, hR⟩ := HY.out pre (t.extract 0 c) w2 hj2.out HX.out.2
        gi_wp2
        refine hR.mono ?_
        rintro e W3 ⟨rfl, hJ3, hk3⟩
        have hf3 := hf2.out.kp hk3 m1 d1
        have cs3 := hf3.box.cell
        have fs3 := hf3.box.frozen
        have HF3 := Lib.hid (hf3.set (t.extract c t.size))
        have HJ3 := Lib.hid (HJ.out.1 _ _ (.string (t.extract c t.size)) hJ3)
        clear hJ3 hk3 hf3 hR hy cs2 cn2 cb2
        gi_wp2
        gi_roundg (t.size - c)
        case measure => omega
        case rel => exact ⟨t.extract c t.size, pre ++ [t.extract 0 c], by rw [HX.out.1]; exact Nat.le_refl _, by rw [HX.out.1]; omega, HF3, HJ3, hnext⟩
      | false =>
        rw [hbz, if_neg (by decide)] at hcb
        subst hcb
        cases bl with
        | false =>
          clear hbz
          gi_wp2_with fail
          refine (HLA1.out _ HT1.out).mono ?_
          rintro e w2 ⟨rfl, hb2⟩
          obtain ⟨hf2, hj2⟩ := KEY.out w2 hb2
          have cs2 := hf2.out.box.cell
          have cn2 : w2.cell? ⟨Bn, 0, none⟩ = some (.int .i64 c) := Boxed.cell ((hf2.out.same Bn m2 d2 d4).trans HN.out)
          have cb2 : w2.cell? ⟨Bb, 0, none⟩ = some (.bool false) := Boxed.cell ((hf2.out.same Bb m3 d3 d5).trans HBB.out)
          clear hb2 cs fs cn cb
          obtain ⟨fn, tmps, assign, body, hy, hR⟩ := HY.out pre (t.extract 0 c) w2 hj2.out HX.out.2
          gi_wp2
          refine hR.mono ?_
          rintro e W3 ⟨rfl, hJ3, hk3⟩
          have hf3 := hf2.out.kp hk3 m1 d1
          have cs3 := hf3.box.cell
          have fs3 := hf3.box.frozen
          have HF3 := Lib.hid (hf3.set (t.extract c t.size))
          have HJ3 := Lib.hid (HJ.out.1 _ _ (.string (t.extract c t.size)) hJ3)
          clear hJ3 hk3 hf3 hR hy cs2 cn2 cb2
          gi_wp2
          gi_roundg (t.size - c)
          case measure => omega
          case rel => exact ⟨t.extract c t.size, pre ++ [t.extract 0 c], by rw [HX.out.1]; exact Nat.le_refl _, by rw [HX.out.1]; omega, HF3, HJ3, hnext⟩
        | true =>
          have hb0 : b = 0 := by
            simp at hbz
            exact hbz
          subst hb0
          clear hbz
          gi_wp2_with fail
          refine (HLA1.out _ HT1.out).mono ?_
          rintro e w2 ⟨rfl, hb2⟩
          obtain ⟨hf2, hj2⟩ := KEY.out w2 hb2
          have cs2 := hf2.out.box.cell
          have cn2 : w2.cell? ⟨Bn, 0, none⟩ = some (.int .i64 c) := Boxed.cell ((hf2.out.same Bn m2 d2 d4).trans HN.out)
          have cb2 : w2.cell? ⟨Bb, 0, none⟩ = some (.bool true) := Boxed.cell ((hf2.out.same Bb m3 d3 d5).trans HBB.out)
          clear hb2 cs fs cn cb
          obtain ⟨fn, tmps, assign, body, hy, hR⟩ := HY.out pre (t.extract 0 c) w2 hj2.out HX.out.2
          gi_wp2
          refine hR.mono ?_
          rintro e W3 ⟨rfl, hJ3, hk3⟩
          have hf3 := hf2.out.kp hk3 m1 d1
          have cs3 := hf3.box.cell
          have fs3 := hf3.box.frozen
          have HF3 := Lib.hid (hf3.set (t.extract c t.size))
          have HJ3 := Lib.hid (HJ.out.1 _ _ (.string (t.extract c t.size)) hJ3)
          clear hJ3 hk3 hf3 hR hy cs2 cn2 cb2
          gi_wp2
          gi_roundg (t.size - c)
          case measure => omega
          case rel => exact ⟨t.extract c t.size, pre ++ [t.extract 0 c], by rw [HX.out.1]; exact Nat.le_refl _, by rw [HX.out.1]; omega, HF3, HJ3, hnext⟩
    · have hfs : foldL most bl t.data.toList = [t.data.toList] := by rw [fold_step most bl hm, if_neg (by rw [← Lib.size_eq]; exact hlt)]
      have hend := Lib.hid (show pre ++ [t] = (foldL most bl s.data.toList).map bs by
        rw [← hp.out.1, hfs]
        show pre ++ [t] = pre ++ [bs t.data.toList]
        rw [bs_of])
      have hpl : pre.length < s.size + 1 := by have := hp.out.2; omega
      obtain ⟨fn, tmps, assign, body, hy, hR⟩ := HY.out pre t wr hj.out hpl
      clear hfs hpl
      gi_wp2
      refine hR.mono ?_
      rintro e W3 ⟨rfl, hJ3, hk3⟩
      have HJ3 := Lib.hid hJ3
      clear hJ3 hk3 hR hy cs fs cn cb
      gi_wp2
      go_end0
      exact ⟨⟨_, rfl⟩, _, hend.out, HJ3.out⟩
end Go.Proofs.YtkedjlekeohpaaaGreatDoor.C

/- cuts.Fold: a line in parts of so many bytes, at blanks where it can be. -/
import Derived.Test.YtkedjlekeohpaaaGreatDoorCFold1
set_option linter.unusedVariables false
set_option linter.unusedSimpArgs false
namespace Go.Proofs.YtkedjlekeohpaaaGreatDoor.C
open Go.RowKit Go.Shelf Go.BigFrame Go.Proofs Go.Proofs.YtkedjlekeohpaaaGreatDoor.H Go.Proofs.YtkedjlekeohpaaaGreatDoor.K Go.Proofs.YtkedjlekeohpaaaGreatDoor.S

attribute [local go_sem] Oper.semAt_some
theorem collectF (n₀ B : Nat) (t e : TypeId) (k : List ByteArray → Nat) (f : List ByteArray → List Value) : Own (fun (pre : List ByteArray) W => ∃ v, Boxed W B t v ∧ W.ownsRow n₀ e 1 v (k pre) (f pre)) := by
  rintro s X Y row ⟨v, hv, hr⟩ hg hrow
  obtain ⟨v', a, b, _⟩ := holdsRow_own n₀ B t e 1 k f (fun _ _ => True) s X Y row ⟨v, hv, hr, trivial⟩ hg hrow
  exact ⟨v', a, b⟩
set_option maxHeartbeats 1000000 in
theorem partsF_in (F : Fence) (n : Nat) (h38 : F.fn 56) (hro : F.round = none) (s : ByteArray) (most : Int) (bl : Bool) (w : World) :
    CallsIn F n Tryz.prog 56 #[.string s, .int .i64 most, .bool bl] w fun e w' => e = .returned (.func (.func 89) #[] #[.pointer (some ⟨w.heap.size, 0, none⟩), .pointer (some ⟨w.heap.size + 1, 0, none⟩), .pointer (some ⟨w.heap.size + 1 + 1, 0, none⟩)]) ∧
      w' = ((w.alloc (.cells #[.string s] 9)).alloc (.cells #[.int .i64 most] 3)).alloc (.cells #[.bool bl] 4) := by
  refine callsIn_of_wp Tryz.func56 rfl h38 ?_ hro
  simp only [Tryz.ntmps56, List.size_toArray, List.length_cons, List.length_nil, Nat.reduceAdd, Nat.reduceSub, Array.replicate_succ, Array.replicate_zero, List.push_toArray, List.append_toArray, List.nil_append, List.cons_append]
  gi_wp2
  go_ret
  exact ⟨rfl, rfl⟩
theorem own_base_le {w : World} {base e size n : Nat} {v : Value} {xs : List Value} (h : w.ownsRow base e size v n xs) {b : Nat} (hb : b < base) : v.ownBlock = none ∨ v.ownBlock ≠ some b := by
  rcases h.2 with ⟨rfl, _⟩ | ⟨g, cap, cur, rfl, hg, _⟩
  · exact .inl rfl
  · refine .inr fun e => ?_
    obtain rfl : g = b := by simpa [Value.ownBlock] using e
    omega
set_option maxHeartbeats 4000000 in
set_option maxRecDepth 100000 in
theorem fold_in (F : Fence) (n : Nat) (h19 : F.fn 14) (h38 : F.fn 56) (h53 : F.fn 89) (h54 : F.fn 90) (hro : F.round = none) (hn : 4 ≤ n)
    (s : ByteArray) (hs : s.size ≤ 100000000) (most : Nat) (hm : 1 ≤ most) (hm2 : most ≤ 65536) (bl : Bool) (w : World) (hT : Lib.Utf8Tabs 2 3 w)
    (hLA : ∀ (t : ByteArray) (W : World), t.size ≤ 100000000 → Lib.Utf8Tabs 2 3 W → CallsIn F (n - 1 - 1) Tryz.prog 90 #[.string t, .string ⟨#[32, 9]⟩] W fun e W' => e = .returned (.int .i64 ((behL t.data.toList : Int) - 1)) ∧ Below W.heap.size W W') :
    CallsIn F n Tryz.prog 14 #[.string s, .int .i64 most, .bool bl] w fun e W' => ∃ v, e = .returned (.tuple #[v, .int .i64 0]) ∧ W'.ownsRow w.heap.size 9 1 v (foldL most bl s.data.toList).length (strs ((foldL most bl s.data.toList).map bs)) ∧ Below w.heap.size w W' := by
  have h1 : 1 ≤ n := by omega
  obtain ⟨i0, hi, hz0, hz1, hz2⟩ := info_parts infoS
  refine callsIn_of_wp_marks Tryz.func14 rfl h19 ?_ hro
  simp only [Tryz.ntmps14, List.size_toArray, List.length_cons, List.length_nil, Nat.reduceAdd, Nat.reduceSub, Array.replicate_succ, Array.replicate_zero, List.push_toArray, List.append_toArray, List.nil_append, List.cons_append]
  have hd1 : decide ((most : Int) < 1) = false := decide_eq_false (by omega)
  have hd2 : decide ((65536 : Int) < (most : Int)) = false := decide_eq_false (by omega)
  have HT := Lib.hid hT
  have HLA := Lib.hid hLA
  clear hT hLA
  gi_wp2_with (gi_at_call 56; refine (partsF_in F (n - 1) h38 hro _ _ _ _).mono ?_; rintro e w' ⟨rfl, rfl⟩)
  obtain ⟨W0, hW0⟩ : ∃ W0, ((((w.alloc (Obj.cells #[Value.slice none 0 0] 22)).alloc (Obj.cells #[Value.string s] 9)).alloc (Obj.cells #[Value.int IntKind.i64 (most : Int)] 3)).alloc (Obj.cells #[Value.bool bl] 4)) = W0 := ⟨_, rfl⟩
  have hzW : W0.heap.size = w.heap.size + 4 := by rw [← hW0]; simp
  have hB0 : Below w.heap.size w W0 := by rw [← hW0]; exact bal (bal (bal (bal (Below.refl _ _) _) _) _) _
  have bO : Boxed W0 w.heap.size 22 (.slice none 0 0) := by rw [← hW0]; exact ((Boxed.new w _ _).alloc _).alloc _ |>.alloc _
  have bS : Boxed W0 (w.heap.size + 1) 9 (.string s) := by
    rw [← hW0]
    have := Boxed.new (w.alloc (Obj.cells #[Value.slice none 0 0] 22)) 9 (Value.string s)
    rw [World.size_alloc] at this
    exact (this.alloc _).alloc _
  have bN : Boxed W0 (w.heap.size + 1 + 1) 3 (.int .i64 (most : Int)) := by
    rw [← hW0]
    have := Boxed.new ((w.alloc (Obj.cells #[Value.slice none 0 0] 22)).alloc (Obj.cells #[Value.string s] 9)) 3 (Value.int IntKind.i64 (most : Int))
    rw [World.size_alloc, World.size_alloc] at this
    exact this.alloc _
  have bB : Boxed W0 (w.heap.size + 1 + 1 + 1) 4 (.bool bl) := by
    rw [← hW0]
    have := Boxed.new (((w.alloc (Obj.cells #[Value.slice none 0 0] 22)).alloc (Obj.cells #[Value.string s] 9)).alloc (Obj.cells #[Value.int IntKind.i64 (most : Int)] 3)) 4 (Value.bool bl)
    rw [World.size_alloc, World.size_alloc, World.size_alloc] at this
    exact this
  rw [hW0]
  have hg1 : 2 < w.heap.size := World.block_lt_of_cell? w _ (HT.out.1 0 (by decide))
  have hg2 : 3 < w.heap.size := World.block_lt_of_cell? w _ (HT.out.2 0 (by decide)).1
  have HT0 := Lib.hid (Utf8Tabs_below HT.out hB0)
  clear hW0
  refine wpIn_rangeFunc_box hro h1 (gf := 89) (lb := #[.pointer (some ⟨w.heap.size + 1, 0, none⟩), .pointer (some ⟨w.heap.size + 1 + 1, 0, none⟩), .pointer (some ⟨w.heap.size + 1 + 1 + 1, 0, none⟩)]) rfl h53 (enters_of Tryz.func89 (by kernel_rfl) rfl) (Bs := w.heap.size + 1) (by omega)
    (partsF_seq F (n - 1) h53 h54 hro (by omega) W0.heap.size w.heap.size (w.heap.size + 1) (w.heap.size + 1 + 1) (w.heap.size + 1 + 1 + 1) (by omega) (by omega) (by omega) (by omega) (by omega) (by omega) (by omega) (by omega) (by omega) (by omega) s hs most hm hm2 bl W0 rfl bS bN bB HT0.out HLA.out)
    KpM.trans (fun W l o' hl => ⟨fun k hk _ => World.putObj_heap_other (by omega), by simp⟩) (fun _ => rfl)
    (fun pre W => (∃ v, Boxed W w.heap.size 22 v ∧ W.ownsRow W0.heap.size 9 1 v pre.length (strs pre)) ∧ (Below w.heap.size w W ∧ W0.heap.size ≤ W.heap.size))
    ?hI ?hIs ⟨⟨_, bO, World.ownsRow_nil _ _ _ _⟩, hB0, Nat.le_refl _⟩
    (fun x => { tmps := #[.string s, .int .i64 most, .bool bl, undef, undef, undef, .slice none 0 0, .int .i64 0, .pointer (some ⟨w.heap.size, 0, none⟩), .string x, .int .i64 most, .bool false, .bool false, .int .i64 most, .bool false, .bool false, .string s, .int .i64 most, .bool bl, .func (.func 89) #[] #[.pointer (some ⟨w.heap.size + 1, 0, none⟩), .pointer (some ⟨w.heap.size + 1 + 1, 0, none⟩), .pointer (some ⟨w.heap.size + 1 + 1 + 1, 0, none⟩)], .string x, undef, undef, undef, undef, undef], defers := [] }) ?assign ?body ?done
  case hI =>
    refine OwnFrom.and (Own.from (collectF W0.heap.size w.heap.size 22 9 (fun pre => pre.length) strs) _) (OwnFrom.and (ownFrom_below (Nat.le_refl _) (by omega)) ?_)
    exact fun q A B row hq hg _ => Nat.le_trans hq hg.size
  case hIs =>
    rintro pre A v ⟨⟨u, hu, hr⟩, hb, hz⟩
    refine ⟨⟨u, hu.kept (grownBy_setCell' A _ v) (by intro e; injection e with e; omega), hr.kept (grownBy_setCell' A (w.heap.size + 1) v) ?_⟩, hb.setCell (p := ⟨w.heap.size + 1, 0, none⟩) (by show w.heap.size ≤ w.heap.size + 1; omega) v, by simpa [World.setCell] using hz⟩
    exact own_base_le (b := w.heap.size + 1) hr (by omega)
  case assign =>
    intro l x W K hK
    gi_wp2
    exact hK
  case body =>
    rintro l pre x W ⟨⟨v, hv, hrow⟩, hB, hz⟩ hlt
    have hc := hv.cell
    gi_wp2_with (gi_at_builtin; refine wpListIn_append_own _ rfl _ _ 22 rfl W0.heap.size 9 i0 (.string ⟨#[]⟩) 1 16 Tryz.underlying22 hi hz0 hz1 hz2 rfl (by decide) _ _ _ rfl (hrow.alloc _) ⟨W.heap.size, 0, none⟩ 1 1 [.string x] rfl rfl (cell_one_new _ _ _) (by simp [Value.oneCell']) (by unfold maxLen; omega) (by omega) (by simp; omega) ?_; intro v' w1 hown' hgrow _; obtain ⟨g', cap', rfl⟩ := ownsRow_succ hown'; obtain ⟨hv1, hv2, hr2, hk2, hb2, hk3⟩ := box_app (n₀ := w.heap.size) hv (by decide) hrow (by omega) (Nat.le_refl _) (by omega) hown' hgrow; have hc1 := hv1.cell; have hf1 := hv1.frozen)
    exact ⟨hk2.from _, ⟨fun k h1 h2 => hk3 k h1 h2 (by omega), hk2.size⟩, ⟨_, hv2, by simpa [strs] using hr2⟩, hB.trans hb2, Nat.le_trans hz hb2.size⟩
  case done =>
    rintro D ys W hD rfl ⟨⟨v, hv, hrow⟩, hB, hz⟩ hK
    have hc := hv.cell
    gi_wp2
    refine ⟨by simp, .inl ⟨_, _, rfl, run_takeDeferred hK, ?_⟩⟩
    refine ⟨_, results_tmp2 rfl _ _ _, v, rfl, ?_, hB.trans (belowK_b (w := w) (Nat.le_refl _) W D _ _ (by omega) hK rfl rfl)⟩
    have := ownsRow_putObj hrow (Obj.deferred none) hK rfl
    rw [List.length_map] at this
    exact Go.Proofs.YtkedjlekeohpaaaGreatDoorW.PrintWords.own_weaken this (by omega)
/-- What cuts.Fold tells. -/
def foldE (n : Int) (bl : Bool) (t : List UInt8) : List (List UInt8) × Nat := if n < 1 then ([], 1) else if n > 65536 then ([], 1) else (foldL n.toNat bl t, 0)
set_option maxHeartbeats 1000000 in
set_option maxRecDepth 100000 in
theorem fold_calls (s : ByteArray) (hs : s.size ≤ 100000000) (n : Int) (bl : Bool) (w : World) (hT : Lib.Utf8Tabs 2 3 w) :
    Calls Tryz.prog 14 #[.string s, .int .i64 n, .bool bl] w fun e w' => ∃ v, e = .returned (.tuple #[v, .int .i64 ((foldE n bl s.data.toList).2 : Int)]) ∧ w'.ownsRow w.heap.size 9 1 v (foldE n bl s.data.toList).1.length (strs ((foldE n bl s.data.toList).1.map bs)) ∧ Below w.heap.size w w' := by
  by_cases h1 : n < 1
  · have he : foldE n bl s.data.toList = ([], 1) := by unfold foldE; rw [if_pos h1]
    rw [he]
    go_enter Tryz.func14, Tryz.ntmps14
    go_wp2
    go_ret2
    exact ⟨_, rfl, World.ownsRow_nil _ _ _ _, Below.refl _ _⟩
  · by_cases h2 : n > 65536
    · have he : foldE n bl s.data.toList = ([], 1) := by unfold foldE; rw [if_neg h1, if_pos h2]
      rw [he]
      have hd : decide (n < 1) = false := by simpa using h1
      go_enter Tryz.func14, Tryz.ntmps14
      go_wp2
      go_ret2
      exact ⟨_, rfl, World.ownsRow_nil _ _ _ _, Below.refl _ _⟩
    · obtain ⟨N, rfl⟩ := Int.eq_ofNat_of_zero_le (show 0 ≤ n by omega)
      have he : foldE (N : Int) bl s.data.toList = (foldL N bl s.data.toList, 0) := by unfold foldE; rw [if_neg h1, if_neg h2, Int.toNat_natCast]
      rw [he]
      exact callsIn_wide.1 (fold_in Fence.wide 10 trivial trivial trivial trivial rfl (by omega) s hs N (by omega) (by omega) bl w hT fun t W ht hu => callsIn_wide.2 (lastAny_calls t W ht hu))
end Go.Proofs.YtkedjlekeohpaaaGreatDoor.C

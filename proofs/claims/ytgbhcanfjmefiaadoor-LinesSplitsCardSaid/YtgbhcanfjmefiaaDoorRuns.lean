/- (parter).runs: the parts that are not empty. -/
import Derived.Test.YtgbhcanfjmefiaaDoorSplit
set_option linter.unusedVariables false
set_option linter.unusedSimpArgs false
namespace Go.Proofs.YtgbhcanfjmefiaaDoor.S
open Go.RowKit Go.Shelf Go.BigFrame Go.Proofs.YtgbhcanfjmefiaaDoor.H

attribute [local go_sem] Oper.semAt_some

theorem results_box {P : Program} {fn : Func} {p : Tmp} {ty : TypeId} (h : fn.results = #[.cell p ty]) {tmps : Array Value} {w : World} {B : Nat} {v : Value}
    (ha : (isAgg ty).run P w = .ok false w) (hp : tmps.getD p undef = .pointer (some ⟨B, 0, none⟩)) (hg : w.cell? ⟨B, 0, none⟩ = some v) :
    (results fn tmps).run P w = .ok v w := by
  have hp' : tmps[p]?.getD undef = .pointer (some ⟨B, 0, none⟩) := by simpa using hp
  simp only [results, h]
  simp [hp', asAddr, loadVar, Sem.run_bind, ha, Result.andThen, go_sem, hg]
theorem agg22 (w : World) : (isAgg 23).run Tryd.prog w = .ok false w := run_isAgg_plain Tryd.underlying23 rfl w
theorem boxed_putObj {W : World} {B : Nat} {t : TypeId} {v : Value} (h : Boxed W B t v) {l : Nat} {o : Obj} (o' : Obj) (hl : W.heap[l]? = some o) (ho : o.isCells = false) : Boxed (W.putObj l o') B t v := by
  have : l ≠ B := by
    rintro rfl
    have h' : W.heap[l]? = _ := h
    rw [h'] at hl; cases hl; cases ho
  exact (World.putObj_heap_other (Ne.symm this)).trans h
theorem below_set {n₀ B : Nat} (W : World) (v : Value) (hB : n₀ ≤ B) : Below n₀ W (W.setCell ⟨B, 0, none⟩ v) := (Below.refl n₀ W).setCell (p := ⟨B, 0, none⟩) hB v

theorem own_slice {w : World} {base e size n : Nat} {v : Value} {xs : List Value} (h : w.ownsRow base e size v n xs) : ∃ a m c, v = .slice a m c := by
  rcases h.2 with ⟨rfl, _⟩ | ⟨g, cap, cur, rfl, _⟩
  · exact ⟨_, _, _, rfl⟩
  · exact ⟨_, _, _, rfl⟩

def runsOf (p : UInt8 → Bool) (s : ByteArray) : List ByteArray := (partsOf p s).filter (fun x => !(x.size == 0))
def runsL (l : List ByteArray) : List ByteArray := l.filter (fun x => !(x.size == 0))
theorem runsL_snoc (l : List ByteArray) (x : ByteArray) : runsL (l ++ [x]) = if x.size = 0 then runsL l else runsL l ++ [x] := by
  unfold runsL
  rw [List.filter_append]
  by_cases h : x.size = 0 <;> simp [h]
theorem runsL_len (l : List ByteArray) : (runsL l).length ≤ l.length := List.length_filter_le _ _

set_option maxHeartbeats 4000000 in
set_option maxRecDepth 100000 in
theorem runs_in (F : Fence) (n : Nat) (h38 : F.fn 16) (h42 : F.fn 14) (h50 : F.fn 57) (hro : F.round = none) (hn : 4 ≤ n)
    (fv : Value) (hfv : fv.oneCell' = true) (p : UInt8 → Bool) (s : ByteArray) (hs : s.size ≤ 8796093022000) (w : World)
    (hseq : ∀ (W : World) (Bs Bp : Nat), W.cell? ⟨Bs, 0, none⟩ = some (.string s) → W.cell? ⟨Bp, 0, none⟩ = some fv →
      SeqStopsK F (n - 1) Tryd.prog 57 #[.pointer (some ⟨Bs, 0, none⟩), .pointer (some ⟨Bp, 0, none⟩)] (fun x : ByteArray => #[Value.string x]) (Keep3 Bs Bp Bp) (fun ys => ys = partsOf p s) (fun pre => pre <+: partsOf p s) (s.size + 1) W) :
    CallsIn F n Tryd.prog 16 #[.agg #[fv], .string s] w fun e W' => ∃ v, e = .returned v ∧ W'.ownsRow w.heap.size 9 1 v (runsOf p s).length (strs (runsOf p s)) ∧ Below w.heap.size w W' := by
  have h1 : 1 ≤ n := by omega
  obtain ⟨i0, hi, hz0, hz1, hz2⟩ := info_parts infoS
  refine callsIn_of_wp_marks Tryd.func16 rfl h38 ?_ hro
  simp only [Tryd.ntmps16, List.size_toArray, List.length_cons, List.length_nil, Nat.reduceAdd, Nat.reduceSub, Array.replicate_succ, Array.replicate_zero, List.push_toArray, List.append_toArray, List.nil_append, List.cons_append]
  gi_wp2_with (gi_at_call 14; refine (parts_in F (n - 1) h42 hro _ _ _).mono ?_; rintro e w' ⟨rfl, rfl⟩)
  obtain ⟨W0, hW0⟩ : ∃ W0, ((((w.alloc (Obj.cells #[fv] 51)).alloc (Obj.cells #[Value.slice none 0 0] 23)).alloc (Obj.cells #[fv] 51)).alloc (Obj.cells #[Value.string s] 9)) = W0 := ⟨_, rfl⟩
  have hzW : W0.heap.size = w.heap.size + 4 := by rw [← hW0]; simp
  have hB0 : Below w.heap.size w W0 := by rw [← hW0]; exact bal (bal (bal (bal (Below.refl _ _) _) _) _) _
  have bO : Boxed W0 (w.heap.size + 1) 23 (.slice none 0 0) := by
    rw [← hW0]
    have := Boxed.new (w.alloc (Obj.cells #[fv] 51)) 23 (Value.slice none 0 0)
    rw [World.size_alloc] at this
    exact ((this.alloc _).alloc _)
  have cP : W0.cell? ⟨w.heap.size + 1 + 1, 0, none⟩ = some fv := by
    rw [← hW0]
    have := Boxed.new ((w.alloc (Obj.cells #[fv] 51)).alloc (Obj.cells #[Value.slice none 0 0] 23)) 51 fv
    rw [World.size_alloc, World.size_alloc] at this
    exact (this.alloc _).cell
  have cS : W0.cell? ⟨w.heap.size + 1 + 1 + 1, 0, none⟩ = some (.string s) := by
    rw [← hW0]
    have := Boxed.new (((w.alloc (Obj.cells #[fv] 51)).alloc (Obj.cells #[Value.slice none 0 0] 23)).alloc (Obj.cells #[fv] 51)) 9 (Value.string s)
    rw [World.size_alloc, World.size_alloc, World.size_alloc] at this
    exact this.cell
  rw [hW0]
  have hsq := hseq W0 _ _ cS cP
  clear hseq
  refine wpIn_rangeFunc_ownG hro h1 (gf := 57) (lb := #[.pointer (some ⟨w.heap.size + 1 + 1 + 1, 0, none⟩), .pointer (some ⟨w.heap.size + 1 + 1, 0, none⟩)]) rfl h50 (enters_of Tryd.func57 (by kernel_rfl) rfl)
    hsq Keep3.trans (fun W l o o' hl _ _ _ => keep3_putObj (N := W0.heap.size) (by omega) (by omega) (by omega) W l o' hl) (Below.refl _ _) (fun _ => rfl)
    (fun pre W => (∃ v, Boxed W (w.heap.size + 1) 23 v ∧ W.ownsRow (w.heap.size + 4) 9 1 v (runsL pre).length (strs (runsL pre))) ∧ (Below w.heap.size w W ∧ w.heap.size + 4 ≤ W.heap.size))
    (fun _ _ _ => False)
    ?hI (fun _ _ _ _ _ hs _ _ => hs) ⟨⟨_, bO, own_nil' _ _ _⟩, hB0, by omega⟩
    (fun x => { tmps := #[.agg #[fv], .string s, .pointer (some ⟨w.heap.size, 0, none⟩), undef, .pointer (some ⟨w.heap.size + 1, 0, none⟩), .string x, .agg #[fv], .string s, .func (.func 57) #[] #[.pointer (some ⟨w.heap.size + 1 + 1 + 1, 0, none⟩), .pointer (some ⟨w.heap.size + 1 + 1, 0, none⟩)], .string x, undef, undef, undef, undef, undef, undef, undef], defers := [] }) ?assign ?body ?done ?stop
  case hI =>
    refine OwnFrom.and (Own.from (collect_kept (w.heap.size + 4) (w.heap.size + 1) 23 9 (fun pre => (runsL pre).length) (fun pre => strs (runsL pre))) _) (OwnFrom.and (ownFrom_below (Nat.le_refl _) (by omega)) ?_)
    exact fun q A B row hq hg _ => Nat.le_trans hq hg.size
  case assign =>
    intro l x W K hK
    gi_wp2
    exact hK
  case body =>
    rintro l pre x W ⟨⟨v, hv, hrow⟩, hB, hz⟩ hlt
    have hc := hv.cell
    have hrl := runsL_len pre
    by_cases hx : x.size = 0
    · obtain rfl : x = ⟨#[]⟩ := by
        cases x with | mk d => exact congrArg ByteArray.mk (Array.eq_empty_of_size_eq_zero hx)
      have hsn : runsL (pre ++ [⟨#[]⟩]) = runsL pre := by rw [runsL_snoc, if_pos hx]
      gi_wp2
      exact ⟨KeepsFrom.refl _ _, ⟨rfl, rfl, rfl⟩, ⟨_, hv, by rw [hsn]; exact hrow⟩, hB, hz⟩
    · have hl : x.toList.isEmpty = false := by rw [toList_isEmpty]; simpa using hx
      have hsn := Lib.hid (show runsL (pre ++ [x]) = runsL pre ++ [x] by rw [runsL_snoc, if_neg hx])
      have hle : (runsL pre).length ≤ 8796093022001 := by omega
      clear hx hlt hrl
      gi_wp2_with (gi_at_builtin; refine wpListIn_append_own _ rfl _ _ 23 rfl (w.heap.size + 4) 9 i0 (.string ⟨#[]⟩) 1 16 Tryd.underlying23 hi hz0 hz1 hz2 rfl (by decide) _ _ _ rfl (hrow.alloc _) ⟨W.heap.size, 0, none⟩ 1 1 [.string x] rfl rfl (cell_one_new _ _ _) (by simp [Value.oneCell']) (by unfold maxLen; omega) (by omega) (by simp; omega) ?_; intro v' w1 hown' hgrow _; obtain ⟨g', cap', rfl⟩ := ownsRow_succ hown'; obtain ⟨hv1, hv2, hr2, hk2, hb2, hk3⟩ := boxed_app (n₀ := w.heap.size) hv (by decide) hrow (by omega) (by omega) (by omega) hown' hgrow; have hc1 := hv1.cell; have hf1 := hv1.frozen)
      exact ⟨hk2.from _, ⟨hk3 _ (by omega) (by omega) (by omega), hk3 _ (by omega) (by omega) (by omega), hk3 _ (by omega) (by omega) (by omega)⟩, ⟨_, hv2, by rw [hsn.out]; simpa [strs] using hr2⟩, hB.trans hb2, Nat.le_trans hz hb2.size⟩
  case done =>
    rintro D ys W hD rfl ⟨⟨v, hv, hrow⟩, hB, hz⟩ hK
    obtain ⟨sa, sm, sc, rfl⟩ := own_slice hrow
    have hv2 := hv.set (Value.slice sa sm sc)
    have hr2 : (W.setCell ⟨w.heap.size + 1, 0, none⟩ (Value.slice sa sm sc)).ownsRow (w.heap.size + 4) 9 1 (Value.slice sa sm sc) (runsL (partsOf p s)).length (strs (runsL (partsOf p s))) := hrow.kept (grownBy_setCell' W (w.heap.size + 1) _) (.inr (hv.not_row (by decide) hrow).symm)
    have hK2 : (W.setCell ⟨w.heap.size + 1, 0, none⟩ (Value.slice sa sm sc)).heap[D]? = some (Obj.deferred (some [])) := by rw [Below.heap_setCell W ⟨w.heap.size + 1, 0, none⟩ _ D (by simp; omega)]; exact hK
    have hB2 := hB.trans (below_set (n₀ := w.heap.size) W (B := w.heap.size + 1) (Value.slice sa sm sc) (by omega))
    have hc := hv.cell
    have hfz := hv.frozen
    have hX2 := Lib.hid (And.intro hv2 (And.intro hr2 (And.intro hK2 hB2)))
    clear hv2 hr2 hK2 hB2 hv hrow hB
    gi_wp2
    obtain ⟨hv2, hr2, hK2, hB2⟩ := hX2.out
    refine ⟨by simp, .inl ⟨_, _, rfl, run_takeDeferred hK2, ?_⟩⟩
    exact ⟨_, results_box rfl (agg22 _) rfl (boxed_putObj hv2 _ hK2 rfl).cell, _, rfl, own_weaken' (ownsRow_putObj hr2 _ hK2 rfl) (by omega), hB2.trans (belowK_b (w := w) (Nat.le_refl _) _ D _ _ (by omega) hK2 rfl rfl)⟩
  case stop =>
    rintro D c pre W _ _ h _
    exact h.elim
end Go.Proofs.YtgbhcanfjmefiaaDoor.S

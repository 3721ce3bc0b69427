/- lines.Fields. -/
import Derived.Test.YtgbhcanfjmefiaaDoorCount
set_option linter.unusedVariables false
set_option linter.unusedSimpArgs false
namespace Go.Proofs.YtgbhcanfjmefiaaDoor.S
open Go.RowKit Go.Shelf Go.BigFrame Go.Proofs.YtgbhcanfjmefiaaDoor.H

attribute [local go_sem] Oper.semAt_some

def fieldsOf (s : ByteArray) (c : Int) : List ByteArray := if c = 0 then runsOf (fun b => blankI (b.toNat : Int)) s else partsOf (fun b => (b.toNat : Int) == c) s

set_option maxHeartbeats 4000000 in
set_option maxRecDepth 100000 in
theorem fields_in (F : Fence) (n : Nat) (h29 : F.fn 6) (h38 : F.fn 16) (h40 : F.fn 15) (h41 : F.fn 13) (h42 : F.fn 14) (h49 : F.fn 56) (h50 : F.fn 57) (hro : F.round = none) (hn : 6 ≤ n)
    (s : ByteArray) (c : Int) (hs : s.size ≤ 8796093022000) (w : World) :
    CallsIn F n Tryd.prog 6 #[.string s, .int .u8 c] w fun e W' => ∃ v, e = .returned v ∧ W'.ownsRow w.heap.size 9 1 v (fieldsOf s c).length (strs (fieldsOf s c)) ∧ Below w.heap.size w W' := by
  have h1 : 1 ≤ n := by omega
  obtain ⟨i0, hi, hz0, hz1, hz2⟩ := info_parts infoS
  refine callsIn_of_wp_marks Tryd.func6 rfl h29 ?_ hro
  simp only [Tryd.ntmps6, List.size_toArray, List.length_cons, List.length_nil, Nat.reduceAdd, Nat.reduceSub, Array.replicate_succ, Array.replicate_zero, List.push_toArray, List.append_toArray, List.nil_append, List.cons_append]
  by_cases he : c = 0
  · subst he
    have hsp : fieldsOf s 0 = runsOf (fun b => blankI (b.toNat : Int)) s := by unfold fieldsOf; rw [if_pos rfl]
    rw [hsp]
    clear hsp
    have bO := Boxed.new w 23 (.slice none 0 0)
    gi_wp2_with (gi_at_call 16; refine (runs_in F (n - 1) h38 h42 h50 hro (by omega) _ rfl (fun b => blankI (b.toNat : Int)) s hs _ (fun W Bs Bp cs cp => parts_stops_blank F (n - 1 - 1) h50 h40 hro (by omega) Bs Bp s (by omega) W cs cp)).mono ?_; rintro e w1 ⟨v, rfl, hown, hb1⟩; obtain ⟨A, cap, rfl, -, -, -, -⟩ := own_shape hown; have hX := Lib.hid (And.intro hown hb1); have hv1 : Boxed w1 w.heap.size 23 (.slice none 0 0) := (hb1.block w.heap.size (by simp)).trans bO; have hc1 := hv1.cell; have hf1 := hv1.frozen; clear hown hb1)
    obtain ⟨hown, hb1⟩ := hX.out
    refine ⟨_, results_box rfl (agg22 _) rfl (hv1.set _).cell, _, rfl, own_weaken' (hown.kept (grownBy_setCell' w1 w.heap.size _) (.inr (hv1.not_row (by decide) hown).symm)) (by simp), ?_⟩
    exact (bth (bal (Below.refl _ _) _) hb1).trans (below_set (n₀ := w.heap.size) w1 (B := w.heap.size) _ (Nat.le_refl _))
  · have hsp : fieldsOf s c = partsOf (fun b => (b.toNat : Int) == c) s := by unfold fieldsOf; rw [if_neg he]
    rw [hsp]
    clear hsp
    gi_wp2_with (first | (gi_at_call 13; refine (by_in F (n - 1) h41 hro _ _).mono ?_; rintro e w' ⟨rfl, rfl⟩) | (gi_at_call 14; refine (parts_in F (n - 1) h42 hro _ _ _).mono ?_; rintro e w' ⟨rfl, rfl⟩))
    obtain ⟨W0, hW0⟩ : ∃ W0, (((((w.alloc (Obj.cells #[Value.slice none 0 0] 23)).alloc (Obj.cells #[Value.int IntKind.u8 c] 5)).alloc
              (Obj.cells #[Value.func (Fn.func 56) #[] #[Value.pointer (some { block := w.heap.size + 1, off := 0 })]] 51)).alloc
          (Obj.cells #[Value.func (Fn.func 56) #[] #[Value.pointer (some { block := w.heap.size + 1, off := 0 })]] 51)).alloc
      (Obj.cells #[Value.string s] 9)) = W0 := ⟨_, rfl⟩
    have hzW : W0.heap.size = w.heap.size + 5 := by rw [← hW0]; simp
    have hB0 : Below w.heap.size w W0 := by rw [← hW0]; exact bal (bal (bal (bal (bal (Below.refl _ _) _) _) _) _) _
    have bO : Boxed W0 w.heap.size 23 (.slice none 0 0) := by rw [← hW0]; exact (((((Boxed.new w 23 (.slice none 0 0)).alloc _).alloc _).alloc _).alloc _)
    have cC : W0.cell? ⟨w.heap.size + 1, 0, none⟩ = some (.int .u8 c) := by
      rw [← hW0]
      have := Boxed.new (w.alloc (Obj.cells #[Value.slice none 0 0] 23)) 5 (Value.int IntKind.u8 c)
      rw [World.size_alloc] at this
      exact (((this.alloc _).alloc _).alloc _).cell
    have cP : W0.cell? ⟨w.heap.size + 1 + 1 + 1, 0, none⟩ = some (.func (.func 56) #[] #[.pointer (some ⟨w.heap.size + 1, 0, none⟩)]) := by
      rw [← hW0]
      have := Boxed.new (((w.alloc (Obj.cells #[Value.slice none 0 0] 23)).alloc (Obj.cells #[Value.int IntKind.u8 c] 5)).alloc
              (Obj.cells #[Value.func (Fn.func 56) #[] #[Value.pointer (some { block := w.heap.size + 1, off := 0 })]] 51)) 51 (Value.func (Fn.func 56) #[] #[Value.pointer (some { block := w.heap.size + 1, off := 0 })])
      rw [World.size_alloc, World.size_alloc, World.size_alloc] at this
      exact (this.alloc _).cell
    have cS : W0.cell? ⟨w.heap.size + 1 + 1 + 1 + 1, 0, none⟩ = some (.string s) := by
      rw [← hW0]
      have := Boxed.new ((((w.alloc (Obj.cells #[Value.slice none 0 0] 23)).alloc (Obj.cells #[Value.int IntKind.u8 c] 5)).alloc
              (Obj.cells #[Value.func (Fn.func 56) #[] #[Value.pointer (some { block := w.heap.size + 1, off := 0 })]] 51)).alloc
          (Obj.cells #[Value.func (Fn.func 56) #[] #[Value.pointer (some { block := w.heap.size + 1, off := 0 })]] 51)) 9 (Value.string s)
      rw [World.size_alloc, World.size_alloc, World.size_alloc, World.size_alloc] at this
      exact this.cell
    rw [hW0]
    refine wpIn_rangeFunc_ownG hro h1 (gf := 57) (lb := #[.pointer (some ⟨w.heap.size + 1 + 1 + 1 + 1, 0, none⟩), .pointer (some ⟨w.heap.size + 1 + 1 + 1, 0, none⟩)]) rfl h50 (enters_of Tryd.func57 (by kernel_rfl) rfl)
      (parts_stops F (n - 1) h50 h49 hro (by omega) (w.heap.size + 1 + 1 + 1 + 1) (w.heap.size + 1 + 1 + 1) (w.heap.size + 1) s (by omega) c W0 cS cP cC) Keep3.trans (fun W l o o' hl _ _ _ => keep3_putObj (N := W0.heap.size) (by omega) (by omega) (by omega) W l o' hl) (Below.refl _ _) (fun _ => rfl)
      (fun pre W => (∃ v, Boxed W w.heap.size 23 v ∧ W.ownsRow (w.heap.size + 5) 9 1 v pre.length (strs pre)) ∧ (Below w.heap.size w W ∧ w.heap.size + 5 ≤ W.heap.size))
      (fun _ _ _ => False)
      ?hI (fun _ _ _ _ _ hs _ _ => hs) ⟨⟨_, bO, own_nil' _ _ _⟩, hB0, by omega⟩
      (fun x => { tmps := #[.string s, .int .u8 c, undef, undef, .pointer (some ⟨w.heap.size, 0, none⟩), .string x, .int .u8 c, .bool false, undef, undef, undef, .int .u8 c, .agg #[.func (.func 56) #[] #[.pointer (some ⟨w.heap.size + 1, 0, none⟩)]], .string s, .func (.func 57) #[] #[.pointer (some ⟨w.heap.size + 1 + 1 + 1 + 1, 0, none⟩), .pointer (some ⟨w.heap.size + 1 + 1 + 1, 0, none⟩)], .string x, undef, undef, undef, undef, undef], defers := [] }) ?assign ?body ?done ?stop
    case hI =>
      refine OwnFrom.and (Own.from (collect_kept (w.heap.size + 5) w.heap.size 23 9 (fun pre => pre.length) strs) _) (OwnFrom.and (ownFrom_below (Nat.le_refl _) (by omega)) ?_)
      exact fun q A B row hq hg _ => Nat.le_trans hq hg.size
    case assign =>
      intro l x W K hK
      gi_wp2
      exact hK
    case body =>
      rintro l pre x W ⟨⟨v, hv, hrow⟩, hB, hz⟩ hlt
      have hc := hv.cell
      gi_wp2_with (gi_at_builtin; refine wpListIn_append_own _ rfl _ _ 23 rfl (w.heap.size + 5) 9 i0 (.string ⟨#[]⟩) 1 16 Tryd.underlying23 hi hz0 hz1 hz2 rfl (by decide) _ _ _ rfl (hrow.alloc _) ⟨W.heap.size, 0, none⟩ 1 1 [.string x] rfl rfl (cell_one_new _ _ _) (by simp [Value.oneCell']) (by unfold maxLen; omega) (by omega) (by simp; omega) ?_; intro v' w1 hown' hgrow _; obtain ⟨g', cap', rfl⟩ := ownsRow_succ hown'; obtain ⟨hv1, hv2, hr2, hk2, hb2, hk3⟩ := boxed_app (n₀ := w.heap.size) hv (by decide) hrow (by omega) (Nat.le_refl _) (by omega) hown' hgrow; have hc1 := hv1.cell; have hf1 := hv1.frozen)
      exact ⟨hk2.from _, ⟨hk3 _ (by omega) (by omega) (by omega), hk3 _ (by omega) (by omega) (by omega), hk3 _ (by omega) (by omega) (by omega)⟩, ⟨_, hv2, by simpa [strs] using hr2⟩, hB.trans hb2, Nat.le_trans hz hb2.size⟩
    case done =>
      rintro D ys W hD rfl ⟨⟨v, hv, hrow⟩, hB, hz⟩ hK
      obtain ⟨sa, sm, sc, rfl⟩ := own_slice hrow
      have hv2 := hv.set (Value.slice sa sm sc)
      have hr2 : (W.setCell ⟨w.heap.size, 0, none⟩ (Value.slice sa sm sc)).ownsRow (w.heap.size + 5) 9 1 (Value.slice sa sm sc) (partsOf (fun b => (b.toNat : Int) == c) s).length (strs (partsOf (fun b => (b.toNat : Int) == c) s)) := hrow.kept (grownBy_setCell' W w.heap.size _) (.inr (hv.not_row (by decide) hrow).symm)
      have hK2 : (W.setCell ⟨w.heap.size, 0, none⟩ (Value.slice sa sm sc)).heap[D]? = some (Obj.deferred (some [])) := by rw [Below.heap_setCell W ⟨w.heap.size, 0, none⟩ _ D (by simp; omega)]; exact hK
      have hB2 := hB.trans (below_set (n₀ := w.heap.size) W (B := w.heap.size) (Value.slice sa sm sc) (Nat.le_refl _))
      have hc := hv.cell
      have hfz := hv.frozen
      have hX2 := Lib.hid (And.intro hv2 (And.intro hr2 (And.intro hK2 hB2)))
      clear hv2 hr2 hK2 hB2 hv hrow hB
      gi_wp2
      obtain ⟨hv2, hr2, hK2, hB2⟩ := hX2.out
      refine ⟨by simp, .inl ⟨_, _, rfl, run_takeDeferred hK2, ?_⟩⟩
      exact ⟨_, results_box rfl (agg22 _) rfl (boxed_putObj hv2 _ hK2 rfl).cell, _, rfl, own_weaken' (ownsRow_putObj hr2 _ hK2 rfl) (by omega), hB2.trans (belowK_b (w := w) (Nat.le_refl _) _ D _ _ (by omega) hK2 rfl rfl)⟩
    case stop =>
      rintro D c pre W _ _ h _
      exact h.elim
end Go.Proofs.YtgbhcanfjmefiaaDoor.S

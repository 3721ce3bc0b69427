-- Written by a program (forkprint, a turn of the kit's print) out of the translation.
import Derived.Test.YtbndinaiclkajaaDoorQx0
import Derived.Test.YtbndinaiclkajaaDoorQx22
namespace Go.Proofs.YtbndinaiclkajaaDoor.Q
open Go.RowKit Go.Proofs.YtbndinaiclkajaaDoorW.PrintWords Go.Proofs.YtbndinaiclkajaaDoorW.PrintLast Go.Proofs.YtbndinaiclkajaaDoorW.PrintMore
attribute [local go_sem] max2_int min2_int max_two min_two max_three min_three max_four min_four   -- for this text's walks alone
set_option linter.unusedVariables false
set_option linter.unusedSimpArgs false

/-! ### toolchestlaw05_told: function 22 -/
mutual
def toolchestlaw05_told.l0 : Nat → Int → ByteArray → Int → Int → Int → Int → Int → Bool → Option (ByteArray)
  | 0, _, _, _, _, _, _, _, _ => none
  | k + 1, x0, x5, x6, x240000, x240001, x240002, x240003, x240004 => if x6 < (wrap64 (Int.tmod x240000 30)) then (if 1 + x5.size ≤ 9223372036854775807 then (toolchestlaw05_told.l0 k x0 ((⟨#[48]⟩ : ByteArray) ++ x5) (wrap64 (x6 + 1)) x240000 x240001 x240002 x240003 x240004) else (none)) else (if x0 < 0 then (if 1 + x5.size ≤ 9223372036854775807 then (toolchestlaw05_told.j1 k ((⟨#[45]⟩ : ByteArray) ++ x5) x240000 x240001 x240002 x240003 x240004) else (none)) else (toolchestlaw05_told.j1 k x5 x240000 x240001 x240002 x240003 x240004))
def toolchestlaw05_told.j1 : Nat → ByteArray → Int → Int → Int → Int → Bool → Option (ByteArray)
  | 0, _, _, _, _, _, _ => none
  | k + 1, x5, x240000, x240001, x240002, x240003, x240004 => toolchestlaw05_told.l1 k x5 0 x240000 x240001 x240002 x240003 x240004
def toolchestlaw05_told.l1 : Nat → ByteArray → Int → Int → Int → Int → Int → Bool → Option (ByteArray)
  | 0, _, _, _, _, _, _, _ => none
  | k + 1, x5, x7, x240000, x240001, x240002, x240003, x240004 => if x7 < (wrap64 (Int.tmod x240002 5)) then (if 1 + x5.size ≤ 9223372036854775807 then (toolchestlaw05_told.l1 k ((⟨#[32]⟩ : ByteArray) ++ x5) (wrap64 (x7 + 1)) x240000 x240001 x240002 x240003 x240004) else (none)) else (if x240004 = true then (if x5.size + 1 ≤ 9223372036854775807 then (toolchestlaw05_told.l2 k (x5 ++ (⟨#[46]⟩ : ByteArray)) 0 x240000 x240001 x240002 x240003 x240004) else (none)) else ((some (([(⟨#[]⟩ : ByteArray), (⟨#[120]⟩ : ByteArray), (⟨#[32, 57]⟩ : ByteArray), (⟨#[45]⟩ : ByteArray), (⟨#[46, 53, 46]⟩ : ByteArray), (⟨#[10]⟩ : ByteArray)] : List ByteArray) : List ByteArray)).bind fun y245 => (if 0 ≤ (Int.tmod x240003 6) then (if (Int.tmod x240003 6) < (y245.length : Int) then (if x5.size + (rdOf ByteArray.empty y245 (Int.tmod x240003 6)).size ≤ 9223372036854775807 then (some (x5 ++ (rdOf ByteArray.empty y245 (Int.tmod x240003 6)))) else (none)) else (none)) else (none))))
def toolchestlaw05_told.l2 : Nat → ByteArray → Int → Int → Int → Int → Int → Bool → Option (ByteArray)
  | 0, _, _, _, _, _, _, _ => none
  | k + 1, x5, x8, x240000, x240001, x240002, x240003, x240004 => if x8 < (wrap64 (Int.tmod x240001 30)) then (if x5.size + 1 ≤ 9223372036854775807 then (toolchestlaw05_told.l2 k (x5 ++ (⟨#[48]⟩ : ByteArray)) (wrap64 (x8 + 1)) x240000 x240001 x240002 x240003 x240004) else (none)) else ((some (([(⟨#[]⟩ : ByteArray), (⟨#[120]⟩ : ByteArray), (⟨#[32, 57]⟩ : ByteArray), (⟨#[45]⟩ : ByteArray), (⟨#[46, 53, 46]⟩ : ByteArray), (⟨#[10]⟩ : ByteArray)] : List ByteArray) : List ByteArray)).bind fun y241 => (if 0 ≤ (Int.tmod x240003 6) then (if (Int.tmod x240003 6) < (y241.length : Int) then (if x5.size + (rdOf ByteArray.empty y241 (Int.tmod x240003 6)).size ≤ 9223372036854775807 then (some (x5 ++ (rdOf ByteArray.empty y241 (Int.tmod x240003 6)))) else (none)) else (none)) else (none)))
end
def toolchestlaw05_told.f (k : Nat) (a0 : Int) (a1_0 : Int) (a1_1 : Int) (a1_2 : Int) (a1_3 : Int) (a1_4 : Bool) : Option (ByteArray) := (toolchestlaw05_digits.f k (IntKind.u64.wrap (mx (wrap64 (a0)) (wrap64 (-(wrap64 (a0))))))).bind fun t240 => (toolchestlaw05_told.l0 k a0 t240 0 a1_0 a1_1 a1_2 a1_3 a1_4)
theorem toolchestlaw05_told.mono_l : ∀ k, (∀ y0 y1 y2 y3 y4 y5 y6 y7, LeO (toolchestlaw05_told.l0 k y0 y1 y2 y3 y4 y5 y6 y7) (toolchestlaw05_told.l0 (k + 1) y0 y1 y2 y3 y4 y5 y6 y7)) ∧ (∀ y0 y1 y2 y3 y4 y5, LeO (toolchestlaw05_told.j1 k y0 y1 y2 y3 y4 y5) (toolchestlaw05_told.j1 (k + 1) y0 y1 y2 y3 y4 y5)) ∧ (∀ y0 y1 y2 y3 y4 y5 y6, LeO (toolchestlaw05_told.l1 k y0 y1 y2 y3 y4 y5 y6) (toolchestlaw05_told.l1 (k + 1) y0 y1 y2 y3 y4 y5 y6)) ∧ (∀ y0 y1 y2 y3 y4 y5 y6, LeO (toolchestlaw05_told.l2 k y0 y1 y2 y3 y4 y5 y6) (toolchestlaw05_told.l2 (k + 1) y0 y1 y2 y3 y4 y5 y6))
  | 0 => ⟨fun _ _ _ _ _ _ _ _ r h => by simp [toolchestlaw05_told.l0] at h, fun _ _ _ _ _ _ r h => by simp [toolchestlaw05_told.j1] at h, fun _ _ _ _ _ _ _ r h => by simp [toolchestlaw05_told.l1] at h, fun _ _ _ _ _ _ _ r h => by simp [toolchestlaw05_told.l2] at h⟩
  | k + 1 => by
    obtain ⟨ih0, ih1, ih2, ih3⟩ := toolchestlaw05_told.mono_l k
    refine ⟨?_, ?_, ?_, ?_⟩
    · intro y0 y1 y2 y3 y4 y5 y6 y7
      unfold toolchestlaw05_told.l0
      repeat' first
      | (with_reducible exact ih0 _ _ _ _ _ _ _ _)
      | (with_reducible exact ih1 _ _ _ _ _ _)
      | (with_reducible exact ih2 _ _ _ _ _ _ _)
      | (with_reducible exact ih3 _ _ _ _ _ _ _)
      | (with_reducible exact toolchestlaw05_digits.mono _ _)
      | (with_reducible exact LeO.refl _)
      | (with_reducible exact LeO.none _)
      | (with_reducible refine LeO.ite ?_ ?_)
      | (with_reducible refine LeO.bind ?_ (fun _ => ?_))
      | exact ih0 _ _ _ _ _ _ _ _
      | exact ih1 _ _ _ _ _ _
      | exact ih2 _ _ _ _ _ _ _
      | exact ih3 _ _ _ _ _ _ _
      | exact toolchestlaw05_digits.mono _ _
      | exact LeO.none _
      | refine LeO.ite ?_ ?_
      | refine LeO.bind ?_ (fun _ => ?_)
    · intro y0 y1 y2 y3 y4 y5
      unfold toolchestlaw05_told.j1
      repeat' first
      | (with_reducible exact ih0 _ _ _ _ _ _ _ _)
      | (with_reducible exact ih1 _ _ _ _ _ _)
      | (with_reducible exact ih2 _ _ _ _ _ _ _)
      | (with_reducible exact ih3 _ _ _ _ _ _ _)
      | (with_reducible exact toolchestlaw05_digits.mono _ _)
      | (with_reducible exact LeO.refl _)
      | (with_reducible exact LeO.none _)
      | (with_reducible refine LeO.ite ?_ ?_)
      | (with_reducible refine LeO.bind ?_ (fun _ => ?_))
      | exact ih0 _ _ _ _ _ _ _ _
      | exact ih1 _ _ _ _ _ _
      | exact ih2 _ _ _ _ _ _ _
      | exact ih3 _ _ _ _ _ _ _
      | exact toolchestlaw05_digits.mono _ _
      | exact LeO.none _
      | refine LeO.ite ?_ ?_
      | refine LeO.bind ?_ (fun _ => ?_)
    · intro y0 y1 y2 y3 y4 y5 y6
      unfold toolchestlaw05_told.l1
      repeat' first
      | (with_reducible exact ih0 _ _ _ _ _ _ _ _)
      | (with_reducible exact ih1 _ _ _ _ _ _)
      | (with_reducible exact ih2 _ _ _ _ _ _ _)
      | (with_reducible exact ih3 _ _ _ _ _ _ _)
      | (with_reducible exact toolchestlaw05_digits.mono _ _)
      | (with_reducible exact LeO.refl _)
      | (with_reducible exact LeO.none _)
      | (with_reducible refine LeO.ite ?_ ?_)
      | (with_reducible refine LeO.bind ?_ (fun _ => ?_))
      | exact ih0 _ _ _ _ _ _ _ _
      | exact ih1 _ _ _ _ _ _
      | exact ih2 _ _ _ _ _ _ _
      | exact ih3 _ _ _ _ _ _ _
      | exact toolchestlaw05_digits.mono _ _
      | exact LeO.none _
      | refine LeO.ite ?_ ?_
      | refine LeO.bind ?_ (fun _ => ?_)
    · intro y0 y1 y2 y3 y4 y5 y6
      unfold toolchestlaw05_told.l2
      repeat' first
      | (with_reducible exact ih0 _ _ _ _ _ _ _ _)
      | (with_reducible exact ih1 _ _ _ _ _ _)
      | (with_reducible exact ih2 _ _ _ _ _ _ _)
      | (with_reducible exact ih3 _ _ _ _ _ _ _)
      | (with_reducible exact toolchestlaw05_digits.mono _ _)
      | (with_reducible exact LeO.refl _)
      | (with_reducible exact LeO.none _)
      | (with_reducible refine LeO.ite ?_ ?_)
      | (with_reducible refine LeO.bind ?_ (fun _ => ?_))
      | exact ih0 _ _ _ _ _ _ _ _
      | exact ih1 _ _ _ _ _ _
      | exact ih2 _ _ _ _ _ _ _
      | exact ih3 _ _ _ _ _ _ _
      | exact toolchestlaw05_digits.mono _ _
      | exact LeO.none _
      | refine LeO.ite ?_ ?_
      | refine LeO.bind ?_ (fun _ => ?_)
theorem toolchestlaw05_told.mono : ∀ a0 a1 a2 a3 a4 a5 k, LeO (toolchestlaw05_told.f k a0 a1 a2 a3 a4 a5) (toolchestlaw05_told.f (k + 1) a0 a1 a2 a3 a4 a5) := by
  intro a0 a1 a2 a3 a4 a5 k
  obtain ⟨ih0, ih1, ih2, ih3⟩ := toolchestlaw05_told.mono_l k
  unfold toolchestlaw05_told.f
  repeat' first
      | (with_reducible exact ih0 _ _ _ _ _ _ _ _)
      | (with_reducible exact ih1 _ _ _ _ _ _)
      | (with_reducible exact ih2 _ _ _ _ _ _ _)
      | (with_reducible exact ih3 _ _ _ _ _ _ _)
      | (with_reducible exact toolchestlaw05_digits.mono _ _)
      | (with_reducible exact LeO.refl _)
      | (with_reducible exact LeO.none _)
      | (with_reducible refine LeO.ite ?_ ?_)
      | (with_reducible refine LeO.bind ?_ (fun _ => ?_))
      | exact ih0 _ _ _ _ _ _ _ _
      | exact ih1 _ _ _ _ _ _
      | exact ih2 _ _ _ _ _ _ _
      | exact ih3 _ _ _ _ _ _ _
      | exact toolchestlaw05_digits.mono _ _
      | exact LeO.none _
      | refine LeO.ite ?_ ?_
      | refine LeO.bind ?_ (fun _ => ?_)
set_option maxHeartbeats 8000000 in
set_option maxRecDepth 100000 in
theorem toolchestlaw05_told.calls (k : Nat) (a0 : Int) (a1_0 : Int) (a1_1 : Int) (a1_2 : Int) (a1_3 : Int) (a1_4 : Bool) (r : ByteArray) (w : World) (h : toolchestlaw05_told.f k a0 a1_0 a1_1 a1_2 a1_3 a1_4 = some r) :
    Calls Tryd.prog 22 #[.int .i32 a0, .agg #[.int .u8 a1_0, .int .u8 a1_1, .int .u8 a1_2, .int .u8 a1_3, .bool a1_4]] w fun e w' => e = .returned (.string r) ∧ Below w.heap.size w w' := by
  have hu37 := Tryd.underlying37
  have HB := Aside0.mk (Below.refl w.heap.size w)
  have H : ((toolchestlaw05_digits.f k (IntKind.u64.wrap (mx (wrap64 (a0)) (wrap64 (-(wrap64 (a0))))))).bind fun t240 => (toolchestlaw05_told.l0 k a0 t240 0 a1_0 a1_1 a1_2 a1_3 a1_4)) = some r := h
  clear h
  obtain ⟨ji3, hji3⟩ : ∃ j_ : Int, (mx (wrap64 (a0)) (wrap64 (-(wrap64 (a0))))) = j_ := ⟨_, rfl⟩
  replace H : ((toolchestlaw05_digits.f k (IntKind.u64.wrap (ji3))).bind fun t240 => (toolchestlaw05_told.l0 k a0 t240 0 a1_0 a1_1 a1_2 a1_3 a1_4)) = some r := by first | (rw [hji3] at H; exact H) | (simp only [hji3] at H ⊢; exact H)
  have hji3_ : (if (wrap64 (a0)) < (wrap64 (-(wrap64 (a0)))) then (wrap64 (-(wrap64 (a0)))) else (wrap64 (a0))) = ji3 := hji3
  replace H := Option.bind_eq_some_iff.mp H
  obtain ⟨t240, A40, H⟩ := H
  replace H : (toolchestlaw05_told.l0 k a0 t240 0 a1_0 a1_1 a1_2 a1_3 a1_4) = some r := H
  have A4 := Aside0.mk A40
  clear A40
  have H' := Aside0.mk H
  clear H
  go_enter Tryd.func22, Tryd.ntmps22
  go_wp2_with (first | ((with_reducible refine gate_dst (N := 3) rfl ?_); refine box_event ?hg (N := 3) ?hd (cs := #[.int .u8 a1_0, .int .u8 a1_1, .int .u8 a1_2, .int .u8 a1_3, .bool a1_4]) (t := 37) ?hr ?_; (case hd => rfl); (case hg => rfl); (case hr => first | (go_simp; done) | (go_simp; rfl)); intro gb239 hg w5 hbox hb; have n0_ := Aside0.mk (below_step (by repeat (first | (with_reducible first | exact HB.out | apply below_alloc | apply pw_below_drewN | apply below_drew1) | exact HB.out)) hb); have n1_ := Aside0.mk (hbox); have n2_ := Aside0.mk ((by rw [hg]; exact (below_size (by repeat (first | (with_reducible first | exact HB.out | apply below_alloc | apply pw_below_drewN | apply below_drew1) | exact HB.out))) : w.heap.size ≤ gb239)); have n3_ := Aside0.mk ((by rw [hg]; exact (below_size (by repeat (first | (with_reducible first | exact HB.out | apply below_alloc | apply pw_below_drewN | apply below_drew1) | exact HB.out))) : w.heap.size ≤ gb239)); clear HB; have HB := n0_; have BK239 := n1_; have GW239 := n2_; have GE239 := n3_; clear n0_ n1_ n2_ n3_; clear hb hbox hg) | ((with_reducible refine gate_callee (f := 23) rfl ?_); refine goesL_ (some 16) rfl rfl Tryd.func23 (by kernel_rfl) rfl #[.int .u64 (IntKind.u64.wrap (ji3))] rfl (by (try simp only [List.map_toArray, List.map_cons, List.map_nil]); first | done | (simp only [hji3]; rfl) | rfl | (simp only [List.length_drop, List.length_take]; rfl)) ?_; (with_reducible refine (toolchestlaw05_digits.calls k (IntKind.u64.wrap (ji3)) t240 _ A4.out).mono ?_); rintro e w' ⟨rfl, ⟨nd, rfl⟩⟩; refine ⟨_, rfl, ?_⟩))
  go_loopg [5, 6] k (fun kq v5 v6 w' => ∃ (x5_1 : ByteArray) (x6_1 : Int), v5 = .string x5_1 ∧ v6 = .int .i64 x6_1 ∧ Aside0 (toolchestlaw05_told.l0 kq a0 x5_1 x6_1 a1_0 a1_1 a1_2 a1_3 a1_4 = some r) ∧ Aside0 (kq ≤ k) ∧ Aside0 (w'.heap[gb239]? = some (.cells #[.int .u8 a1_0, .int .u8 a1_1, .int .u8 a1_2, .int .u8 a1_3, .bool a1_4] 37 (0, 0))) ∧ Aside0 (Below w.heap.size w w'))
  case atStart => exact ⟨(t240), (0), (by first | rfl | (simp; done) | (simp [*]; done)), (by first | rfl | (simp; done) | (simp [*]; done)), H', ⟨Nat.le_refl _⟩, ⟨by (with_reducible repeat (first | refine blk_drewN ?_ _ | refine blk_drew ?_ | refine blk_alloc ?_ _)); exact BK239.out⟩, ⟨by repeat (first | (with_reducible first | exact HB.out | apply below_alloc | apply pw_below_drewN | apply below_drew1 | refine below_set ?_ GE239.out) | exact HB.out)⟩⟩
  case round =>
    clear H'
    try clear c2
    try clear p2
    obtain ⟨x5_1, x6_1, rfl, rfl, HA, HK1, BK239, HB⟩ := hrel
    cases gk with
    | zero => exact absurd HA.out (by simp [toolchestlaw05_told.l0])
    | succ k1 =>
      have H := HA.out
      clear HA
      simp only [toolchestlaw05_told.l0] at H
      by_cases c6 : x6_1 < (wrap64 (Int.tmod a1_0 30))
      · rw [if_pos c6] at H
        have c6b0 : decide (x6_1 < (wrap64 (Int.tmod a1_0 30))) = true := decide_eq_true c6
        clear c6
        by_cases c7 : 1 + x5_1.size ≤ 9223372036854775807
        · rw [if_pos c7] at H
          have c7b0 := eq_true c7
          have c7b1 : decide (1 + x5_1.size ≤ 9223372036854775807) = true := decide_eq_true c7
          try have c7b2 : (9223372036854775807 < 1 + x5_1.size) = False := eq_false (Nat.not_lt.2 c7)
          have H' := Aside0.mk H
          clear H
          have hcz8_0 : wr.cell? ⟨gb239, 0, none⟩ = some (.int .u8 a1_0) := (blk_cell BK239.out 0).trans rfl
          have hcz8_1 : wr.cell? ⟨gb239, 1, none⟩ = some (.int .u8 a1_1) := (blk_cell BK239.out 1).trans rfl
          have hcz8_2 : wr.cell? ⟨gb239, 2, none⟩ = some (.int .u8 a1_2) := (blk_cell BK239.out 2).trans rfl
          have hcz8_3 : wr.cell? ⟨gb239, 3, none⟩ = some (.int .u8 a1_3) := (blk_cell BK239.out 3).trans rfl
          have hcz8_4 : wr.cell? ⟨gb239, 4, none⟩ = some (.bool a1_4) := (blk_cell BK239.out 4).trans rfl
          have hfz8_0 := blk_frozen BK239.out 0
          have hfz8_1 := blk_frozen BK239.out 1
          have hfz8_2 := blk_frozen BK239.out 2
          have hfz8_3 := blk_frozen BK239.out 3
          have hfz8_4 := blk_frozen BK239.out 4
          go_wp2
          go_roundg k1
          case measure => have := HK1.out; omega
          case rel => exact ⟨((⟨#[48]⟩ : ByteArray) ++ x5_1), (wrap64 (x6_1 + 1)), (by first | rfl | (simp; done) | (simp [*]; done)), (by first | rfl | (simp; done) | (simp [*]; done)), H', ⟨by have := HK1.out; omega⟩, ⟨by (with_reducible repeat (first | refine blk_drewN ?_ _ | refine blk_drew ?_ | refine blk_alloc ?_ _)); exact BK239.out⟩, ⟨by repeat (first | (with_reducible first | exact HB.out | apply below_alloc | apply pw_below_drewN | apply below_drew1 | refine below_set ?_ GE239.out) | exact HB.out)⟩⟩
        · rw [if_neg c7] at H
          exact absurd H (by simp)
      · rw [if_neg c6] at H
        have c6b0 : decide (x6_1 < (wrap64 (Int.tmod a1_0 30))) = false := decide_eq_false c6
        clear c6
        have HC9 := Aside0.mk H
        clear H
        have hcz10_0 : wr.cell? ⟨gb239, 0, none⟩ = some (.int .u8 a1_0) := (blk_cell BK239.out 0).trans rfl
        have hcz10_1 : wr.cell? ⟨gb239, 1, none⟩ = some (.int .u8 a1_1) := (blk_cell BK239.out 1).trans rfl
        have hcz10_2 : wr.cell? ⟨gb239, 2, none⟩ = some (.int .u8 a1_2) := (blk_cell BK239.out 2).trans rfl
        have hcz10_3 : wr.cell? ⟨gb239, 3, none⟩ = some (.int .u8 a1_3) := (blk_cell BK239.out 3).trans rfl
        have hcz10_4 : wr.cell? ⟨gb239, 4, none⟩ = some (.bool a1_4) := (blk_cell BK239.out 4).trans rfl
        have hfz10_0 := blk_frozen BK239.out 0
        have hfz10_1 := blk_frozen BK239.out 1
        have hfz10_2 := blk_frozen BK239.out 2
        have hfz10_3 := blk_frozen BK239.out 3
        have hfz10_4 := blk_frozen BK239.out 4
        go_upto_if 28 with (fail)
        go_cut [5] (fun v5 wc => ∃ (kq : Nat) (x5_8 : ByteArray), v5 = .string x5_8 ∧ Aside0 (toolchestlaw05_told.j1 kq x5_8 a1_0 a1_1 a1_2 a1_3 a1_4 = some r) ∧ Aside0 (kq ≤ k1) ∧ Aside0 (wc.heap[gb239]? = some (.cells #[.int .u8 a1_0, .int .u8 a1_1, .int .u8 a1_2, .int .u8 a1_3, .bool a1_4] 37 (0, 0))) ∧ Aside0 (Below w.heap.size w wc))
        case first =>
          have H := HC9.out
          clear HC9
          by_cases c11 : a0 < 0
          · rw [if_pos c11] at H
            have c11b0 : decide (a0 < 0) = true := decide_eq_true c11
            clear c11
            (first | rw [c11b0] | (simp only [i64_w, i32_w]; rw [c11b0]) | skip)
            by_cases c12 : 1 + x5_1.size ≤ 9223372036854775807
            · rw [if_pos c12] at H
              have c12b0 := eq_true c12
              have c12b1 : decide (1 + x5_1.size ≤ 9223372036854775807) = true := decide_eq_true c12
              try have c12b2 : (9223372036854775807 < 1 + x5_1.size) = False := eq_false (Nat.not_lt.2 c12)
              have H' := Aside0.mk H
              clear H
              go_wp2
              go_meet
              case rel => exact ⟨_, ((⟨#[45]⟩ : ByteArray) ++ x5_1), (by first | rfl | (simp; done) | (simp [*]; done)), H', ⟨by have := HK1.out; first | omega | exact Nat.le_refl _⟩, ⟨by (with_reducible repeat (first | refine blk_drewN ?_ _ | refine blk_drew ?_ | refine blk_alloc ?_ _)); exact BK239.out⟩, ⟨by repeat (first | (with_reducible first | exact HB.out | apply below_alloc | apply pw_below_drewN | apply below_drew1 | refine below_set ?_ GE239.out) | exact HB.out)⟩⟩
            · rw [if_neg c12] at H
              exact absurd H (by simp)
          · rw [if_neg c11] at H
            have c11b0 : decide (a0 < 0) = false := decide_eq_false c11
            clear c11
            (first | rw [c11b0] | (simp only [i64_w, i32_w]; rw [c11b0]) | skip)
            have H' := Aside0.mk H
            clear H
            go_wp2
            go_meet
            case rel => exact ⟨_, (x5_1), (by first | rfl | (simp; done) | (simp [*]; done)), H', ⟨by have := HK1.out; first | omega | exact Nat.le_refl _⟩, ⟨by (with_reducible repeat (first | refine blk_drewN ?_ _ | refine blk_drew ?_ | refine blk_alloc ?_ _)); exact BK239.out⟩, ⟨by repeat (first | (with_reducible first | exact HB.out | apply below_alloc | apply pw_below_drewN | apply below_drew1 | refine below_set ?_ GE239.out) | exact HB.out)⟩⟩
        case rest =>
          clear HC9
          try clear c1
          try clear c2
          try clear p2
          try clear c6
          try clear c6b0
          try clear p6
          try clear c7
          try clear c7b0
          try clear c7b1
          try clear c7b2
          try clear c11
          try clear c11b0
          try clear c12
          try clear c12b0
          try clear c12b1
          try clear c12b2
          try clear hcz10_0
          try clear hcz10_1
          try clear hcz10_2
          try clear hcz10_3
          try clear hcz10_4
          try clear hcz8_0
          try clear hcz8_1
          try clear hcz8_2
          try clear hcz8_3
          try clear hcz8_4
          try clear hfz10_0
          try clear hfz10_1
          try clear hfz10_2
          try clear hfz10_3
          try clear hfz10_4
          try clear hfz8_0
          try clear hfz8_1
          try clear hfz8_2
          try clear hfz8_3
          try clear hfz8_4
          try clear p2
          obtain ⟨kq, x5_8, rfl, HA, HJ8, BK239, HB⟩ := hcut
          cases kq with
          | zero => exact absurd HA.out (by simp [toolchestlaw05_told.j1])
          | succ kj8 =>
            have H := HA.out
            clear HA
            simp only [toolchestlaw05_told.j1] at H
            have H' := Aside0.mk H
            clear H
            go_wp2
            go_loopg [5, 7] kj8 (fun kq v5 v7 w' => ∃ (x5_3 : ByteArray) (x7_3 : Int), v5 = .string x5_3 ∧ v7 = .int .i64 x7_3 ∧ Aside0 (toolchestlaw05_told.l1 kq x5_3 x7_3 a1_0 a1_1 a1_2 a1_3 a1_4 = some r) ∧ Aside0 (kq ≤ kj8) ∧ Aside0 (w'.heap[gb239]? = some (.cells #[.int .u8 a1_0, .int .u8 a1_1, .int .u8 a1_2, .int .u8 a1_3, .bool a1_4] 37 (0, 0))) ∧ Aside0 (Below w.heap.size w w'))
            case atStart => exact ⟨(x5_8), (0), (by first | rfl | (simp; done) | (simp [*]; done)), (by first | rfl | (simp; done) | (simp [*]; done)), H', ⟨Nat.le_refl _⟩, ⟨by (with_reducible repeat (first | refine blk_drewN ?_ _ | refine blk_drew ?_ | refine blk_alloc ?_ _)); exact BK239.out⟩, ⟨by repeat (first | (with_reducible first | exact HB.out | apply below_alloc | apply pw_below_drewN | apply below_drew1 | refine below_set ?_ GE239.out) | exact HB.out)⟩⟩
            case round =>
              clear H'
              try clear c1
              try clear c2
              try clear p2
              try clear c6
              try clear c6b0
              try clear p6
              try clear c7
              try clear c7b0
              try clear c7b1
              try clear c7b2
              try clear c11
              try clear c11b0
              try clear c12
              try clear c12b0
              try clear c12b1
              try clear c12b2
              try clear hcz10_0
              try clear hcz10_1
              try clear hcz10_2
              try clear hcz10_3
              try clear hcz10_4
              try clear hcz8_0
              try clear hcz8_1
              try clear hcz8_2
              try clear hcz8_3
              try clear hcz8_4
              try clear hfz10_0
              try clear hfz10_1
              try clear hfz10_2
              try clear hfz10_3
              try clear hfz10_4
              try clear hfz8_0
              try clear hfz8_1
              try clear hfz8_2
              try clear hfz8_3
              try clear hfz8_4
              try clear p2
              try clear p6
              obtain ⟨x5_3, x7_3, rfl, rfl, HA, HK3, BK239, HB⟩ := hrel
              cases gk with
              | zero => exact absurd HA.out (by simp [toolchestlaw05_told.l1])
              | succ k3 =>
                have H := HA.out
                clear HA
                simp only [toolchestlaw05_told.l1] at H
                by_cases c13 : x7_3 < (wrap64 (Int.tmod a1_2 5))
                · rw [if_pos c13] at H
                  have c13b0 : decide (x7_3 < (wrap64 (Int.tmod a1_2 5))) = true := decide_eq_true c13
                  clear c13
                  by_cases c14 : 1 + x5_3.size ≤ 9223372036854775807
                  · rw [if_pos c14] at H
                    have c14b0 := eq_true c14
                    have c14b1 : decide (1 + x5_3.size ≤ 9223372036854775807) = true := decide_eq_true c14
                    try have c14b2 : (9223372036854775807 < 1 + x5_3.size) = False := eq_false (Nat.not_lt.2 c14)
                    have H' := Aside0.mk H
                    clear H
                    have hcz15_0 : wr.cell? ⟨gb239, 0, none⟩ = some (.int .u8 a1_0) := (blk_cell BK239.out 0).trans rfl
                    have hcz15_1 : wr.cell? ⟨gb239, 1, none⟩ = some (.int .u8 a1_1) := (blk_cell BK239.out 1).trans rfl
                    have hcz15_2 : wr.cell? ⟨gb239, 2, none⟩ = some (.int .u8 a1_2) := (blk_cell BK239.out 2).trans rfl
                    have hcz15_3 : wr.cell? ⟨gb239, 3, none⟩ = some (.int .u8 a1_3) := (blk_cell BK239.out 3).trans rfl
                    have hcz15_4 : wr.cell? ⟨gb239, 4, none⟩ = some (.bool a1_4) := (blk_cell BK239.out 4).trans rfl
                    have hfz15_0 := blk_frozen BK239.out 0
                    have hfz15_1 := blk_frozen BK239.out 1
                    have hfz15_2 := blk_frozen BK239.out 2
                    have hfz15_3 := blk_frozen BK239.out 3
                    have hfz15_4 := blk_frozen BK239.out 4
                    go_wp2
                    go_roundg k3
                    case measure => have := HK1.out; have := HJ8.out; have := HK3.out; omega
                    case rel => exact ⟨((⟨#[32]⟩ : ByteArray) ++ x5_3), (wrap64 (x7_3 + 1)), (by first | rfl | (simp; done) | (simp [*]; done)), (by first | rfl | (simp; done) | (simp [*]; done)), H', ⟨by have := HK1.out; have := HJ8.out; have := HK3.out; omega⟩, ⟨by (with_reducible repeat (first | refine blk_drewN ?_ _ | refine blk_drew ?_ | refine blk_alloc ?_ _)); exact BK239.out⟩, ⟨by repeat (first | (with_reducible first | exact HB.out | apply below_alloc | apply pw_below_drewN | apply below_drew1 | refine below_set ?_ GE239.out) | exact HB.out)⟩⟩
                  · rw [if_neg c14] at H
                    exact absurd H (by simp)
                · rw [if_neg c13] at H
                  have c13b0 : decide (x7_3 < (wrap64 (Int.tmod a1_2 5))) = false := decide_eq_false c13
                  clear c13
                  by_cases c16 : a1_4 = true
                  · subst c16
                    have H1 : (if x5_3.size + 1 ≤ 9223372036854775807 then (toolchestlaw05_told.l2 k3 (x5_3 ++ (⟨#[46]⟩ : ByteArray)) 0 a1_0 a1_1 a1_2 a1_3 true) else (none)) = some r := by rw [if_pos rfl] at H; exact H
                    clear H
                    have H := H1
                    clear H1
                    by_cases c17 : x5_3.size + 1 ≤ 9223372036854775807
                    · rw [if_pos c17] at H
                      have c17b0 := eq_true c17
                      have c17b1 : decide (x5_3.size + 1 ≤ 9223372036854775807) = true := decide_eq_true c17
                      try have c17b2 : (9223372036854775807 < x5_3.size + 1) = False := eq_false (Nat.not_lt.2 c17)
                      have H' := Aside0.mk H
                      clear H
                      have hcz18_0 : wr.cell? ⟨gb239, 0, none⟩ = some (.int .u8 a1_0) := (blk_cell BK239.out 0).trans rfl
                      have hcz18_1 : wr.cell? ⟨gb239, 1, none⟩ = some (.int .u8 a1_1) := (blk_cell BK239.out 1).trans rfl
                      have hcz18_2 : wr.cell? ⟨gb239, 2, none⟩ = some (.int .u8 a1_2) := (blk_cell BK239.out 2).trans rfl
                      have hcz18_3 : wr.cell? ⟨gb239, 3, none⟩ = some (.int .u8 a1_3) := (blk_cell BK239.out 3).trans rfl
                      have hcz18_4 : wr.cell? ⟨gb239, 4, none⟩ = some (.bool true) := (blk_cell BK239.out 4).trans rfl
                      have hfz18_0 := blk_frozen BK239.out 0
                      have hfz18_1 := blk_frozen BK239.out 1
                      have hfz18_2 := blk_frozen BK239.out 2
                      have hfz18_3 := blk_frozen BK239.out 3
                      have hfz18_4 := blk_frozen BK239.out 4
                      go_wp2
                      go_loopg [5, 8] k3 (fun kq v5 v8 w' => ∃ (x5_4 : ByteArray) (x8_4 : Int), v5 = .string x5_4 ∧ v8 = .int .i64 x8_4 ∧ Aside0 (toolchestlaw05_told.l2 kq x5_4 x8_4 a1_0 a1_1 a1_2 a1_3 true = some r) ∧ Aside0 (kq ≤ k3) ∧ Aside0 (w'.heap[gb239]? = some (.cells #[.int .u8 a1_0, .int .u8 a1_1, .int .u8 a1_2, .int .u8 a1_3, .bool true] 37 (0, 0))) ∧ Aside0 (Below w.heap.size w w'))
                      case atStart => exact ⟨(x5_3 ++ (⟨#[46]⟩ : ByteArray)), (0), (by first | rfl | (simp; done) | (simp [*]; done)), (by first | rfl | (simp; done) | (simp [*]; done)), H', ⟨Nat.le_refl _⟩, ⟨by (with_reducible repeat (first | refine blk_drewN ?_ _ | refine blk_drew ?_ | refine blk_alloc ?_ _)); exact BK239.out⟩, ⟨by repeat (first | (with_reducible first | exact HB.out | apply below_alloc | apply pw_below_drewN | apply below_drew1 | refine below_set ?_ GE239.out) | exact HB.out)⟩⟩
                      case round =>
                        clear H'
                        try clear c1
                        try clear c2
                        try clear p2
                        try clear c6
                        try clear c6b0
                        try clear p6
                        try clear c7
                        try clear c7b0
                        try clear c7b1
                        try clear c7b2
                        try clear c11
                        try clear c11b0
                        try clear c12
                        try clear c12b0
                        try clear c12b1
                        try clear c12b2
                        try clear c13
                        try clear c13b0
                        try clear c14
                        try clear c14b0
                        try clear c14b1
                        try clear c14b2
                        try clear c16
                        try clear c17
                        try clear c17b0
                        try clear c17b1
                        try clear c17b2
                        try clear hcz10_0
                        try clear hcz10_1
                        try clear hcz10_2
                        try clear hcz10_3
                        try clear hcz10_4
                        try clear hcz15_0
                        try clear hcz15_1
                        try clear hcz15_2
                        try clear hcz15_3
                        try clear hcz15_4
                        try clear hcz18_0
                        try clear hcz18_1
                        try clear hcz18_2
                        try clear hcz18_3
                        try clear hcz18_4
                        try clear hcz8_0
                        try clear hcz8_1
                        try clear hcz8_2
                        try clear hcz8_3
                        try clear hcz8_4
                        try clear hfz10_0
                        try clear hfz10_1
                        try clear hfz10_2
                        try clear hfz10_3
                        try clear hfz10_4
                        try clear hfz15_0
                        try clear hfz15_1
                        try clear hfz15_2
                        try clear hfz15_3
                        try clear hfz15_4
                        try clear hfz18_0
                        try clear hfz18_1
                        try clear hfz18_2
                        try clear hfz18_3
                        try clear hfz18_4
                        try clear hfz8_0
                        try clear hfz8_1
                        try clear hfz8_2
                        try clear hfz8_3
                        try clear hfz8_4
                        try clear p2
                        try clear p6
                        obtain ⟨x5_4, x8_4, rfl, rfl, HA, HK4, BK239, HB⟩ := hrel
                        cases gk with
                        | zero => exact absurd HA.out (by simp [toolchestlaw05_told.l2])
                        | succ k4 =>
                          have H := HA.out
                          clear HA
                          simp only [toolchestlaw05_told.l2] at H
                          by_cases c19 : x8_4 < (wrap64 (Int.tmod a1_1 30))
                          · rw [if_pos c19] at H
                            have c19b0 : decide (x8_4 < (wrap64 (Int.tmod a1_1 30))) = true := decide_eq_true c19
                            clear c19
                            by_cases c20 : x5_4.size + 1 ≤ 9223372036854775807
                            · rw [if_pos c20] at H
                              have c20b0 := eq_true c20
                              have c20b1 : decide (x5_4.size + 1 ≤ 9223372036854775807) = true := decide_eq_true c20
                              try have c20b2 : (9223372036854775807 < x5_4.size + 1) = False := eq_false (Nat.not_lt.2 c20)
                              have H' := Aside0.mk H
                              clear H
                              have hcz21_0 : wr.cell? ⟨gb239, 0, none⟩ = some (.int .u8 a1_0) := (blk_cell BK239.out 0).trans rfl
                              have hcz21_1 : wr.cell? ⟨gb239, 1, none⟩ = some (.int .u8 a1_1) := (blk_cell BK239.out 1).trans rfl
                              have hcz21_2 : wr.cell? ⟨gb239, 2, none⟩ = some (.int .u8 a1_2) := (blk_cell BK239.out 2).trans rfl
                              have hcz21_3 : wr.cell? ⟨gb239, 3, none⟩ = some (.int .u8 a1_3) := (blk_cell BK239.out 3).trans rfl
                              have hcz21_4 : wr.cell? ⟨gb239, 4, none⟩ = some (.bool true) := (blk_cell BK239.out 4).trans rfl
                              have hfz21_0 := blk_frozen BK239.out 0
                              have hfz21_1 := blk_frozen BK239.out 1
                              have hfz21_2 := blk_frozen BK239.out 2
                              have hfz21_3 := blk_frozen BK239.out 3
                              have hfz21_4 := blk_frozen BK239.out 4
                              go_wp2
                              go_roundg k4
                              case measure => have := HK1.out; have := HJ8.out; have := HK3.out; have := HK4.out; omega
                              case rel => exact ⟨(x5_4 ++ (⟨#[48]⟩ : ByteArray)), (wrap64 (x8_4 + 1)), (by first | rfl | (simp; done) | (simp [*]; done)), (by first | rfl | (simp; done) | (simp [*]; done)), H', ⟨by have := HK1.out; have := HJ8.out; have := HK3.out; have := HK4.out; omega⟩, ⟨by (with_reducible repeat (first | refine blk_drewN ?_ _ | refine blk_drew ?_ | refine blk_alloc ?_ _)); exact BK239.out⟩, ⟨by repeat (first | (with_reducible first | exact HB.out | apply below_alloc | apply pw_below_drewN | apply below_drew1 | refine below_set ?_ GE239.out) | exact HB.out)⟩⟩
                            · rw [if_neg c20] at H
                              exact absurd H (by simp)
                          · rw [if_neg c19] at H
                            have c19b0 : decide (x8_4 < (wrap64 (Int.tmod a1_1 30))) = false := decide_eq_false c19
                            clear c19
                            obtain ⟨y241, hy241⟩ : ∃ y_ : List ByteArray, y_ = (([(⟨#[]⟩ : ByteArray), (⟨#[120]⟩ : ByteArray), (⟨#[32, 57]⟩ : ByteArray), (⟨#[45]⟩ : ByteArray), (⟨#[46, 53, 46]⟩ : ByteArray), (⟨#[10]⟩ : ByteArray)] : List ByteArray)) := ⟨_, rfl⟩
                            replace H : (if 0 ≤ (Int.tmod a1_3 6) then (if (Int.tmod a1_3 6) < (y241.length : Int) then (if x5_4.size + (rdOf ByteArray.empty y241 (Int.tmod a1_3 6)).size ≤ 9223372036854775807 then (some (x5_4 ++ (rdOf ByteArray.empty y241 (Int.tmod a1_3 6)))) else (none)) else (none)) else (none)) = some r := by first | (rw [hy241]; with_reducible exact H) | (have H2_ := (Option.bind_some _ _).symm.trans H; rw [hy241]; with_reducible exact H2_) | (have H2_ := (Option.bind_some _ _).symm.trans H; with_reducible exact H2_) | with_reducible exact H | (rw [hy241]; exact H) | exact H
                            have Ny241 := Aside0.mk hy241
                            clear hy241
                            obtain ⟨ji22, hji22⟩ : ∃ j_ : Int, (Int.tmod a1_3 6) = j_ := ⟨_, rfl⟩
                            replace H : (if 0 ≤ (ji22) then (if (ji22) < (y241.length : Int) then (if x5_4.size + (rdOf ByteArray.empty y241 (ji22)).size ≤ 9223372036854775807 then (some (x5_4 ++ (rdOf ByteArray.empty y241 (ji22)))) else (none)) else (none)) else (none)) = some r := by first | (rw [hji22] at H; exact H) | (simp only [hji22] at H ⊢; exact H)
                            by_cases c23 : 0 ≤ (ji22)
                            · rw [if_pos c23] at H
                              have c23b0 : decide (0 ≤ (ji22)) = true := decide_eq_true c23
                              clear c23
                              by_cases c24 : (ji22) < (y241.length : Int)
                              · rw [if_pos c24] at H
                                have c24b0 : decide ((ji22) < (y241.length : Int)) = true := decide_eq_true c24
                                clear c24
                                by_cases c25 : x5_4.size + (rdOf ByteArray.empty y241 (ji22)).size ≤ 9223372036854775807
                                · rw [if_pos c25] at H
                                  have c25b0 := eq_true c25
                                  have c25b1 : decide (x5_4.size + (rdOf ByteArray.empty y241 (ji22)).size ≤ 9223372036854775807) = true := decide_eq_true c25
                                  try have c25b2 : (9223372036854775807 < x5_4.size + (rdOf ByteArray.empty y241 (ji22)).size) = False := eq_false (Nat.not_lt.2 c25)
                                  obtain rfl := Option.some.inj H
                                  have hcz26_0 : wr.cell? ⟨gb239, 0, none⟩ = some (.int .u8 a1_0) := (blk_cell BK239.out 0).trans rfl
                                  have hcz26_1 : wr.cell? ⟨gb239, 1, none⟩ = some (.int .u8 a1_1) := (blk_cell BK239.out 1).trans rfl
                                  have hcz26_2 : wr.cell? ⟨gb239, 2, none⟩ = some (.int .u8 a1_2) := (blk_cell BK239.out 2).trans rfl
                                  have hcz26_3 : wr.cell? ⟨gb239, 3, none⟩ = some (.int .u8 a1_3) := (blk_cell BK239.out 3).trans rfl
                                  have hcz26_4 : wr.cell? ⟨gb239, 4, none⟩ = some (.bool true) := (blk_cell BK239.out 4).trans rfl
                                  have hfz26_0 := blk_frozen BK239.out 0
                                  have hfz26_1 := blk_frozen BK239.out 1
                                  have hfz26_2 := blk_frozen BK239.out 2
                                  have hfz26_3 := blk_frozen BK239.out 3
                                  have hfz26_4 := blk_frozen BK239.out 4
                                  go_wp2_with (first | ((with_reducible refine gate_dst (N := 56) rfl ?_); refine Kd.R_lit Kd.string _ 9 ?hg (N := 56) ?hd (xs := ([(⟨#[]⟩ : ByteArray), (⟨#[120]⟩ : ByteArray), (⟨#[32, 57]⟩ : ByteArray), (⟨#[45]⟩ : ByteArray), (⟨#[46, 53, 46]⟩ : ByteArray), (⟨#[10]⟩ : ByteArray)] : List ByteArray)) (inner := [.string (⟨#[]⟩ : ByteArray), .string (⟨#[120]⟩ : ByteArray), .string (⟨#[32, 57]⟩ : ByteArray), .string (⟨#[45]⟩ : ByteArray), .string (⟨#[46, 53, 46]⟩ : ByteArray), .string (⟨#[10]⟩ : ByteArray)]) (ok := fun _ => True) (okp := fun _ => True) ?hr ?hp (fun _ hk => hk) trivial (Below.refl _ _) (Nat.le_refl _) (by simp) ?_; (case hd => rfl); (case hg => rfl); (case hr => first | (go_simp; done) | (go_simp; rfl)); (case hp => exact (Reps.one (show Kd.M Kd.string _ _ _ (⟨#[]⟩ : ByteArray) [.string (⟨#[]⟩ : ByteArray)] from rfl) (Reps.one (show Kd.M Kd.string _ _ _ (⟨#[120]⟩ : ByteArray) [.string (⟨#[120]⟩ : ByteArray)] from rfl) (Reps.one (show Kd.M Kd.string _ _ _ (⟨#[32, 57]⟩ : ByteArray) [.string (⟨#[32, 57]⟩ : ByteArray)] from rfl) (Reps.one (show Kd.M Kd.string _ _ _ (⟨#[45]⟩ : ByteArray) [.string (⟨#[45]⟩ : ByteArray)] from rfl) (Reps.one (show Kd.M Kd.string _ _ _ (⟨#[46, 53, 46]⟩ : ByteArray) [.string (⟨#[46, 53, 46]⟩ : ByteArray)] from rfl) (Reps.one (show Kd.M Kd.string _ _ _ (⟨#[10]⟩ : ByteArray) [.string (⟨#[10]⟩ : ByteArray)] from rfl) (Reps.none _ _)))))))); intro v242 w27 ho28 hb hg_ hnew_; clear hg_ hnew_; (first | rw [← Ny241.out] at ho28 | (simp only [Int.reduceToNat] at ho28; rw [← Ny241.out] at ho28)); have n0_ := Aside0.mk (Kd.R_lower ho28 (below_size (by repeat (first | (with_reducible first | exact HB.out | apply below_alloc | apply pw_below_drewN | apply below_drew1 | refine below_set ?_ GE239.out) | exact HB.out)))); have n1_ := Aside0.mk (blk_below (g := gb239) (o := .cells #[.int .u8 a1_0, .int .u8 a1_1, .int .u8 a1_2, .int .u8 a1_3, .bool true] 37 (0, 0)) (by (with_reducible repeat (first | refine blk_drewN ?_ _ | refine blk_drew ?_ | refine blk_alloc ?_ _)); exact BK239.out) hb); have n2_ := Aside0.mk (below_step (by repeat (first | (with_reducible first | exact HB.out | apply below_alloc | apply pw_below_drewN | apply below_drew1 | refine below_set ?_ GE239.out) | exact HB.out)) hb); clear BK239; clear HB; have HO243 := n0_; have BK239 := n1_; have HB := n2_; clear n0_ n1_ n2_; clear hb ho28; have hcz29_0 : w27.cell? ⟨gb239, 0, none⟩ = some (.int .u8 a1_0) := (blk_cell BK239.out 0).trans rfl; have hcz29_1 : w27.cell? ⟨gb239, 1, none⟩ = some (.int .u8 a1_1) := (blk_cell BK239.out 1).trans rfl; have hcz29_2 : w27.cell? ⟨gb239, 2, none⟩ = some (.int .u8 a1_2) := (blk_cell BK239.out 2).trans rfl; have hcz29_3 : w27.cell? ⟨gb239, 3, none⟩ = some (.int .u8 a1_3) := (blk_cell BK239.out 3).trans rfl; have hcz29_4 : w27.cell? ⟨gb239, 4, none⟩ = some (.bool true) := (blk_cell BK239.out 4).trans rfl; have hfz29_0 := blk_frozen BK239.out 0; have hfz29_1 := blk_frozen BK239.out 1; have hfz29_2 := blk_frozen BK239.out 2; have hfz29_3 := blk_frozen BK239.out 3; have hfz29_4 := blk_frozen BK239.out 4; obtain ⟨Ao30, co30, eo30⟩ := Kd.R_slice HO243.out; subst eo30; have p244 : 0 ≤ ((ji22) : Int) := of_decide_eq_true (by first | (with_reducible assumption) | assumption); have q244 : (ji22) < (y241.length : Int) := of_decide_eq_true (by first | (with_reducible assumption) | assumption); obtain ⟨ad244, e244, hx244_0⟩ := Kd.at_string (Kd.R_reads' HO243.out).2.2 (ji22) p244 q244; cases e244; replace p244 := eq_true p244; replace q244 := eq_true q244))
                                  go_ret
                                  exact ⟨by first | rfl | (simp [errW_none, errW_some] <;> rfl) | (simp only [← hji3, ← hji22]; first | rfl | (simp [errW_none, errW_some] <;> rfl)) | (simp [*, errW_none, errW_some] <;> rfl), by repeat (first | (with_reducible first | exact HB.out | apply below_alloc | apply pw_below_drewN | apply below_drew1 | refine below_set ?_ GE239.out) | exact HB.out)⟩
                                · rw [if_neg c25] at H
                                  exact absurd H (by simp)
                              · rw [if_neg c24] at H
                                exact absurd H (by simp)
                            · rw [if_neg c23] at H
                              exact absurd H (by simp)
                    · rw [if_neg c17] at H
                      exact absurd H (by simp)
                  · replace c16 := Bool.eq_false_iff.mpr c16
                    subst c16
                    have H1 : ((some (([(⟨#[]⟩ : ByteArray), (⟨#[120]⟩ : ByteArray), (⟨#[32, 57]⟩ : ByteArray), (⟨#[45]⟩ : ByteArray), (⟨#[46, 53, 46]⟩ : ByteArray), (⟨#[10]⟩ : ByteArray)] : List ByteArray) : List ByteArray)).bind fun y245 => (if 0 ≤ (Int.tmod a1_3 6) then (if (Int.tmod a1_3 6) < (y245.length : Int) then (if x5_3.size + (rdOf ByteArray.empty y245 (Int.tmod a1_3 6)).size ≤ 9223372036854775807 then (some (x5_3 ++ (rdOf ByteArray.empty y245 (Int.tmod a1_3 6)))) else (none)) else (none)) else (none))) = some r := by rw [if_neg (show ¬ (false = true) by decide)] at H; exact H
                    clear H
                    have H := H1
                    clear H1
                    obtain ⟨y245, hy245⟩ : ∃ y_ : List ByteArray, y_ = (([(⟨#[]⟩ : ByteArray), (⟨#[120]⟩ : ByteArray), (⟨#[32, 57]⟩ : ByteArray), (⟨#[45]⟩ : ByteArray), (⟨#[46, 53, 46]⟩ : ByteArray), (⟨#[10]⟩ : ByteArray)] : List ByteArray)) := ⟨_, rfl⟩
                    replace H : (if 0 ≤ (Int.tmod a1_3 6) then (if (Int.tmod a1_3 6) < (y245.length : Int) then (if x5_3.size + (rdOf ByteArray.empty y245 (Int.tmod a1_3 6)).size ≤ 9223372036854775807 then (some (x5_3 ++ (rdOf ByteArray.empty y245 (Int.tmod a1_3 6)))) else (none)) else (none)) else (none)) = some r := by first | (rw [hy245]; with_reducible exact H) | (have H2_ := (Option.bind_some _ _).symm.trans H; rw [hy245]; with_reducible exact H2_) | (have H2_ := (Option.bind_some _ _).symm.trans H; with_reducible exact H2_) | with_reducible exact H | (rw [hy245]; exact H) | exact H
                    have Ny245 := Aside0.mk hy245
                    clear hy245
                    obtain ⟨ji31, hji31⟩ : ∃ j_ : Int, (Int.tmod a1_3 6) = j_ := ⟨_, rfl⟩
                    replace H : (if 0 ≤ (ji31) then (if (ji31) < (y245.length : Int) then (if x5_3.size + (rdOf ByteArray.empty y245 (ji31)).size ≤ 9223372036854775807 then (some (x5_3 ++ (rdOf ByteArray.empty y245 (ji31)))) else (none)) else (none)) else (none)) = some r := by first | (rw [hji31] at H; exact H) | (simp only [hji31] at H ⊢; exact H)
                    by_cases c32 : 0 ≤ (ji31)
                    · rw [if_pos c32] at H
                      have c32b0 : decide (0 ≤ (ji31)) = true := decide_eq_true c32
                      clear c32
                      by_cases c33 : (ji31) < (y245.length : Int)
                      · rw [if_pos c33] at H
                        have c33b0 : decide ((ji31) < (y245.length : Int)) = true := decide_eq_true c33
                        clear c33
                        by_cases c34 : x5_3.size + (rdOf ByteArray.empty y245 (ji31)).size ≤ 9223372036854775807
                        · rw [if_pos c34] at H
                          have c34b0 := eq_true c34
                          have c34b1 : decide (x5_3.size + (rdOf ByteArray.empty y245 (ji31)).size ≤ 9223372036854775807) = true := decide_eq_true c34
                          try have c34b2 : (9223372036854775807 < x5_3.size + (rdOf ByteArray.empty y245 (ji31)).size) = False := eq_false (Nat.not_lt.2 c34)
                          obtain rfl := Option.some.inj H
                          have hcz35_0 : wr.cell? ⟨gb239, 0, none⟩ = some (.int .u8 a1_0) := (blk_cell BK239.out 0).trans rfl
                          have hcz35_1 : wr.cell? ⟨gb239, 1, none⟩ = some (.int .u8 a1_1) := (blk_cell BK239.out 1).trans rfl
                          have hcz35_2 : wr.cell? ⟨gb239, 2, none⟩ = some (.int .u8 a1_2) := (blk_cell BK239.out 2).trans rfl
                          have hcz35_3 : wr.cell? ⟨gb239, 3, none⟩ = some (.int .u8 a1_3) := (blk_cell BK239.out 3).trans rfl
                          have hcz35_4 : wr.cell? ⟨gb239, 4, none⟩ = some (.bool false) := (blk_cell BK239.out 4).trans rfl
                          have hfz35_0 := blk_frozen BK239.out 0
                          have hfz35_1 := blk_frozen BK239.out 1
                          have hfz35_2 := blk_frozen BK239.out 2
                          have hfz35_3 := blk_frozen BK239.out 3
                          have hfz35_4 := blk_frozen BK239.out 4
                          go_wp2_with (first | ((with_reducible refine gate_dst (N := 56) rfl ?_); refine Kd.R_lit Kd.string _ 9 ?hg (N := 56) ?hd (xs := ([(⟨#[]⟩ : ByteArray), (⟨#[120]⟩ : ByteArray), (⟨#[32, 57]⟩ : ByteArray), (⟨#[45]⟩ : ByteArray), (⟨#[46, 53, 46]⟩ : ByteArray), (⟨#[10]⟩ : ByteArray)] : List ByteArray)) (inner := [.string (⟨#[]⟩ : ByteArray), .string (⟨#[120]⟩ : ByteArray), .string (⟨#[32, 57]⟩ : ByteArray), .string (⟨#[45]⟩ : ByteArray), .string (⟨#[46, 53, 46]⟩ : ByteArray), .string (⟨#[10]⟩ : ByteArray)]) (ok := fun _ => True) (okp := fun _ => True) ?hr ?hp (fun _ hk => hk) trivial (Below.refl _ _) (Nat.le_refl _) (by simp) ?_; (case hd => rfl); (case hg => rfl); (case hr => first | (go_simp; done) | (go_simp; rfl)); (case hp => exact (Reps.one (show Kd.M Kd.string _ _ _ (⟨#[]⟩ : ByteArray) [.string (⟨#[]⟩ : ByteArray)] from rfl) (Reps.one (show Kd.M Kd.string _ _ _ (⟨#[120]⟩ : ByteArray) [.string (⟨#[120]⟩ : ByteArray)] from rfl) (Reps.one (show Kd.M Kd.string _ _ _ (⟨#[32, 57]⟩ : ByteArray) [.string (⟨#[32, 57]⟩ : ByteArray)] from rfl) (Reps.one (show Kd.M Kd.string _ _ _ (⟨#[45]⟩ : ByteArray) [.string (⟨#[45]⟩ : ByteArray)] from rfl) (Reps.one (show Kd.M Kd.string _ _ _ (⟨#[46, 53, 46]⟩ : ByteArray) [.string (⟨#[46, 53, 46]⟩ : ByteArray)] from rfl) (Reps.one (show Kd.M Kd.string _ _ _ (⟨#[10]⟩ : ByteArray) [.string (⟨#[10]⟩ : ByteArray)] from rfl) (Reps.none _ _)))))))); intro v246 w36 ho37 hb hg_ hnew_; clear hg_ hnew_; (first | rw [← Ny245.out] at ho37 | (simp only [Int.reduceToNat] at ho37; rw [← Ny245.out] at ho37)); have n0_ := Aside0.mk (Kd.R_lower ho37 (below_size (by repeat (first | (with_reducible first | exact HB.out | apply below_alloc | apply pw_below_drewN | apply below_drew1 | refine below_set ?_ GE239.out) | exact HB.out)))); have n1_ := Aside0.mk (blk_below (g := gb239) (o := .cells #[.int .u8 a1_0, .int .u8 a1_1, .int .u8 a1_2, .int .u8 a1_3, .bool false] 37 (0, 0)) (by (with_reducible repeat (first | refine blk_drewN ?_ _ | refine blk_drew ?_ | refine blk_alloc ?_ _)); exact BK239.out) hb); have n2_ := Aside0.mk (below_step (by repeat (first | (with_reducible first | exact HB.out | apply below_alloc | apply pw_below_drewN | apply below_drew1 | refine below_set ?_ GE239.out) | exact HB.out)) hb); clear BK239; clear HB; have HO247 := n0_; have BK239 := n1_; have HB := n2_; clear n0_ n1_ n2_; clear hb ho37; have hcz38_0 : w36.cell? ⟨gb239, 0, none⟩ = some (.int .u8 a1_0) := (blk_cell BK239.out 0).trans rfl; have hcz38_1 : w36.cell? ⟨gb239, 1, none⟩ = some (.int .u8 a1_1) := (blk_cell BK239.out 1).trans rfl; have hcz38_2 : w36.cell? ⟨gb239, 2, none⟩ = some (.int .u8 a1_2) := (blk_cell BK239.out 2).trans rfl; have hcz38_3 : w36.cell? ⟨gb239, 3, none⟩ = some (.int .u8 a1_3) := (blk_cell BK239.out 3).trans rfl; have hcz38_4 : w36.cell? ⟨gb239, 4, none⟩ = some (.bool false) := (blk_cell BK239.out 4).trans rfl; have hfz38_0 := blk_frozen BK239.out 0; have hfz38_1 := blk_frozen BK239.out 1; have hfz38_2 := blk_frozen BK239.out 2; have hfz38_3 := blk_frozen BK239.out 3; have hfz38_4 := blk_frozen BK239.out 4; obtain ⟨Ao39, co39, eo39⟩ := Kd.R_slice HO247.out; subst eo39; have p248 : 0 ≤ ((ji31) : Int) := of_decide_eq_true (by first | (with_reducible assumption) | assumption); have q248 : (ji31) < (y245.length : Int) := of_decide_eq_true (by first | (with_reducible assumption) | assumption); obtain ⟨ad248, e248, hx248_0⟩ := Kd.at_string (Kd.R_reads' HO247.out).2.2 (ji31) p248 q248; cases e248; replace p248 := eq_true p248; replace q248 := eq_true q248))
                          go_ret
                          exact ⟨by first | rfl | (simp [errW_none, errW_some] <;> rfl) | (simp only [← hji3, ← hji31]; first | rfl | (simp [errW_none, errW_some] <;> rfl)) | (simp [*, errW_none, errW_some] <;> rfl), by repeat (first | (with_reducible first | exact HB.out | apply below_alloc | apply pw_below_drewN | apply below_drew1 | refine below_set ?_ GE239.out) | exact HB.out)⟩
                        · rw [if_neg c34] at H
                          exact absurd H (by simp)
                      · rw [if_neg c33] at H
                        exact absurd H (by simp)
                    · rw [if_neg c32] at H
                      exact absurd H (by simp)

end Go.Proofs.YtbndinaiclkajaaDoor.Q

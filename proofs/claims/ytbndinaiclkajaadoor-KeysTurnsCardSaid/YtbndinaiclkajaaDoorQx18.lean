-- Written by a program (forkprint, a turn of the kit's print) out of the translation.
import Derived.Test.YtbndinaiclkajaaDoorQx0
import Derived.Test.YtbndinaiclkajaaDoorQx17
import Derived.Test.YtbndinaiclkajaaDoorKComp
namespace Go.Proofs.YtbndinaiclkajaaDoor.Q
open Go.RowKit Go.Proofs.YtbndinaiclkajaaDoorW.PrintWords Go.Proofs.YtbndinaiclkajaaDoorW.PrintLast Go.Proofs.YtbndinaiclkajaaDoorW.PrintMore
attribute [local go_sem] max2_int min2_int max_two min_two max_three min_three max_four min_four   -- for this text's walks alone
set_option linter.unusedVariables false
set_option linter.unusedSimpArgs false

/-! ### toolchestlaw05_KeysTurns: function 6 -/
def toolchestlaw05_KeysTurns.j0 : Nat → ByteArray → ByteArray → Bool → Bool → Bool → Bool → Bool → Int → Int → Int → Option (Bool)
  | 0, _, _, _, _, _, _, _, _, _, _ => none
  | k + 1, x1, x2, x20, x210000, x210001, x210002, x210003, x210004, x210005, x210006 => if x20 = true then ((toolchestlaw05_alive.f k).bind fun t211 => (some t211)) else ((keys_Compare.f x210000 x210001 x210002 x210003 x210004 x210005 x210006 x1 x2).bind fun t212 => ((keys_Compare.f x210000 x210001 x210002 x210003 x210004 x210005 x210006 x2 x1).bind fun t213 => (if t212 = (wrap64 (-t213)) then (if t212 ≥ (-1) then (if t212 ≤ 1 then ((keys_Compare.f x210000 x210001 x210002 (!x210003) x210004 x210005 x210006 x1 x2).bind fun t214 => (if t214 = (wrap64 (-t212)) then ((keys_Compare.f x210000 x210001 x210002 (!x210003) x210004 x210005 x210006 x1 x1).bind fun t215 => (some (t215 == 0))) else (some false))) else (some false)) else (some false)) else (some false))))
def toolchestlaw05_KeysTurns.f (k : Nat) (a0_0 : Bool) (a0_1 : Bool) (a0_2 : Bool) (a0_3 : Bool) (a0_4 : Int) (a0_5 : Int) (a0_6 : Int) (a1 : ByteArray) (a2 : ByteArray) : Option (Bool) := (toolchestlaw05_alive.f k).bind fun t210 => (if t210 = true then (if (a1.size : Int) > 20000 then (toolchestlaw05_KeysTurns.j0 k a1 a2 true a0_0 a0_1 a0_2 a0_3 a0_4 a0_5 a0_6) else (toolchestlaw05_KeysTurns.j0 k a1 a2 (decide ((a2.size : Int) > 20000)) a0_0 a0_1 a0_2 a0_3 a0_4 a0_5 a0_6)) else (toolchestlaw05_KeysTurns.j0 k a1 a2 true a0_0 a0_1 a0_2 a0_3 a0_4 a0_5 a0_6))
theorem toolchestlaw05_KeysTurns.mono_l : ∀ k, (∀ y0 y1 y2 y3 y4 y5 y6 y7 y8 y9, LeO (toolchestlaw05_KeysTurns.j0 k y0 y1 y2 y3 y4 y5 y6 y7 y8 y9) (toolchestlaw05_KeysTurns.j0 (k + 1) y0 y1 y2 y3 y4 y5 y6 y7 y8 y9))
  | 0 => fun _ _ _ _ _ _ _ _ _ _ r h => by simp [toolchestlaw05_KeysTurns.j0] at h
  | k + 1 => by
    have ih0 := toolchestlaw05_KeysTurns.mono_l k
    · intro y0 y1 y2 y3 y4 y5 y6 y7 y8 y9
      unfold toolchestlaw05_KeysTurns.j0
      repeat' first
      | (with_reducible exact ih0 _ _ _ _ _ _ _ _ _ _)
      | (with_reducible exact toolchestlaw05_alive.mono _)
      | (with_reducible exact LeO.refl _)
      | (with_reducible exact LeO.none _)
      | (with_reducible refine LeO.ite ?_ ?_)
      | (with_reducible refine LeO.bind ?_ (fun _ => ?_))
      | exact ih0 _ _ _ _ _ _ _ _ _ _
      | exact toolchestlaw05_alive.mono _
      | exact LeO.none _
      | refine LeO.ite ?_ ?_
      | refine LeO.bind ?_ (fun _ => ?_)
theorem toolchestlaw05_KeysTurns.mono : ∀ a0 a1 a2 a3 a4 a5 a6 a7 a8 k, LeO (toolchestlaw05_KeysTurns.f k a0 a1 a2 a3 a4 a5 a6 a7 a8) (toolchestlaw05_KeysTurns.f (k + 1) a0 a1 a2 a3 a4 a5 a6 a7 a8) := by
  intro a0 a1 a2 a3 a4 a5 a6 a7 a8 k
  have ih0 := toolchestlaw05_KeysTurns.mono_l k
  unfold toolchestlaw05_KeysTurns.f
  repeat' first
      | (with_reducible exact ih0 _ _ _ _ _ _ _ _ _ _)
      | (with_reducible exact toolchestlaw05_alive.mono _)
      | (with_reducible exact LeO.refl _)
      | (with_reducible exact LeO.none _)
      | (with_reducible refine LeO.ite ?_ ?_)
      | (with_reducible refine LeO.bind ?_ (fun _ => ?_))
      | exact ih0 _ _ _ _ _ _ _ _ _ _
      | exact toolchestlaw05_alive.mono _
      | exact LeO.none _
      | refine LeO.ite ?_ ?_
      | refine LeO.bind ?_ (fun _ => ?_)
set_option maxHeartbeats 8000000 in
set_option maxRecDepth 100000 in
theorem toolchestlaw05_KeysTurns.calls (k : Nat) (a0_0 : Bool) (a0_1 : Bool) (a0_2 : Bool) (a0_3 : Bool) (a0_4 : Int) (a0_5 : Int) (a0_6 : Int) (a1 : ByteArray) (a2 : ByteArray) (r : Bool) (w : World) (h : toolchestlaw05_KeysTurns.f k a0_0 a0_1 a0_2 a0_3 a0_4 a0_5 a0_6 a1 a2 = some r) :
    Calls Tryd.prog 6 #[.agg #[.bool a0_0, .bool a0_1, .bool a0_2, .bool a0_3, .int .i64 a0_4, .int .i64 a0_5, .int .u8 a0_6], .string a1, .string a2] w fun e w' => e = .returned (.bool r) ∧ Below w.heap.size w w' := by
  have hu23 := Tryd.underlying23
  have HB := Aside0.mk (Below.refl w.heap.size w)
  have H : ((toolchestlaw05_alive.f k).bind fun t210 => (if t210 = true then (if (a1.size : Int) > 20000 then (toolchestlaw05_KeysTurns.j0 k a1 a2 true a0_0 a0_1 a0_2 a0_3 a0_4 a0_5 a0_6) else (toolchestlaw05_KeysTurns.j0 k a1 a2 (decide ((a2.size : Int) > 20000)) a0_0 a0_1 a0_2 a0_3 a0_4 a0_5 a0_6)) else (toolchestlaw05_KeysTurns.j0 k a1 a2 true a0_0 a0_1 a0_2 a0_3 a0_4 a0_5 a0_6))) = some r := h
  clear h
  have HC4 := Aside0.mk H
  clear H
  go_enter Tryd.func6, Tryd.ntmps6
  go_upto_region 1 with (first | ((with_reducible refine gate_dst (N := 3) rfl ?_); (try (refine gate_guard (by rfl) ?_; dsimp only)); refine box_event ?hg (N := 3) ?hd (cs := #[.bool a0_0, .bool a0_1, .bool a0_2, .bool a0_3, .int .i64 a0_4, .int .i64 a0_5, .int .u8 a0_6]) (t := 23) ?hr ?_; (case hd => rfl); (case hg => rfl); (case hr => first | (go_simp; done) | (go_simp; rfl)); intro gb209 hg w5 hbox hb; have n0_ := Aside0.mk (below_step (by repeat (first | (with_reducible first | exact HB.out | apply below_alloc | apply pw_below_drewN | apply below_drew1) | exact HB.out)) hb); have n1_ := Aside0.mk (hbox); have n2_ := Aside0.mk ((by rw [hg]; exact (below_size (by repeat (first | (with_reducible first | exact HB.out | apply below_alloc | apply pw_below_drewN | apply below_drew1) | exact HB.out))) : w.heap.size ≤ gb209)); have n3_ := Aside0.mk ((by rw [hg]; exact (below_size (by repeat (first | (with_reducible first | exact HB.out | apply below_alloc | apply pw_below_drewN | apply below_drew1) | exact HB.out))) : w.heap.size ≤ gb209)); clear HB; have HB := n0_; have BK209 := n1_; have GW209 := n2_; have GE209 := n3_; clear n0_ n1_ n2_ n3_; clear hb hbox hg))
  (try simp only [Act.put, List.setIfInBounds_toArray, List.set_cons_zero, List.set_cons_succ])
  go_cut [20] (fun v20 wc => ∃ (kq : Nat) (x20_3 : Bool), v20 = .bool x20_3 ∧ Aside0 (toolchestlaw05_KeysTurns.j0 kq a1 a2 x20_3 a0_0 a0_1 a0_2 a0_3 a0_4 a0_5 a0_6 = some r) ∧ Aside0 (kq ≤ k) ∧ Aside0 (wc.heap[gb209]? = some (.cells #[.bool a0_0, .bool a0_1, .bool a0_2, .bool a0_3, .int .i64 a0_4, .int .i64 a0_5, .int .u8 a0_6] 23 (0, 0))) ∧ Aside0 (Below w.heap.size w wc))
  case first =>
    have H := HC4.out
    clear HC4
    replace H := Option.bind_eq_some_iff.mp H
    obtain ⟨t210, A60, H⟩ := H
    replace H : (if t210 = true then (if (a1.size : Int) > 20000 then (toolchestlaw05_KeysTurns.j0 k a1 a2 true a0_0 a0_1 a0_2 a0_3 a0_4 a0_5 a0_6) else (toolchestlaw05_KeysTurns.j0 k a1 a2 (decide ((a2.size : Int) > 20000)) a0_0 a0_1 a0_2 a0_3 a0_4 a0_5 a0_6)) else (toolchestlaw05_KeysTurns.j0 k a1 a2 true a0_0 a0_1 a0_2 a0_3 a0_4 a0_5 a0_6)) = some r := H
    have A6 := Aside0.mk A60
    clear A60
    by_cases c7 : t210 = true
    · subst c7
      have H1 : (if (a1.size : Int) > 20000 then (toolchestlaw05_KeysTurns.j0 k a1 a2 true a0_0 a0_1 a0_2 a0_3 a0_4 a0_5 a0_6) else (toolchestlaw05_KeysTurns.j0 k a1 a2 (decide ((a2.size : Int) > 20000)) a0_0 a0_1 a0_2 a0_3 a0_4 a0_5 a0_6)) = some r := by rw [if_pos rfl] at H; exact H
      clear H
      have H := H1
      clear H1
      by_cases c8 : (a1.size : Int) > 20000
      · rw [if_pos c8] at H
        have c8b0 : decide (20000 < (a1.size : Int)) = true := decide_eq_true c8
        have c8b1 : decide (20000 < a1.size) = true := decide_eq_true (by omega)
        clear c8
        (first | rw [c8b0] | (simp only [i64_w, i32_w]; rw [c8b0]) | skip)
        have H' := Aside0.mk H
        clear H
        go_wp2_with (first | ((with_reducible refine gate_callee (f := 21) rfl ?_); refine goesL_ (some 9) rfl rfl Tryd.func21 (by kernel_rfl) rfl #[] rfl (by (try simp only [List.map_toArray, List.map_cons, List.map_nil]); first | done | rfl | (simp only [List.length_drop, List.length_take]; rfl)) ?_; (with_reducible refine (toolchestlaw05_alive.calls k  true _ A6.out).mono ?_); rintro e w9 ⟨rfl, hb⟩; refine ⟨_, rfl, ?_⟩; have n0_ := Aside0.mk (blk_below (g := gb209) (o := .cells #[.bool a0_0, .bool a0_1, .bool a0_2, .bool a0_3, .int .i64 a0_4, .int .i64 a0_5, .int .u8 a0_6] 23 (0, 0)) (by (with_reducible repeat (first | refine blk_drewN ?_ _ | refine blk_drew ?_ | refine blk_alloc ?_ _)); exact BK209.out) hb); have n1_ := Aside0.mk (below_step (by repeat (first | (with_reducible first | exact HB.out | apply below_alloc | apply pw_below_drewN | apply below_drew1 | refine below_set ?_ GE209.out) | exact HB.out)) hb); clear BK209; clear HB; have BK209 := n0_; have HB := n1_; clear n0_ n1_; (try clear hb); (try clear hb2); (try clear hk); (try clear hi)))
        go_meet
        case rel => exact ⟨_, (true), (by first | rfl | (simp; done) | (simp [*]; done)), H', ⟨by first | omega | exact Nat.le_refl _⟩, ⟨by (with_reducible repeat (first | refine blk_drewN ?_ _ | refine blk_drew ?_ | refine blk_alloc ?_ _)); exact BK209.out⟩, ⟨by repeat (first | (with_reducible first | exact HB.out | apply below_alloc | apply pw_below_drewN | apply below_drew1 | refine below_set ?_ GE209.out) | exact HB.out)⟩⟩
      · rw [if_neg c8] at H
        have c8b0 : decide (20000 < (a1.size : Int)) = false := decide_eq_false c8
        have c8b1 : decide (20000 < a1.size) = false := decide_eq_false (by omega)
        clear c8
        (first | rw [c8b0] | (simp only [i64_w, i32_w]; rw [c8b0]) | skip)
        have H' := Aside0.mk H
        clear H
        go_wp2_with (first | ((with_reducible refine gate_callee (f := 21) rfl ?_); refine goesL_ (some 9) rfl rfl Tryd.func21 (by kernel_rfl) rfl #[] rfl (by (try simp only [List.map_toArray, List.map_cons, List.map_nil]); first | done | rfl | (simp only [List.length_drop, List.length_take]; rfl)) ?_; (with_reducible refine (toolchestlaw05_alive.calls k  true _ A6.out).mono ?_); rintro e w10 ⟨rfl, hb⟩; refine ⟨_, rfl, ?_⟩; have n0_ := Aside0.mk (blk_below (g := gb209) (o := .cells #[.bool a0_0, .bool a0_1, .bool a0_2, .bool a0_3, .int .i64 a0_4, .int .i64 a0_5, .int .u8 a0_6] 23 (0, 0)) (by (with_reducible repeat (first | refine blk_drewN ?_ _ | refine blk_drew ?_ | refine blk_alloc ?_ _)); exact BK209.out) hb); have n1_ := Aside0.mk (below_step (by repeat (first | (with_reducible first | exact HB.out | apply below_alloc | apply pw_below_drewN | apply below_drew1 | refine below_set ?_ GE209.out) | exact HB.out)) hb); clear BK209; clear HB; have BK209 := n0_; have HB := n1_; clear n0_ n1_; (try clear hb); (try clear hb2); (try clear hk); (try clear hi)))
        go_meet
        case rel => exact ⟨_, (decide ((a2.size : Int) > 20000)), (by first | rfl | (simp; done) | (simp [*]; done)), H', ⟨by first | omega | exact Nat.le_refl _⟩, ⟨by (with_reducible repeat (first | refine blk_drewN ?_ _ | refine blk_drew ?_ | refine blk_alloc ?_ _)); exact BK209.out⟩, ⟨by repeat (first | (with_reducible first | exact HB.out | apply below_alloc | apply pw_below_drewN | apply below_drew1 | refine below_set ?_ GE209.out) | exact HB.out)⟩⟩
    · replace c7 := Bool.eq_false_iff.mpr c7
      subst c7
      have H1 : (toolchestlaw05_KeysTurns.j0 k a1 a2 true a0_0 a0_1 a0_2 a0_3 a0_4 a0_5 a0_6) = some r := by rw [if_neg (show ¬ (false = true) by decide)] at H; exact H
      clear H
      have H := H1
      clear H1
      have H' := Aside0.mk H
      clear H
      go_wp2_with (first | ((with_reducible refine gate_callee (f := 21) rfl ?_); refine goesL_ (some 9) rfl rfl Tryd.func21 (by kernel_rfl) rfl #[] rfl (by (try simp only [List.map_toArray, List.map_cons, List.map_nil]); first | done | rfl | (simp only [List.length_drop, List.length_take]; rfl)) ?_; (with_reducible refine (toolchestlaw05_alive.calls k  false _ A6.out).mono ?_); rintro e w11 ⟨rfl, hb⟩; refine ⟨_, rfl, ?_⟩; have n0_ := Aside0.mk (blk_below (g := gb209) (o := .cells #[.bool a0_0, .bool a0_1, .bool a0_2, .bool a0_3, .int .i64 a0_4, .int .i64 a0_5, .int .u8 a0_6] 23 (0, 0)) (by (with_reducible repeat (first | refine blk_drewN ?_ _ | refine blk_drew ?_ | refine blk_alloc ?_ _)); exact BK209.out) hb); have n1_ := Aside0.mk (below_step (by repeat (first | (with_reducible first | exact HB.out | apply below_alloc | apply pw_below_drewN | apply below_drew1 | refine below_set ?_ GE209.out) | exact HB.out)) hb); clear BK209; clear HB; have BK209 := n0_; have HB := n1_; clear n0_ n1_; (try clear hb); (try clear hb2); (try clear hk); (try clear hi)))
      go_meet
      case rel => exact ⟨_, (true), (by first | rfl | (simp; done) | (simp [*]; done)), H', ⟨by first | omega | exact Nat.le_refl _⟩, ⟨by (with_reducible repeat (first | refine blk_drewN ?_ _ | refine blk_drew ?_ | refine blk_alloc ?_ _)); exact BK209.out⟩, ⟨by repeat (first | (with_reducible first | exact HB.out | apply below_alloc | apply pw_below_drewN | apply below_drew1 | refine below_set ?_ GE209.out) | exact HB.out)⟩⟩
  case rest =>
    clear HC4
    try clear c2
    try clear p2
    try clear c6
    try clear c7
    try clear c8
    try clear c8b0
    try clear c8b1
    obtain ⟨kq, x20_3, rfl, HA, HJ3, BK209, HB⟩ := hcut
    cases kq with
    | zero => exact absurd HA.out (by simp [toolchestlaw05_KeysTurns.j0])
    | succ kj3 =>
      have H := HA.out
      clear HA
      simp only [toolchestlaw05_KeysTurns.j0] at H
      by_cases c12 : x20_3 = true
      · subst c12
        have H1 : ((toolchestlaw05_alive.f kj3).bind fun t211 => (some t211)) = some r := by rw [if_pos rfl] at H; exact H
        clear H
        have H := H1
        clear H1
        replace H := Option.bind_eq_some_iff.mp H
        obtain ⟨t211, A130, H⟩ := H
        replace H : (some t211) = some r := H
        have A13 := Aside0.mk A130
        clear A130
        obtain rfl := Option.some.inj H
        go_wp2_with (first | ((with_reducible refine gate_callee (f := 21) rfl ?_); refine goesL_ (some 21) rfl rfl Tryd.func21 (by kernel_rfl) rfl #[] rfl (by (try simp only [List.map_toArray, List.map_cons, List.map_nil]); first | done | rfl | (simp only [List.length_drop, List.length_take]; rfl)) ?_; (with_reducible refine (toolchestlaw05_alive.calls kj3  t211 _ A13.out).mono ?_); rintro e w14 ⟨rfl, hb⟩; refine ⟨_, rfl, ?_⟩; have n0_ := Aside0.mk (blk_below (g := gb209) (o := .cells #[.bool a0_0, .bool a0_1, .bool a0_2, .bool a0_3, .int .i64 a0_4, .int .i64 a0_5, .int .u8 a0_6] 23 (0, 0)) (by (with_reducible repeat (first | refine blk_drewN ?_ _ | refine blk_drew ?_ | refine blk_alloc ?_ _)); exact BK209.out) hb); have n1_ := Aside0.mk (below_step (by repeat (first | (with_reducible first | exact HB.out | apply below_alloc | apply pw_below_drewN | apply below_drew1 | refine below_set ?_ GE209.out) | exact HB.out)) hb); clear BK209; clear HB; have BK209 := n0_; have HB := n1_; clear n0_ n1_; (try clear hb); (try clear hb2); (try clear hk); (try clear hi)))
        go_ret
        exact ⟨by first | rfl | (simp [errW_none, errW_some] <;> rfl) | (simp [*, errW_none, errW_some] <;> rfl), by repeat (first | (with_reducible first | exact HB.out | apply below_alloc | apply pw_below_drewN | apply below_drew1 | refine below_set ?_ GE209.out) | exact HB.out)⟩
      · replace c12 := Bool.eq_false_iff.mpr c12
        subst c12
        have H1 : ((keys_Compare.f a0_0 a0_1 a0_2 a0_3 a0_4 a0_5 a0_6 a1 a2).bind fun t212 => ((keys_Compare.f a0_0 a0_1 a0_2 a0_3 a0_4 a0_5 a0_6 a2 a1).bind fun t213 => (if t212 = (wrap64 (-t213)) then (if t212 ≥ (-1) then (if t212 ≤ 1 then ((keys_Compare.f a0_0 a0_1 a0_2 (!a0_3) a0_4 a0_5 a0_6 a1 a2).bind fun t214 => (if t214 = (wrap64 (-t212)) then ((keys_Compare.f a0_0 a0_1 a0_2 (!a0_3) a0_4 a0_5 a0_6 a1 a1).bind fun t215 => (some (t215 == 0))) else (some false))) else (some false)) else (some false)) else (some false)))) = some r := by rw [if_neg (show ¬ (false = true) by decide)] at H; exact H
        clear H
        have H := H1
        clear H1
        replace H := Option.bind_eq_some_iff.mp H
        obtain ⟨t212, A150, H⟩ := H
        replace H : ((keys_Compare.f a0_0 a0_1 a0_2 a0_3 a0_4 a0_5 a0_6 a2 a1).bind fun t213 => (if t212 = (wrap64 (-t213)) then (if t212 ≥ (-1) then (if t212 ≤ 1 then ((keys_Compare.f a0_0 a0_1 a0_2 (!a0_3) a0_4 a0_5 a0_6 a1 a2).bind fun t214 => (if t214 = (wrap64 (-t212)) then ((keys_Compare.f a0_0 a0_1 a0_2 (!a0_3) a0_4 a0_5 a0_6 a1 a1).bind fun t215 => (some (t215 == 0))) else (some false))) else (some false)) else (some false)) else (some false))) = some r := H
        have A15 := Aside0.mk A150
        clear A150
        replace H := Option.bind_eq_some_iff.mp H
        obtain ⟨t213, A160, H⟩ := H
        replace H : (if t212 = (wrap64 (-t213)) then (if t212 ≥ (-1) then (if t212 ≤ 1 then ((keys_Compare.f a0_0 a0_1 a0_2 (!a0_3) a0_4 a0_5 a0_6 a1 a2).bind fun t214 => (if t214 = (wrap64 (-t212)) then ((keys_Compare.f a0_0 a0_1 a0_2 (!a0_3) a0_4 a0_5 a0_6 a1 a1).bind fun t215 => (some (t215 == 0))) else (some false))) else (some false)) else (some false)) else (some false)) = some r := H
        have A16 := Aside0.mk A160
        clear A160
        by_cases c17 : t212 = (wrap64 (-t213))
        · rw [if_pos c17] at H
          have c17b0 : (t212 == (wrap64 (-t213))) = true := beq_iff_eq.mpr c17
          have c17b1 : (t212 != (wrap64 (-t213))) = false := bne_eq_false_iff_eq.mpr c17
          clear c17
          by_cases c18 : t212 ≥ (-1)
          · rw [if_pos c18] at H
            have c18b0 : decide ((-1) ≤ t212) = true := decide_eq_true c18
            clear c18
            by_cases c19 : t212 ≤ 1
            · rw [if_pos c19] at H
              have c19b0 : decide (t212 ≤ 1) = true := decide_eq_true c19
              clear c19
              replace H := Option.bind_eq_some_iff.mp H
              obtain ⟨t214, A200, H⟩ := H
              replace H : (if t214 = (wrap64 (-t212)) then ((keys_Compare.f a0_0 a0_1 a0_2 (!a0_3) a0_4 a0_5 a0_6 a1 a1).bind fun t215 => (some (t215 == 0))) else (some false)) = some r := H
              have A20 := Aside0.mk A200
              clear A200
              by_cases c21 : t214 = (wrap64 (-t212))
              · rw [if_pos c21] at H
                have c21b0 : (t214 == (wrap64 (-t212))) = true := beq_iff_eq.mpr c21
                have c21b1 : (t214 != (wrap64 (-t212))) = false := bne_eq_false_iff_eq.mpr c21
                clear c21
                replace H := Option.bind_eq_some_iff.mp H
                obtain ⟨t215, A220, H⟩ := H
                replace H : (some (t215 == 0)) = some r := H
                have A22 := Aside0.mk A220
                clear A220
                obtain rfl := Option.some.inj H
                have hcz23_0 : wc.cell? ⟨gb209, 0, none⟩ = some (.bool a0_0) := (blk_cell BK209.out 0).trans rfl
                have hcz23_1 : wc.cell? ⟨gb209, 1, none⟩ = some (.bool a0_1) := (blk_cell BK209.out 1).trans rfl
                have hcz23_2 : wc.cell? ⟨gb209, 2, none⟩ = some (.bool a0_2) := (blk_cell BK209.out 2).trans rfl
                have hcz23_3 : wc.cell? ⟨gb209, 3, none⟩ = some (.bool a0_3) := (blk_cell BK209.out 3).trans rfl
                have hcz23_4 : wc.cell? ⟨gb209, 4, none⟩ = some (.int .i64 a0_4) := (blk_cell BK209.out 4).trans rfl
                have hcz23_5 : wc.cell? ⟨gb209, 5, none⟩ = some (.int .i64 a0_5) := (blk_cell BK209.out 5).trans rfl
                have hcz23_6 : wc.cell? ⟨gb209, 6, none⟩ = some (.int .u8 a0_6) := (blk_cell BK209.out 6).trans rfl
                have hfz23_0 := blk_frozen BK209.out 0
                have hfz23_1 := blk_frozen BK209.out 1
                have hfz23_2 := blk_frozen BK209.out 2
                have hfz23_3 := blk_frozen BK209.out 3
                have hfz23_4 := blk_frozen BK209.out 4
                have hfz23_5 := blk_frozen BK209.out 5
                have hfz23_6 := blk_frozen BK209.out 6
                go_wp2_with (first | ((with_reducible refine gate_callee (f := 19) rfl ?_); refine goesL_ (some 25) rfl rfl Tryd.func19 (by kernel_rfl) rfl #[.agg #[.bool a0_0, .bool a0_1, .bool a0_2, .bool a0_3, .int .i64 a0_4, .int .i64 a0_5, .int .u8 a0_6], .string a1, .string a2] rfl (by (try simp only [List.map_toArray, List.map_cons, List.map_nil]); first | done | rfl | (simp only [List.length_drop, List.length_take]; rfl)) ?_; (with_reducible refine (keys_Compare.calls a0_0 a0_1 a0_2 a0_3 a0_4 a0_5 a0_6 a1 a2 t212 _ A15.out).mono ?_); rintro e w24 ⟨rfl, hb⟩; refine ⟨_, rfl, ?_⟩; have n0_ := Aside0.mk (blk_below (g := gb209) (o := .cells #[.bool a0_0, .bool a0_1, .bool a0_2, .bool a0_3, .int .i64 a0_4, .int .i64 a0_5, .int .u8 a0_6] 23 (0, 0)) (by (with_reducible repeat (first | refine blk_drewN ?_ _ | refine blk_drew ?_ | refine blk_alloc ?_ _)); exact BK209.out) hb); have n1_ := Aside0.mk (below_step (by repeat (first | (with_reducible first | exact HB.out | apply below_alloc | apply pw_below_drewN | apply below_drew1 | refine below_set ?_ GE209.out) | exact HB.out)) hb); clear BK209; clear HB; have BK209 := n0_; have HB := n1_; clear n0_ n1_; (try clear hb); (try clear hb2); (try clear hk); (try clear hi); have hcz25_0 : w24.cell? ⟨gb209, 0, none⟩ = some (.bool a0_0) := (blk_cell BK209.out 0).trans rfl; have hcz25_1 : w24.cell? ⟨gb209, 1, none⟩ = some (.bool a0_1) := (blk_cell BK209.out 1).trans rfl; have hcz25_2 : w24.cell? ⟨gb209, 2, none⟩ = some (.bool a0_2) := (blk_cell BK209.out 2).trans rfl; have hcz25_3 : w24.cell? ⟨gb209, 3, none⟩ = some (.bool a0_3) := (blk_cell BK209.out 3).trans rfl; have hcz25_4 : w24.cell? ⟨gb209, 4, none⟩ = some (.int .i64 a0_4) := (blk_cell BK209.out 4).trans rfl; have hcz25_5 : w24.cell? ⟨gb209, 5, none⟩ = some (.int .i64 a0_5) := (blk_cell BK209.out 5).trans rfl; have hcz25_6 : w24.cell? ⟨gb209, 6, none⟩ = some (.int .u8 a0_6) := (blk_cell BK209.out 6).trans rfl; have hfz25_0 := blk_frozen BK209.out 0; have hfz25_1 := blk_frozen BK209.out 1; have hfz25_2 := blk_frozen BK209.out 2; have hfz25_3 := blk_frozen BK209.out 3; have hfz25_4 := blk_frozen BK209.out 4; have hfz25_5 := blk_frozen BK209.out 5; have hfz25_6 := blk_frozen BK209.out 6) | ((with_reducible refine gate_callee (f := 19) rfl ?_); refine goesL_ (some 29) rfl rfl Tryd.func19 (by kernel_rfl) rfl #[.agg #[.bool a0_0, .bool a0_1, .bool a0_2, .bool a0_3, .int .i64 a0_4, .int .i64 a0_5, .int .u8 a0_6], .string a2, .string a1] rfl (by (try simp only [List.map_toArray, List.map_cons, List.map_nil]); first | done | rfl | (simp only [List.length_drop, List.length_take]; rfl)) ?_; (with_reducible refine (keys_Compare.calls a0_0 a0_1 a0_2 a0_3 a0_4 a0_5 a0_6 a2 a1 t213 _ A16.out).mono ?_); rintro e w26 ⟨rfl, hb⟩; refine ⟨_, rfl, ?_⟩; have n0_ := Aside0.mk (blk_below (g := gb209) (o := .cells #[.bool a0_0, .bool a0_1, .bool a0_2, .bool a0_3, .int .i64 a0_4, .int .i64 a0_5, .int .u8 a0_6] 23 (0, 0)) (by (with_reducible repeat (first | refine blk_drewN ?_ _ | refine blk_drew ?_ | refine blk_alloc ?_ _)); exact BK209.out) hb); have n1_ := Aside0.mk (below_step (by repeat (first | (with_reducible first | exact HB.out | apply below_alloc | apply pw_below_drewN | apply below_drew1 | refine below_set ?_ GE209.out) | exact HB.out)) hb); clear BK209; clear HB; have BK209 := n0_; have HB := n1_; clear n0_ n1_; (try clear hb); (try clear hb2); (try clear hk); (try clear hi); have hcz27_0 : w26.cell? ⟨gb209, 0, none⟩ = some (.bool a0_0) := (blk_cell BK209.out 0).trans rfl; have hcz27_1 : w26.cell? ⟨gb209, 1, none⟩ = some (.bool a0_1) := (blk_cell BK209.out 1).trans rfl; have hcz27_2 : w26.cell? ⟨gb209, 2, none⟩ = some (.bool a0_2) := (blk_cell BK209.out 2).trans rfl; have hcz27_3 : w26.cell? ⟨gb209, 3, none⟩ = some (.bool a0_3) := (blk_cell BK209.out 3).trans rfl; have hcz27_4 : w26.cell? ⟨gb209, 4, none⟩ = some (.int .i64 a0_4) := (blk_cell BK209.out 4).trans rfl; have hcz27_5 : w26.cell? ⟨gb209, 5, none⟩ = some (.int .i64 a0_5) := (blk_cell BK209.out 5).trans rfl; have hcz27_6 : w26.cell? ⟨gb209, 6, none⟩ = some (.int .u8 a0_6) := (blk_cell BK209.out 6).trans rfl; have hfz27_0 := blk_frozen BK209.out 0; have hfz27_1 := blk_frozen BK209.out 1; have hfz27_2 := blk_frozen BK209.out 2; have hfz27_3 := blk_frozen BK209.out 3; have hfz27_4 := blk_frozen BK209.out 4; have hfz27_5 := blk_frozen BK209.out 5; have hfz27_6 := blk_frozen BK209.out 6) | (go_at_call 19; (with_reducible refine (keys_Compare.calls a0_0 a0_1 a0_2 (!a0_3) a0_4 a0_5 a0_6 a1 a2 t214 _ A20.out).mono ?_); rintro e w28 ⟨rfl, hb⟩; have n0_ := Aside0.mk (blk_below (g := gb209) (o := .cells #[.bool a0_0, .bool a0_1, .bool a0_2, .bool (!a0_3), .int .i64 a0_4, .int .i64 a0_5, .int .u8 a0_6] 23 (0, 0)) (by (with_reducible repeat (first | refine blk_drewN ?_ _ | refine blk_drew ?_ | refine blk_alloc ?_ _)); refine blk_put (cs := #[.bool a0_0, .bool a0_1, .bool a0_2, .bool a0_3, .int .i64 a0_4, .int .i64 a0_5, .int .u8 a0_6]) ?_ 3 _ rfl; (with_reducible repeat (first | refine blk_drewN ?_ _ | refine blk_drew ?_ | refine blk_alloc ?_ _)); exact BK209.out) hb); have n1_ := Aside0.mk (below_step (by repeat (first | (with_reducible first | exact HB.out | apply below_alloc | apply pw_below_drewN | apply below_drew1 | refine below_set ?_ GE209.out) | exact HB.out)) hb); clear BK209; clear HB; have BK209 := n0_; have HB := n1_; clear n0_ n1_; (try clear hb); (try clear hb2); (try clear hk); (try clear hi); have hcz29_0 : w28.cell? ⟨gb209, 0, none⟩ = some (.bool a0_0) := (blk_cell BK209.out 0).trans rfl; have hcz29_1 : w28.cell? ⟨gb209, 1, none⟩ = some (.bool a0_1) := (blk_cell BK209.out 1).trans rfl; have hcz29_2 : w28.cell? ⟨gb209, 2, none⟩ = some (.bool a0_2) := (blk_cell BK209.out 2).trans rfl; have hcz29_3 : w28.cell? ⟨gb209, 3, none⟩ = some (.bool (!a0_3)) := (blk_cell BK209.out 3).trans rfl; have hcz29_4 : w28.cell? ⟨gb209, 4, none⟩ = some (.int .i64 a0_4) := (blk_cell BK209.out 4).trans rfl; have hcz29_5 : w28.cell? ⟨gb209, 5, none⟩ = some (.int .i64 a0_5) := (blk_cell BK209.out 5).trans rfl; have hcz29_6 : w28.cell? ⟨gb209, 6, none⟩ = some (.int .u8 a0_6) := (blk_cell BK209.out 6).trans rfl; have hfz29_0 := blk_frozen BK209.out 0; have hfz29_1 := blk_frozen BK209.out 1; have hfz29_2 := blk_frozen BK209.out 2; have hfz29_3 := blk_frozen BK209.out 3; have hfz29_4 := blk_frozen BK209.out 4; have hfz29_5 := blk_frozen BK209.out 5; have hfz29_6 := blk_frozen BK209.out 6) | (go_at_call 19; (with_reducible refine (keys_Compare.calls a0_0 a0_1 a0_2 (!a0_3) a0_4 a0_5 a0_6 a1 a1 t215 _ A22.out).mono ?_); rintro e w30 ⟨rfl, hb⟩; have n0_ := Aside0.mk (blk_below (g := gb209) (o := .cells #[.bool a0_0, .bool a0_1, .bool a0_2, .bool (!a0_3), .int .i64 a0_4, .int .i64 a0_5, .int .u8 a0_6] 23 (0, 0)) (by (with_reducible repeat (first | refine blk_drewN ?_ _ | refine blk_drew ?_ | refine blk_alloc ?_ _)); exact BK209.out) hb); have n1_ := Aside0.mk (below_step (by repeat (first | (with_reducible first | exact HB.out | apply below_alloc | apply pw_below_drewN | apply below_drew1 | refine below_set ?_ GE209.out) | exact HB.out)) hb); clear BK209; clear HB; have BK209 := n0_; have HB := n1_; clear n0_ n1_; (try clear hb); (try clear hb2); (try clear hk); (try clear hi)))
                go_ret
                exact ⟨by first | rfl | (simp [errW_none, errW_some] <;> rfl) | (simp [*, errW_none, errW_some] <;> rfl), by repeat (first | (with_reducible first | exact HB.out | apply below_alloc | apply pw_below_drewN | apply below_drew1 | refine below_set ?_ GE209.out) | exact HB.out)⟩
              · rw [if_neg c21] at H
                have c21b0 : (t214 == (wrap64 (-t212))) = false := beq_eq_false_iff_ne.mpr c21
                have c21b1 : (t214 != (wrap64 (-t212))) = true := bne_iff_ne.mpr c21
                obtain rfl := Option.some.inj H
                have hcz31_0 : wc.cell? ⟨gb209, 0, none⟩ = some (.bool a0_0) := (blk_cell BK209.out 0).trans rfl
                have hcz31_1 : wc.cell? ⟨gb209, 1, none⟩ = some (.bool a0_1) := (blk_cell BK209.out 1).trans rfl
                have hcz31_2 : wc.cell? ⟨gb209, 2, none⟩ = some (.bool a0_2) := (blk_cell BK209.out 2).trans rfl
                have hcz31_3 : wc.cell? ⟨gb209, 3, none⟩ = some (.bool a0_3) := (blk_cell BK209.out 3).trans rfl
                have hcz31_4 : wc.cell? ⟨gb209, 4, none⟩ = some (.int .i64 a0_4) := (blk_cell BK209.out 4).trans rfl
                have hcz31_5 : wc.cell? ⟨gb209, 5, none⟩ = some (.int .i64 a0_5) := (blk_cell BK209.out 5).trans rfl
                have hcz31_6 : wc.cell? ⟨gb209, 6, none⟩ = some (.int .u8 a0_6) := (blk_cell BK209.out 6).trans rfl
                have hfz31_0 := blk_frozen BK209.out 0
                have hfz31_1 := blk_frozen BK209.out 1
                have hfz31_2 := blk_frozen BK209.out 2
                have hfz31_3 := blk_frozen BK209.out 3
                have hfz31_4 := blk_frozen BK209.out 4
                have hfz31_5 := blk_frozen BK209.out 5
                have hfz31_6 := blk_frozen BK209.out 6
                go_wp2_with (first | ((with_reducible refine gate_callee (f := 19) rfl ?_); refine goesL_ (some 25) rfl rfl Tryd.func19 (by kernel_rfl) rfl #[.agg #[.bool a0_0, .bool a0_1, .bool a0_2, .bool a0_3, .int .i64 a0_4, .int .i64 a0_5, .int .u8 a0_6], .string a1, .string a2] rfl (by (try simp only [List.map_toArray, List.map_cons, List.map_nil]); first | done | rfl | (simp only [List.length_drop, List.length_take]; rfl)) ?_; (with_reducible refine (keys_Compare.calls a0_0 a0_1 a0_2 a0_3 a0_4 a0_5 a0_6 a1 a2 t212 _ A15.out).mono ?_); rintro e w32 ⟨rfl, hb⟩; refine ⟨_, rfl, ?_⟩; have n0_ := Aside0.mk (blk_below (g := gb209) (o := .cells #[.bool a0_0, .bool a0_1, .bool a0_2, .bool a0_3, .int .i64 a0_4, .int .i64 a0_5, .int .u8 a0_6] 23 (0, 0)) (by (with_reducible repeat (first | refine blk_drewN ?_ _ | refine blk_drew ?_ | refine blk_alloc ?_ _)); exact BK209.out) hb); have n1_ := Aside0.mk (below_step (by repeat (first | (with_reducible first | exact HB.out | apply below_alloc | apply pw_below_drewN | apply below_drew1 | refine below_set ?_ GE209.out) | exact HB.out)) hb); clear BK209; clear HB; have BK209 := n0_; have HB := n1_; clear n0_ n1_; (try clear hb); (try clear hb2); (try clear hk); (try clear hi); have hcz33_0 : w32.cell? ⟨gb209, 0, none⟩ = some (.bool a0_0) := (blk_cell BK209.out 0).trans rfl; have hcz33_1 : w32.cell? ⟨gb209, 1, none⟩ = some (.bool a0_1) := (blk_cell BK209.out 1).trans rfl; have hcz33_2 : w32.cell? ⟨gb209, 2, none⟩ = some (.bool a0_2) := (blk_cell BK209.out 2).trans rfl; have hcz33_3 : w32.cell? ⟨gb209, 3, none⟩ = some (.bool a0_3) := (blk_cell BK209.out 3).trans rfl; have hcz33_4 : w32.cell? ⟨gb209, 4, none⟩ = some (.int .i64 a0_4) := (blk_cell BK209.out 4).trans rfl; have hcz33_5 : w32.cell? ⟨gb209, 5, none⟩ = some (.int .i64 a0_5) := (blk_cell BK209.out 5).trans rfl; have hcz33_6 : w32.cell? ⟨gb209, 6, none⟩ = some (.int .u8 a0_6) := (blk_cell BK209.out 6).trans rfl; have hfz33_0 := blk_frozen BK209.out 0; have hfz33_1 := blk_frozen BK209.out 1; have hfz33_2 := blk_frozen BK209.out 2; have hfz33_3 := blk_frozen BK209.out 3; have hfz33_4 := blk_frozen BK209.out 4; have hfz33_5 := blk_frozen BK209.out 5; have hfz33_6 := blk_frozen BK209.out 6) | ((with_reducible refine gate_callee (f := 19) rfl ?_); refine goesL_ (some 29) rfl rfl Tryd.func19 (by kernel_rfl) rfl #[.agg #[.bool a0_0, .bool a0_1, .bool a0_2, .bool a0_3, .int .i64 a0_4, .int .i64 a0_5, .int .u8 a0_6], .string a2, .string a1] rfl (by (try simp only [List.map_toArray, List.map_cons, List.map_nil]); first | done | rfl | (simp only [List.length_drop, List.length_take]; rfl)) ?_; (with_reducible refine (keys_Compare.calls a0_0 a0_1 a0_2 a0_3 a0_4 a0_5 a0_6 a2 a1 t213 _ A16.out).mono ?_); rintro e w34 ⟨rfl, hb⟩; refine ⟨_, rfl, ?_⟩; have n0_ := Aside0.mk (blk_below (g := gb209) (o := .cells #[.bool a0_0, .bool a0_1, .bool a0_2, .bool a0_3, .int .i64 a0_4, .int .i64 a0_5, .int .u8 a0_6] 23 (0, 0)) (by (with_reducible repeat (first | refine blk_drewN ?_ _ | refine blk_drew ?_ | refine blk_alloc ?_ _)); exact BK209.out) hb); have n1_ := Aside0.mk (below_step (by repeat (first | (with_reducible first | exact HB.out | apply below_alloc | apply pw_below_drewN | apply below_drew1 | refine below_set ?_ GE209.out) | exact HB.out)) hb); clear BK209; clear HB; have BK209 := n0_; have HB := n1_; clear n0_ n1_; (try clear hb); (try clear hb2); (try clear hk); (try clear hi); have hcz35_0 : w34.cell? ⟨gb209, 0, none⟩ = some (.bool a0_0) := (blk_cell BK209.out 0).trans rfl; have hcz35_1 : w34.cell? ⟨gb209, 1, none⟩ = some (.bool a0_1) := (blk_cell BK209.out 1).trans rfl; have hcz35_2 : w34.cell? ⟨gb209, 2, none⟩ = some (.bool a0_2) := (blk_cell BK209.out 2).trans rfl; have hcz35_3 : w34.cell? ⟨gb209, 3, none⟩ = some (.bool a0_3) := (blk_cell BK209.out 3).trans rfl; have hcz35_4 : w34.cell? ⟨gb209, 4, none⟩ = some (.int .i64 a0_4) := (blk_cell BK209.out 4).trans rfl; have hcz35_5 : w34.cell? ⟨gb209, 5, none⟩ = some (.int .i64 a0_5) := (blk_cell BK209.out 5).trans rfl; have hcz35_6 : w34.cell? ⟨gb209, 6, none⟩ = some (.int .u8 a0_6) := (blk_cell BK209.out 6).trans rfl; have hfz35_0 := blk_frozen BK209.out 0; have hfz35_1 := blk_frozen BK209.out 1; have hfz35_2 := blk_frozen BK209.out 2; have hfz35_3 := blk_frozen BK209.out 3; have hfz35_4 := blk_frozen BK209.out 4; have hfz35_5 := blk_frozen BK209.out 5; have hfz35_6 := blk_frozen BK209.out 6) | (go_at_call 19; (with_reducible refine (keys_Compare.calls a0_0 a0_1 a0_2 (!a0_3) a0_4 a0_5 a0_6 a1 a2 t214 _ A20.out).mono ?_); rintro e w36 ⟨rfl, hb⟩; have n0_ := Aside0.mk (blk_below (g := gb209) (o := .cells #[.bool a0_0, .bool a0_1, .bool a0_2, .bool (!a0_3), .int .i64 a0_4, .int .i64 a0_5, .int .u8 a0_6] 23 (0, 0)) (by (with_reducible repeat (first | refine blk_drewN ?_ _ | refine blk_drew ?_ | refine blk_alloc ?_ _)); refine blk_put (cs := #[.bool a0_0, .bool a0_1, .bool a0_2, .bool a0_3, .int .i64 a0_4, .int .i64 a0_5, .int .u8 a0_6]) ?_ 3 _ rfl; (with_reducible repeat (first | refine blk_drewN ?_ _ | refine blk_drew ?_ | refine blk_alloc ?_ _)); exact BK209.out) hb); have n1_ := Aside0.mk (below_step (by repeat (first | (with_reducible first | exact HB.out | apply below_alloc | apply pw_below_drewN | apply below_drew1 | refine below_set ?_ GE209.out) | exact HB.out)) hb); clear BK209; clear HB; have BK209 := n0_; have HB := n1_; clear n0_ n1_; (try clear hb); (try clear hb2); (try clear hk); (try clear hi)))
                go_ret
                exact ⟨by first | rfl | (simp [errW_none, errW_some] <;> rfl) | (simp [*, errW_none, errW_some] <;> rfl), by repeat (first | (with_reducible first | exact HB.out | apply below_alloc | apply pw_below_drewN | apply below_drew1 | refine below_set ?_ GE209.out) | exact HB.out)⟩
            · rw [if_neg c19] at H
              have c19b0 : decide (t212 ≤ 1) = false := decide_eq_false c19
              clear c19
              obtain rfl := Option.some.inj H
              have hcz37_0 : wc.cell? ⟨gb209, 0, none⟩ = some (.bool a0_0) := (blk_cell BK209.out 0).trans rfl
              have hcz37_1 : wc.cell? ⟨gb209, 1, none⟩ = some (.bool a0_1) := (blk_cell BK209.out 1).trans rfl
              have hcz37_2 : wc.cell? ⟨gb209, 2, none⟩ = some (.bool a0_2) := (blk_cell BK209.out 2).trans rfl
              have hcz37_3 : wc.cell? ⟨gb209, 3, none⟩ = some (.bool a0_3) := (blk_cell BK209.out 3).trans rfl
              have hcz37_4 : wc.cell? ⟨gb209, 4, none⟩ = some (.int .i64 a0_4) := (blk_cell BK209.out 4).trans rfl
              have hcz37_5 : wc.cell? ⟨gb209, 5, none⟩ = some (.int .i64 a0_5) := (blk_cell BK209.out 5).trans rfl
              have hcz37_6 : wc.cell? ⟨gb209, 6, none⟩ = some (.int .u8 a0_6) := (blk_cell BK209.out 6).trans rfl
              have hfz37_0 := blk_frozen BK209.out 0
              have hfz37_1 := blk_frozen BK209.out 1
              have hfz37_2 := blk_frozen BK209.out 2
              have hfz37_3 := blk_frozen BK209.out 3
              have hfz37_4 := blk_frozen BK209.out 4
              have hfz37_5 := blk_frozen BK209.out 5
              have hfz37_6 := blk_frozen BK209.out 6
              go_wp2_with (first | ((with_reducible refine gate_callee (f := 19) rfl ?_); refine goesL_ (some 25) rfl rfl Tryd.func19 (by kernel_rfl) rfl #[.agg #[.bool a0_0, .bool a0_1, .bool a0_2, .bool a0_3, .int .i64 a0_4, .int .i64 a0_5, .int .u8 a0_6], .string a1, .string a2] rfl (by (try simp only [List.map_toArray, List.map_cons, List.map_nil]); first | done | rfl | (simp only [List.length_drop, List.length_take]; rfl)) ?_; (with_reducible refine (keys_Compare.calls a0_0 a0_1 a0_2 a0_3 a0_4 a0_5 a0_6 a1 a2 t212 _ A15.out).mono ?_); rintro e w38 ⟨rfl, hb⟩; refine ⟨_, rfl, ?_⟩; have n0_ := Aside0.mk (blk_below (g := gb209) (o := .cells #[.bool a0_0, .bool a0_1, .bool a0_2, .bool a0_3, .int .i64 a0_4, .int .i64 a0_5, .int .u8 a0_6] 23 (0, 0)) (by (with_reducible repeat (first | refine blk_drewN ?_ _ | refine blk_drew ?_ | refine blk_alloc ?_ _)); exact BK209.out) hb); have n1_ := Aside0.mk (below_step (by repeat (first | (with_reducible first | exact HB.out | apply below_alloc | apply pw_below_drewN | apply below_drew1 | refine below_set ?_ GE209.out) | exact HB.out)) hb); clear BK209; clear HB; have BK209 := n0_; have HB := n1_; clear n0_ n1_; (try clear hb); (try clear hb2); (try clear hk); (try clear hi); have hcz39_0 : w38.cell? ⟨gb209, 0, none⟩ = some (.bool a0_0) := (blk_cell BK209.out 0).trans rfl; have hcz39_1 : w38.cell? ⟨gb209, 1, none⟩ = some (.bool a0_1) := (blk_cell BK209.out 1).trans rfl; have hcz39_2 : w38.cell? ⟨gb209, 2, none⟩ = some (.bool a0_2) := (blk_cell BK209.out 2).trans rfl; have hcz39_3 : w38.cell? ⟨gb209, 3, none⟩ = some (.bool a0_3) := (blk_cell BK209.out 3).trans rfl; have hcz39_4 : w38.cell? ⟨gb209, 4, none⟩ = some (.int .i64 a0_4) := (blk_cell BK209.out 4).trans rfl; have hcz39_5 : w38.cell? ⟨gb209, 5, none⟩ = some (.int .i64 a0_5) := (blk_cell BK209.out 5).trans rfl; have hcz39_6 : w38.cell? ⟨gb209, 6, none⟩ = some (.int .u8 a0_6) := (blk_cell BK209.out 6).trans rfl; have hfz39_0 := blk_frozen BK209.out 0; have hfz39_1 := blk_frozen BK209.out 1; have hfz39_2 := blk_frozen BK209.out 2; have hfz39_3 := blk_frozen BK209.out 3; have hfz39_4 := blk_frozen BK209.out 4; have hfz39_5 := blk_frozen BK209.out 5; have hfz39_6 := blk_frozen BK209.out 6) | ((with_reducible refine gate_callee (f := 19) rfl ?_); refine goesL_ (some 29) rfl rfl Tryd.func19 (by kernel_rfl) rfl #[.agg #[.bool a0_0, .bool a0_1, .bool a0_2, .bool a0_3, .int .i64 a0_4, .int .i64 a0_5, .int .u8 a0_6], .string a2, .string a1] rfl (by (try simp only [List.map_toArray, List.map_cons, List.map_nil]); first | done | rfl | (simp only [List.length_drop, List.length_take]; rfl)) ?_; (with_reducible refine (keys_Compare.calls a0_0 a0_1 a0_2 a0_3 a0_4 a0_5 a0_6 a2 a1 t213 _ A16.out).mono ?_); rintro e w40 ⟨rfl, hb⟩; refine ⟨_, rfl, ?_⟩; have n0_ := Aside0.mk (blk_below (g := gb209) (o := .cells #[.bool a0_0, .bool a0_1, .bool a0_2, .bool a0_3, .int .i64 a0_4, .int .i64 a0_5, .int .u8 a0_6] 23 (0, 0)) (by (with_reducible repeat (first | refine blk_drewN ?_ _ | refine blk_drew ?_ | refine blk_alloc ?_ _)); exact BK209.out) hb); have n1_ := Aside0.mk (below_step (by repeat (first | (with_reducible first | exact HB.out | apply below_alloc | apply pw_below_drewN | apply below_drew1 | refine below_set ?_ GE209.out) | exact HB.out)) hb); clear BK209; clear HB; have BK209 := n0_; have HB := n1_; clear n0_ n1_; (try clear hb); (try clear hb2); (try clear hk); (try clear hi); have hcz41_0 : w40.cell? ⟨gb209, 0, none⟩ = some (.bool a0_0) := (blk_cell BK209.out 0).trans rfl; have hcz41_1 : w40.cell? ⟨gb209, 1, none⟩ = some (.bool a0_1) := (blk_cell BK209.out 1).trans rfl; have hcz41_2 : w40.cell? ⟨gb209, 2, none⟩ = some (.bool a0_2) := (blk_cell BK209.out 2).trans rfl; have hcz41_3 : w40.cell? ⟨gb209, 3, none⟩ = some (.bool a0_3) := (blk_cell BK209.out 3).trans rfl; have hcz41_4 : w40.cell? ⟨gb209, 4, none⟩ = some (.int .i64 a0_4) := (blk_cell BK209.out 4).trans rfl; have hcz41_5 : w40.cell? ⟨gb209, 5, none⟩ = some (.int .i64 a0_5) := (blk_cell BK209.out 5).trans rfl; have hcz41_6 : w40.cell? ⟨gb209, 6, none⟩ = some (.int .u8 a0_6) := (blk_cell BK209.out 6).trans rfl; have hfz41_0 := blk_frozen BK209.out 0; have hfz41_1 := blk_frozen BK209.out 1; have hfz41_2 := blk_frozen BK209.out 2; have hfz41_3 := blk_frozen BK209.out 3; have hfz41_4 := blk_frozen BK209.out 4; have hfz41_5 := blk_frozen BK209.out 5; have hfz41_6 := blk_frozen BK209.out 6))
              go_ret
              exact ⟨by first | rfl | (simp [errW_none, errW_some] <;> rfl) | (simp [*, errW_none, errW_some] <;> rfl), by repeat (first | (with_reducible first | exact HB.out | apply below_alloc | apply pw_below_drewN | apply below_drew1 | refine below_set ?_ GE209.out) | exact HB.out)⟩
          · rw [if_neg c18] at H
            have c18b0 : decide ((-1) ≤ t212) = false := decide_eq_false c18
            clear c18
            obtain rfl := Option.some.inj H
            have hcz42_0 : wc.cell? ⟨gb209, 0, none⟩ = some (.bool a0_0) := (blk_cell BK209.out 0).trans rfl
            have hcz42_1 : wc.cell? ⟨gb209, 1, none⟩ = some (.bool a0_1) := (blk_cell BK209.out 1).trans rfl
            have hcz42_2 : wc.cell? ⟨gb209, 2, none⟩ = some (.bool a0_2) := (blk_cell BK209.out 2).trans rfl
            have hcz42_3 : wc.cell? ⟨gb209, 3, none⟩ = some (.bool a0_3) := (blk_cell BK209.out 3).trans rfl
            have hcz42_4 : wc.cell? ⟨gb209, 4, none⟩ = some (.int .i64 a0_4) := (blk_cell BK209.out 4).trans rfl
            have hcz42_5 : wc.cell? ⟨gb209, 5, none⟩ = some (.int .i64 a0_5) := (blk_cell BK209.out 5).trans rfl
            have hcz42_6 : wc.cell? ⟨gb209, 6, none⟩ = some (.int .u8 a0_6) := (blk_cell BK209.out 6).trans rfl
            have hfz42_0 := blk_frozen BK209.out 0
            have hfz42_1 := blk_frozen BK209.out 1
            have hfz42_2 := blk_frozen BK209.out 2
            have hfz42_3 := blk_frozen BK209.out 3
            have hfz42_4 := blk_frozen BK209.out 4
            have hfz42_5 := blk_frozen BK209.out 5
            have hfz42_6 := blk_frozen BK209.out 6
            go_wp2_with (first | ((with_reducible refine gate_callee (f := 19) rfl ?_); refine goesL_ (some 25) rfl rfl Tryd.func19 (by kernel_rfl) rfl #[.agg #[.bool a0_0, .bool a0_1, .bool a0_2, .bool a0_3, .int .i64 a0_4, .int .i64 a0_5, .int .u8 a0_6], .string a1, .string a2] rfl (by (try simp only [List.map_toArray, List.map_cons, List.map_nil]); first | done | rfl | (simp only [List.length_drop, List.length_take]; rfl)) ?_; (with_reducible refine (keys_Compare.calls a0_0 a0_1 a0_2 a0_3 a0_4 a0_5 a0_6 a1 a2 t212 _ A15.out).mono ?_); rintro e w43 ⟨rfl, hb⟩; refine ⟨_, rfl, ?_⟩; have n0_ := Aside0.mk (blk_below (g := gb209) (o := .cells #[.bool a0_0, .bool a0_1, .bool a0_2, .bool a0_3, .int .i64 a0_4, .int .i64 a0_5, .int .u8 a0_6] 23 (0, 0)) (by (with_reducible repeat (first | refine blk_drewN ?_ _ | refine blk_drew ?_ | refine blk_alloc ?_ _)); exact BK209.out) hb); have n1_ := Aside0.mk (below_step (by repeat (first | (with_reducible first | exact HB.out | apply below_alloc | apply pw_below_drewN | apply below_drew1 | refine below_set ?_ GE209.out) | exact HB.out)) hb); clear BK209; clear HB; have BK209 := n0_; have HB := n1_; clear n0_ n1_; (try clear hb); (try clear hb2); (try clear hk); (try clear hi); have hcz44_0 : w43.cell? ⟨gb209, 0, none⟩ = some (.bool a0_0) := (blk_cell BK209.out 0).trans rfl; have hcz44_1 : w43.cell? ⟨gb209, 1, none⟩ = some (.bool a0_1) := (blk_cell BK209.out 1).trans rfl; have hcz44_2 : w43.cell? ⟨gb209, 2, none⟩ = some (.bool a0_2) := (blk_cell BK209.out 2).trans rfl; have hcz44_3 : w43.cell? ⟨gb209, 3, none⟩ = some (.bool a0_3) := (blk_cell BK209.out 3).trans rfl; have hcz44_4 : w43.cell? ⟨gb209, 4, none⟩ = some (.int .i64 a0_4) := (blk_cell BK209.out 4).trans rfl; have hcz44_5 : w43.cell? ⟨gb209, 5, none⟩ = some (.int .i64 a0_5) := (blk_cell BK209.out 5).trans rfl; have hcz44_6 : w43.cell? ⟨gb209, 6, none⟩ = some (.int .u8 a0_6) := (blk_cell BK209.out 6).trans rfl; have hfz44_0 := blk_frozen BK209.out 0; have hfz44_1 := blk_frozen BK209.out 1; have hfz44_2 := blk_frozen BK209.out 2; have hfz44_3 := blk_frozen BK209.out 3; have hfz44_4 := blk_frozen BK209.out 4; have hfz44_5 := blk_frozen BK209.out 5; have hfz44_6 := blk_frozen BK209.out 6) | ((with_reducible refine gate_callee (f := 19) rfl ?_); refine goesL_ (some 29) rfl rfl Tryd.func19 (by kernel_rfl) rfl #[.agg #[.bool a0_0, .bool a0_1, .bool a0_2, .bool a0_3, .int .i64 a0_4, .int .i64 a0_5, .int .u8 a0_6], .string a2, .string a1] rfl (by (try simp only [List.map_toArray, List.map_cons, List.map_nil]); first | done | rfl | (simp only [List.length_drop, List.length_take]; rfl)) ?_; (with_reducible refine (keys_Compare.calls a0_0 a0_1 a0_2 a0_3 a0_4 a0_5 a0_6 a2 a1 t213 _ A16.out).mono ?_); rintro e w45 ⟨rfl, hb⟩; refine ⟨_, rfl, ?_⟩; have n0_ := Aside0.mk (blk_below (g := gb209) (o := .cells #[.bool a0_0, .bool a0_1, .bool a0_2, .bool a0_3, .int .i64 a0_4, .int .i64 a0_5, .int .u8 a0_6] 23 (0, 0)) (by (with_reducible repeat (first | refine blk_drewN ?_ _ | refine blk_drew ?_ | refine blk_alloc ?_ _)); exact BK209.out) hb); have n1_ := Aside0.mk (below_step (by repeat (first | (with_reducible first | exact HB.out | apply below_alloc | apply pw_below_drewN | apply below_drew1 | refine below_set ?_ GE209.out) | exact HB.out)) hb); clear BK209; clear HB; have BK209 := n0_; have HB := n1_; clear n0_ n1_; (try clear hb); (try clear hb2); (try clear hk); (try clear hi); have hcz46_0 : w45.cell? ⟨gb209, 0, none⟩ = some (.bool a0_0) := (blk_cell BK209.out 0).trans rfl; have hcz46_1 : w45.cell? ⟨gb209, 1, none⟩ = some (.bool a0_1) := (blk_cell BK209.out 1).trans rfl; have hcz46_2 : w45.cell? ⟨gb209, 2, none⟩ = some (.bool a0_2) := (blk_cell BK209.out 2).trans rfl; have hcz46_3 : w45.cell? ⟨gb209, 3, none⟩ = some (.bool a0_3) := (blk_cell BK209.out 3).trans rfl; have hcz46_4 : w45.cell? ⟨gb209, 4, none⟩ = some (.int .i64 a0_4) := (blk_cell BK209.out 4).trans rfl; have hcz46_5 : w45.cell? ⟨gb209, 5, none⟩ = some (.int .i64 a0_5) := (blk_cell BK209.out 5).trans rfl; have hcz46_6 : w45.cell? ⟨gb209, 6, none⟩ = some (.int .u8 a0_6) := (blk_cell BK209.out 6).trans rfl; have hfz46_0 := blk_frozen BK209.out 0; have hfz46_1 := blk_frozen BK209.out 1; have hfz46_2 := blk_frozen BK209.out 2; have hfz46_3 := blk_frozen BK209.out 3; have hfz46_4 := blk_frozen BK209.out 4; have hfz46_5 := blk_frozen BK209.out 5; have hfz46_6 := blk_frozen BK209.out 6))
            go_ret
            exact ⟨by first | rfl | (simp [errW_none, errW_some] <;> rfl) | (simp [*, errW_none, errW_some] <;> rfl), by repeat (first | (with_reducible first | exact HB.out | apply below_alloc | apply pw_below_drewN | apply below_drew1 | refine below_set ?_ GE209.out) | exact HB.out)⟩
        · rw [if_neg c17] at H
          have c17b0 : (t212 == (wrap64 (-t213))) = false := beq_eq_false_iff_ne.mpr c17
          have c17b1 : (t212 != (wrap64 (-t213))) = true := bne_iff_ne.mpr c17
          obtain rfl := Option.some.inj H
          have hcz47_0 : wc.cell? ⟨gb209, 0, none⟩ = some (.bool a0_0) := (blk_cell BK209.out 0).trans rfl
          have hcz47_1 : wc.cell? ⟨gb209, 1, none⟩ = some (.bool a0_1) := (blk_cell BK209.out 1).trans rfl
          have hcz47_2 : wc.cell? ⟨gb209, 2, none⟩ = some (.bool a0_2) := (blk_cell BK209.out 2).trans rfl
          have hcz47_3 : wc.cell? ⟨gb209, 3, none⟩ = some (.bool a0_3) := (blk_cell BK209.out 3).trans rfl
          have hcz47_4 : wc.cell? ⟨gb209, 4, none⟩ = some (.int .i64 a0_4) := (blk_cell BK209.out 4).trans rfl
          have hcz47_5 : wc.cell? ⟨gb209, 5, none⟩ = some (.int .i64 a0_5) := (blk_cell BK209.out 5).trans rfl
          have hcz47_6 : wc.cell? ⟨gb209, 6, none⟩ = some (.int .u8 a0_6) := (blk_cell BK209.out 6).trans rfl
          have hfz47_0 := blk_frozen BK209.out 0
          have hfz47_1 := blk_frozen BK209.out 1
          have hfz47_2 := blk_frozen BK209.out 2
          have hfz47_3 := blk_frozen BK209.out 3
          have hfz47_4 := blk_frozen BK209.out 4
          have hfz47_5 := blk_frozen BK209.out 5
          have hfz47_6 := blk_frozen BK209.out 6
          go_wp2_with (first | ((with_reducible refine gate_callee (f := 19) rfl ?_); refine goesL_ (some 25) rfl rfl Tryd.func19 (by kernel_rfl) rfl #[.agg #[.bool a0_0, .bool a0_1, .bool a0_2, .bool a0_3, .int .i64 a0_4, .int .i64 a0_5, .int .u8 a0_6], .string a1, .string a2] rfl (by (try simp only [List.map_toArray, List.map_cons, List.map_nil]); first | done | rfl | (simp only [List.length_drop, List.length_take]; rfl)) ?_; (with_reducible refine (keys_Compare.calls a0_0 a0_1 a0_2 a0_3 a0_4 a0_5 a0_6 a1 a2 t212 _ A15.out).mono ?_); rintro e w48 ⟨rfl, hb⟩; refine ⟨_, rfl, ?_⟩; have n0_ := Aside0.mk (blk_below (g := gb209) (o := .cells #[.bool a0_0, .bool a0_1, .bool a0_2, .bool a0_3, .int .i64 a0_4, .int .i64 a0_5, .int .u8 a0_6] 23 (0, 0)) (by (with_reducible repeat (first | refine blk_drewN ?_ _ | refine blk_drew ?_ | refine blk_alloc ?_ _)); exact BK209.out) hb); have n1_ := Aside0.mk (below_step (by repeat (first | (with_reducible first | exact HB.out | apply below_alloc | apply pw_below_drewN | apply below_drew1 | refine below_set ?_ GE209.out) | exact HB.out)) hb); clear BK209; clear HB; have BK209 := n0_; have HB := n1_; clear n0_ n1_; (try clear hb); (try clear hb2); (try clear hk); (try clear hi); have hcz49_0 : w48.cell? ⟨gb209, 0, none⟩ = some (.bool a0_0) := (blk_cell BK209.out 0).trans rfl; have hcz49_1 : w48.cell? ⟨gb209, 1, none⟩ = some (.bool a0_1) := (blk_cell BK209.out 1).trans rfl; have hcz49_2 : w48.cell? ⟨gb209, 2, none⟩ = some (.bool a0_2) := (blk_cell BK209.out 2).trans rfl; have hcz49_3 : w48.cell? ⟨gb209, 3, none⟩ = some (.bool a0_3) := (blk_cell BK209.out 3).trans rfl; have hcz49_4 : w48.cell? ⟨gb209, 4, none⟩ = some (.int .i64 a0_4) := (blk_cell BK209.out 4).trans rfl; have hcz49_5 : w48.cell? ⟨gb209, 5, none⟩ = some (.int .i64 a0_5) := (blk_cell BK209.out 5).trans rfl; have hcz49_6 : w48.cell? ⟨gb209, 6, none⟩ = some (.int .u8 a0_6) := (blk_cell BK209.out 6).trans rfl; have hfz49_0 := blk_frozen BK209.out 0; have hfz49_1 := blk_frozen BK209.out 1; have hfz49_2 := blk_frozen BK209.out 2; have hfz49_3 := blk_frozen BK209.out 3; have hfz49_4 := blk_frozen BK209.out 4; have hfz49_5 := blk_frozen BK209.out 5; have hfz49_6 := blk_frozen BK209.out 6) | ((with_reducible refine gate_callee (f := 19) rfl ?_); refine goesL_ (some 29) rfl rfl Tryd.func19 (by kernel_rfl) rfl #[.agg #[.bool a0_0, .bool a0_1, .bool a0_2, .bool a0_3, .int .i64 a0_4, .int .i64 a0_5, .int .u8 a0_6], .string a2, .string a1] rfl (by (try simp only [List.map_toArray, List.map_cons, List.map_nil]); first | done | rfl | (simp only [List.length_drop, List.length_take]; rfl)) ?_; (with_reducible refine (keys_Compare.calls a0_0 a0_1 a0_2 a0_3 a0_4 a0_5 a0_6 a2 a1 t213 _ A16.out).mono ?_); rintro e w50 ⟨rfl, hb⟩; refine ⟨_, rfl, ?_⟩; have n0_ := Aside0.mk (blk_below (g := gb209) (o := .cells #[.bool a0_0, .bool a0_1, .bool a0_2, .bool a0_3, .int .i64 a0_4, .int .i64 a0_5, .int .u8 a0_6] 23 (0, 0)) (by (with_reducible repeat (first | refine blk_drewN ?_ _ | refine blk_drew ?_ | refine blk_alloc ?_ _)); exact BK209.out) hb); have n1_ := Aside0.mk (below_step (by repeat (first | (with_reducible first | exact HB.out | apply below_alloc | apply pw_below_drewN | apply below_drew1 | refine below_set ?_ GE209.out) | exact HB.out)) hb); clear BK209; clear HB; have BK209 := n0_; have HB := n1_; clear n0_ n1_; (try clear hb); (try clear hb2); (try clear hk); (try clear hi); have hcz51_0 : w50.cell? ⟨gb209, 0, none⟩ = some (.bool a0_0) := (blk_cell BK209.out 0).trans rfl; have hcz51_1 : w50.cell? ⟨gb209, 1, none⟩ = some (.bool a0_1) := (blk_cell BK209.out 1).trans rfl; have hcz51_2 : w50.cell? ⟨gb209, 2, none⟩ = some (.bool a0_2) := (blk_cell BK209.out 2).trans rfl; have hcz51_3 : w50.cell? ⟨gb209, 3, none⟩ = some (.bool a0_3) := (blk_cell BK209.out 3).trans rfl; have hcz51_4 : w50.cell? ⟨gb209, 4, none⟩ = some (.int .i64 a0_4) := (blk_cell BK209.out 4).trans rfl; have hcz51_5 : w50.cell? ⟨gb209, 5, none⟩ = some (.int .i64 a0_5) := (blk_cell BK209.out 5).trans rfl; have hcz51_6 : w50.cell? ⟨gb209, 6, none⟩ = some (.int .u8 a0_6) := (blk_cell BK209.out 6).trans rfl; have hfz51_0 := blk_frozen BK209.out 0; have hfz51_1 := blk_frozen BK209.out 1; have hfz51_2 := blk_frozen BK209.out 2; have hfz51_3 := blk_frozen BK209.out 3; have hfz51_4 := blk_frozen BK209.out 4; have hfz51_5 := blk_frozen BK209.out 5; have hfz51_6 := blk_frozen BK209.out 6))
          go_ret
          exact ⟨by first | rfl | (simp [errW_none, errW_some] <;> rfl) | (simp [*, errW_none, errW_some] <;> rfl), by repeat (first | (with_reducible first | exact HB.out | apply below_alloc | apply pw_below_drewN | apply below_drew1 | refine below_set ?_ GE209.out) | exact HB.out)⟩

end Go.Proofs.YtbndinaiclkajaaDoor.Q

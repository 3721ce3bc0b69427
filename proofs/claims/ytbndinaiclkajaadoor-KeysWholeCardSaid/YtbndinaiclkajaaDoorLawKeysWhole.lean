/- The row of the law KeysWhole out of its walk: for every input the law returns true, and each argument reads behind the call as it read before. -/
import Derived.Test.YtbndinaiclkajaaDoorRows
import Derived.Test.YtbndinaiclkajaaDoorOpen
import Derived.Test.YtbndinaiclkajaaDoorPureKeysWhole
import Derived.WalkKit
import Derived.ProofKit
import Derived.OpenShut
import Derived.ShutString
import Derived.ChangeOld
import Derived.Below
import Derived.SizedLaws
import Derived.OpenVars
import Derived.LaidOnce
import Derived.Lay
import Derived.MakeChecks
import Derived.SevenTiedAt
import Derived.Test.YtbndinaiclkajaaDoorCards
import Derived.Test.YtbndinaiclkajaaDoorTie
set_option linter.unusedVariables false
set_option linter.unusedSimpArgs false
namespace Go.Proofs.YtbndinaiclkajaaDoor.keysWhole
open Go.ChangeShapes Go.WideShapes Go.ChangeAt Go.RowKit Go.Proofs.YtbndinaiclkajaaDoor.Open Go.Proofs.YtbndinaiclkajaaDoorW.PrintWords
open Go.ChangeMaps (open_string shut_string)
open Go.Proofs.YtbndinaiclkajaaDoor.Pure
theorem okWide_array {P : Program} {w : World} {r : Reach} {base : Nat} {t e n : Nat} {v : Value} (ht : P.underlying t = some (.array n e)) (h : Value.okWide P w r base t v) : ∃ cs, v = .agg cs ∧ cs.size = P.cellsOf t := by
  simp only [Value.okWide, ht] at h
  obtain ⟨cs, h1, h2, _⟩ := h
  exact ⟨cs, h1, h2⟩
theorem list2 {α : Type} {l : List α} (h : l.length = 2) : ∃ x0 x1, l = [x0, x1] := by
  match l, h with
  | [x0, x1], _ => exact ⟨x0, x1, rfl⟩
theorem list5 {α : Type} {l : List α} (h : l.length = 5) : ∃ x0 x1 x2 x3 x4, l = [x0, x1, x2, x3, x4] := by
  match l, h with
  | [x0, x1, x2, x3, x4], _ => exact ⟨x0, x1, x2, x3, x4, rfl⟩
theorem list10 {α : Type} {l : List α} (h : l.length = 10) : ∃ x0 x1 x2 x3 x4 x5 x6 x7 x8 x9, l = [x0, x1, x2, x3, x4, x5, x6, x7, x8, x9] := by
  match l, h with
  | [x0, x1, x2, x3, x4, x5, x6, x7, x8, x9], _ => exact ⟨x0, x1, x2, x3, x4, x5, x6, x7, x8, x9, rfl⟩
theorem own : ownKnob Tryd.prog.godebug = none := by kernel_rfl
theorem laidOut : laidOutB Tryd.prog = true := by kernel_rfl
set_option maxHeartbeats 1000000 in
theorem open_p2 {H : Type} {enc : TypeId × Value → H} {W : World} {b0 : Nat} {v : Value} {d : DataW H} {pp : List MemPlace} (hv : Value.okWide Tryd.prog W .any b0 38 v) (h : DataW.Trod enc Tryd.prog W 0 (fun _ => true) true 38 v d pp) (w2 : (DataW.weights Tryd.prog 38 d).all (· ≤ reachBytes) = true) :
    ∃ (a2_0_0 : Int) (a2_0_1 : Int) (a2_0_2 : Int) (a2_0_3 : Int) (a2_0_4 : Bool) (a2_1_0 : Int) (a2_1_1 : Int) (a2_1_2 : Int) (a2_1_3 : Int) (a2_1_4 : Bool), v = .agg #[.int .u8 a2_0_0, .int .u8 a2_0_1, .int .u8 a2_0_2, .int .u8 a2_0_3, .bool a2_0_4, .int .u8 a2_1_0, .int .u8 a2_1_1, .int .u8 a2_1_2, .int .u8 a2_1_3, .bool a2_1_4] ∧ ((Lit.int .u8 a2_0_0).wf = true) ∧ ((Lit.int .u8 a2_0_1).wf = true) ∧ ((Lit.int .u8 a2_0_2).wf = true) ∧ ((Lit.int .u8 a2_0_3).wf = true) ∧ ((Lit.int .u8 a2_1_0).wf = true) ∧ ((Lit.int .u8 a2_1_1).wf = true) ∧ ((Lit.int .u8 a2_1_2).wf = true) ∧ ((Lit.int .u8 a2_1_3).wf = true) := by
  obtain ⟨cs, rfl, hs⟩ := okWide_array Tryd.underlying38 hv
  obtain ⟨f, hf2⟩ := h
  obtain ⟨cs⟩ := cs
  obtain ⟨c2_0, c2_1, c2_2, c2_3, c2_4, c2_5, c2_6, c2_7, c2_8, c2_9, rfl⟩ := list10 (hs.trans (show Tryd.prog.cellsOf 38 = 10 by kernel_rfl) : cs.length = 10)
  obtain ⟨xs2, n2, _, hx2, _, hl2, hg2⟩ := Go.DataW.trod_array Tryd.underlying38 hf2
  obtain ⟨y2_0, y2_1, rfl⟩ := list2 hl2
  replace hx2 := congrArg Prod.fst hx2
  dsimp only at hx2
  try dsimp only at w2
  simp only [hx2, DataW.weights, Tryd.underlying38, List.map_cons, List.map_nil] at w2
  have g2_0 : DataW.trod _ Tryd.prog _ _ _ _ n2 37 (List.take (Tryd.prog.cellsOf 37) (List.drop (0 * Tryd.prog.cellsOf 37) [c2_0, c2_1, c2_2, c2_3, c2_4, c2_5, c2_6, c2_7, c2_8, c2_9])) = some y2_0 := hg2 0 (by omega)
  have w2_0 := weights_all (i := 0) w2 rfl
  rw [show Tryd.prog.cellsOf 37 = 5 by kernel_rfl] at g2_0
  replace g2_0 : DataW.trod _ _ _ _ _ _ n2 37 [c2_0, c2_1, c2_2, c2_3, c2_4] = some y2_0 := g2_0
  obtain ⟨xs2_0, n2_0, _, hx2_0, _, hl2_0, hg2_0⟩ := DataW.trod_struct Tryd.underlying37 g2_0
  obtain ⟨y2_0_0, y2_0_1, y2_0_2, y2_0_3, y2_0_4, rfl⟩ := list5 hl2_0
  replace hx2_0 := congrArg Prod.fst hx2_0
  dsimp only at hx2_0
  try dsimp only at w2_0
  simp only [hx2_0, DataW.weights, Tryd.underlying37, List.map_cons, List.map_nil] at w2_0
  have g2_0_0 : DataW.trod _ Tryd.prog _ _ _ _ n2_0 5 (List.take (Tryd.prog.cellsOf 5) (List.drop 0 [c2_0, c2_1, c2_2, c2_3, c2_4])) = some y2_0_0 := hg2_0 0 _ rfl
  have w2_0_0 := weights_each (i := 0) w2_0 rfl rfl
  rw [show Tryd.prog.cellsOf 5 = 1 by kernel_rfl] at g2_0_0
  replace g2_0_0 : DataW.trod _ _ _ _ _ _ n2_0 5 [c2_0] = some y2_0_0 := g2_0_0
  have g2_0_1 : DataW.trod _ Tryd.prog _ _ _ _ n2_0 5 (List.take (Tryd.prog.cellsOf 5) (List.drop 1 [c2_0, c2_1, c2_2, c2_3, c2_4])) = some y2_0_1 := hg2_0 1 _ rfl
  have w2_0_1 := weights_each (i := 1) w2_0 rfl rfl
  rw [show Tryd.prog.cellsOf 5 = 1 by kernel_rfl] at g2_0_1
  replace g2_0_1 : DataW.trod _ _ _ _ _ _ n2_0 5 [c2_1] = some y2_0_1 := g2_0_1
  have g2_0_2 : DataW.trod _ Tryd.prog _ _ _ _ n2_0 5 (List.take (Tryd.prog.cellsOf 5) (List.drop 2 [c2_0, c2_1, c2_2, c2_3, c2_4])) = some y2_0_2 := hg2_0 2 _ rfl
  have w2_0_2 := weights_each (i := 2) w2_0 rfl rfl
  rw [show Tryd.prog.cellsOf 5 = 1 by kernel_rfl] at g2_0_2
  replace g2_0_2 : DataW.trod _ _ _ _ _ _ n2_0 5 [c2_2] = some y2_0_2 := g2_0_2
  have g2_0_3 : DataW.trod _ Tryd.prog _ _ _ _ n2_0 5 (List.take (Tryd.prog.cellsOf 5) (List.drop 3 [c2_0, c2_1, c2_2, c2_3, c2_4])) = some y2_0_3 := hg2_0 3 _ rfl
  have w2_0_3 := weights_each (i := 3) w2_0 rfl rfl
  rw [show Tryd.prog.cellsOf 5 = 1 by kernel_rfl] at g2_0_3
  replace g2_0_3 : DataW.trod _ _ _ _ _ _ n2_0 5 [c2_3] = some y2_0_3 := g2_0_3
  have g2_0_4 : DataW.trod _ Tryd.prog _ _ _ _ n2_0 4 (List.take (Tryd.prog.cellsOf 4) (List.drop 4 [c2_0, c2_1, c2_2, c2_3, c2_4])) = some y2_0_4 := hg2_0 4 _ rfl
  have w2_0_4 := weights_each (i := 4) w2_0 rfl rfl
  rw [show Tryd.prog.cellsOf 4 = 1 by kernel_rfl] at g2_0_4
  replace g2_0_4 : DataW.trod _ _ _ _ _ _ n2_0 4 [c2_4] = some y2_0_4 := g2_0_4
  have g2_1 : DataW.trod _ Tryd.prog _ _ _ _ n2 37 (List.take (Tryd.prog.cellsOf 37) (List.drop (1 * Tryd.prog.cellsOf 37) [c2_0, c2_1, c2_2, c2_3, c2_4, c2_5, c2_6, c2_7, c2_8, c2_9])) = some y2_1 := hg2 1 (by omega)
  have w2_1 := weights_all (i := 1) w2 rfl
  rw [show Tryd.prog.cellsOf 37 = 5 by kernel_rfl] at g2_1
  replace g2_1 : DataW.trod _ _ _ _ _ _ n2 37 [c2_5, c2_6, c2_7, c2_8, c2_9] = some y2_1 := g2_1
  obtain ⟨xs2_1, n2_1, _, hx2_1, _, hl2_1, hg2_1⟩ := DataW.trod_struct Tryd.underlying37 g2_1
  obtain ⟨y2_1_0, y2_1_1, y2_1_2, y2_1_3, y2_1_4, rfl⟩ := list5 hl2_1
  replace hx2_1 := congrArg Prod.fst hx2_1
  dsimp only at hx2_1
  try dsimp only at w2_1
  simp only [hx2_1, DataW.weights, Tryd.underlying37, List.map_cons, List.map_nil] at w2_1
  have g2_1_0 : DataW.trod _ Tryd.prog _ _ _ _ n2_1 5 (List.take (Tryd.prog.cellsOf 5) (List.drop 0 [c2_5, c2_6, c2_7, c2_8, c2_9])) = some y2_1_0 := hg2_1 0 _ rfl
  have w2_1_0 := weights_each (i := 0) w2_1 rfl rfl
  rw [show Tryd.prog.cellsOf 5 = 1 by kernel_rfl] at g2_1_0
  replace g2_1_0 : DataW.trod _ _ _ _ _ _ n2_1 5 [c2_5] = some y2_1_0 := g2_1_0
  have g2_1_1 : DataW.trod _ Tryd.prog _ _ _ _ n2_1 5 (List.take (Tryd.prog.cellsOf 5) (List.drop 1 [c2_5, c2_6, c2_7, c2_8, c2_9])) = some y2_1_1 := hg2_1 1 _ rfl
  have w2_1_1 := weights_each (i := 1) w2_1 rfl rfl
  rw [show Tryd.prog.cellsOf 5 = 1 by kernel_rfl] at g2_1_1
  replace g2_1_1 : DataW.trod _ _ _ _ _ _ n2_1 5 [c2_6] = some y2_1_1 := g2_1_1
  have g2_1_2 : DataW.trod _ Tryd.prog _ _ _ _ n2_1 5 (List.take (Tryd.prog.cellsOf 5) (List.drop 2 [c2_5, c2_6, c2_7, c2_8, c2_9])) = some y2_1_2 := hg2_1 2 _ rfl
  have w2_1_2 := weights_each (i := 2) w2_1 rfl rfl
  rw [show Tryd.prog.cellsOf 5 = 1 by kernel_rfl] at g2_1_2
  replace g2_1_2 : DataW.trod _ _ _ _ _ _ n2_1 5 [c2_7] = some y2_1_2 := g2_1_2
  have g2_1_3 : DataW.trod _ Tryd.prog _ _ _ _ n2_1 5 (List.take (Tryd.prog.cellsOf 5) (List.drop 3 [c2_5, c2_6, c2_7, c2_8, c2_9])) = some y2_1_3 := hg2_1 3 _ rfl
  have w2_1_3 := weights_each (i := 3) w2_1 rfl rfl
  rw [show Tryd.prog.cellsOf 5 = 1 by kernel_rfl] at g2_1_3
  replace g2_1_3 : DataW.trod _ _ _ _ _ _ n2_1 5 [c2_8] = some y2_1_3 := g2_1_3
  have g2_1_4 : DataW.trod _ Tryd.prog _ _ _ _ n2_1 4 (List.take (Tryd.prog.cellsOf 4) (List.drop 4 [c2_5, c2_6, c2_7, c2_8, c2_9])) = some y2_1_4 := hg2_1 4 _ rfl
  have w2_1_4 := weights_each (i := 4) w2_1 rfl rfl
  rw [show Tryd.prog.cellsOf 4 = 1 by kernel_rfl] at g2_1_4
  replace g2_1_4 : DataW.trod _ _ _ _ _ _ n2_1 4 [c2_9] = some y2_1_4 := g2_1_4
  obtain ⟨a2_0_0, e2_0_0, ok2_0_0⟩ := (reads_int Tryd.underlying5).read g2_0_0 w2_0_0
  obtain rfl : c2_0 = _ := (List.cons.inj e2_0_0).1
  obtain ⟨a2_0_1, e2_0_1, ok2_0_1⟩ := (reads_int Tryd.underlying5).read g2_0_1 w2_0_1
  obtain rfl : c2_1 = _ := (List.cons.inj e2_0_1).1
  obtain ⟨a2_0_2, e2_0_2, ok2_0_2⟩ := (reads_int Tryd.underlying5).read g2_0_2 w2_0_2
  obtain rfl : c2_2 = _ := (List.cons.inj e2_0_2).1
  obtain ⟨a2_0_3, e2_0_3, ok2_0_3⟩ := (reads_int Tryd.underlying5).read g2_0_3 w2_0_3
  obtain rfl : c2_3 = _ := (List.cons.inj e2_0_3).1
  obtain ⟨a2_0_4, e2_0_4, ok2_0_4⟩ := (reads_bool Tryd.underlying4).read g2_0_4 w2_0_4
  obtain rfl : c2_4 = _ := (List.cons.inj e2_0_4).1
  obtain ⟨a2_1_0, e2_1_0, ok2_1_0⟩ := (reads_int Tryd.underlying5).read g2_1_0 w2_1_0
  obtain rfl : c2_5 = _ := (List.cons.inj e2_1_0).1
  obtain ⟨a2_1_1, e2_1_1, ok2_1_1⟩ := (reads_int Tryd.underlying5).read g2_1_1 w2_1_1
  obtain rfl : c2_6 = _ := (List.cons.inj e2_1_1).1
  obtain ⟨a2_1_2, e2_1_2, ok2_1_2⟩ := (reads_int Tryd.underlying5).read g2_1_2 w2_1_2
  obtain rfl : c2_7 = _ := (List.cons.inj e2_1_2).1
  obtain ⟨a2_1_3, e2_1_3, ok2_1_3⟩ := (reads_int Tryd.underlying5).read g2_1_3 w2_1_3
  obtain rfl : c2_8 = _ := (List.cons.inj e2_1_3).1
  obtain ⟨a2_1_4, e2_1_4, ok2_1_4⟩ := (reads_bool Tryd.underlying4).read g2_1_4 w2_1_4
  obtain rfl : c2_9 = _ := (List.cons.inj e2_1_4).1
  exact ⟨a2_0_0, a2_0_1, a2_0_2, a2_0_3, a2_0_4, a2_1_0, a2_1_1, a2_1_2, a2_1_3, a2_1_4, rfl, ok2_0_0, ok2_0_1, ok2_0_2, ok2_0_3, ok2_1_0, ok2_1_1, ok2_1_2, ok2_1_3⟩
set_option maxRecDepth 100000 in
set_option maxHeartbeats 1000000 in
theorem lifted (os : Os) (started : os.Started) (H : Type) (enc : TypeId × Value → H) :
    ReturnsInHanded {} Tryd.checked os 8 .any (fun w args => (Rows.keysWholeSpec.pre enc Tryd.prog Tryd.f8 Rows.keysWholeRow.domain false w args ∧ laidMetH Tryd.prog Rows.keysWholeRow.laid w) ∧ sizedMet enc Tryd.prog Tryd.f8 (OpenSpec.ofChange Rows.keysWholeSpec) false w args) (Rows.keysWholeSpec.post enc Tryd.prog Tryd.f8 false true false false) := by
  refine returnsInHanded_of_change_and (C := Tryd.checked) (X := fun w _ => laidMetH Tryd.prog Rows.keysWholeRow.laid w) (fun _ _ _ hh h => h.of_heap hh) own started (by kernel_rfl) Tryd.func8
    (ChangeSpec.witness_shaped (enc := enc) (C := Tryd.checked) (os := os) (X := fun w _ => laidMetH Tryd.prog Rows.keysWholeRow.laid w) false (World.laidAll Tryd.prog os Rows.keysWholeRow.laid) #[.int .i32 0, .int .i32 0, .agg #[.int .u8 0, .int .u8 0, .int .u8 0, .int .u8 0, .bool false, .int .u8 0, .int .u8 0, .int .u8 0, .int .u8 0, .bool false]] 8 (World.laidAll_os _ _ _)
      (World.shaped_of_ZipB (by kernel_rfl) (by kernel_rfl)) (by kernel_rfl) (by kernel_rfl) (by kernel_rfl)
      (by rw [MakeChecks.laidMetH_plain _ _ _ (by kernel_rfl)]; exact laidMet_laidAll _ (by kernel_rfl) (by kernel_rfl))) ?_
  intro W base args ds gs before hval0 hW hcnd hsz0 hL _
  clear hL
  have hszz : (DataW.weightsEach Tryd.prog (Tryd.f8.params.toList ++ Rows.keysWholeSpec.plain.varTypes Tryd.prog) (ds ++ gs)).all (· ≤ reachBytes) = true := hsz0
  have hval : ∀ (j : Nat) t v, Tryd.f8.params[j]? = some t → args[j]? = some v → Value.okWide Tryd.prog W .any base t v := hval0
  have hW' := hW
  obtain ⟨p, q, hA0, hV, rfl, hfz, hnd⟩ := hW
  have hA : DataW.TrodAll enc Tryd.prog W 0 (fun _ => true) true Tryd.f8.params.toList args.toList ds p := hA0
  rw [Tryd.params8] at hA hval hszz
  obtain ⟨v0, vs0, d0, ds0, p0, q0, hargs, rfl, rfl, h0, r0⟩ := trodAll_cons hA
  obtain ⟨v1, vs1, d1, ds1, p1, q1, rfl, rfl, rfl, h1, r1⟩ := trodAll_cons r0
  obtain ⟨v2, vs2, d2, ds2, p2, q2, rfl, rfl, rfl, h2, r2⟩ := trodAll_cons r1
  obtain ⟨rfl, rfl, rfl⟩ := trodAll_nil r2
  obtain rfl : args = #[v0, v1, v2] := by cases args; simp_all
  obtain ⟨rfl, rfl⟩ := trodVars_none hV
  have hsz : (DataW.weightsEach Tryd.prog [21, 21, 38] [d0, d1, d2]).all (· ≤ reachBytes) = true := hszz
  have k0 := h0
  have lt0 : ∀ x ∈ p0, x.block < W.heap.size := by obtain ⟨m, hm⟩ := k0; exact DataW.trod_lt m _ _ _ hm
  have w0 := weights_each (i := 0) hsz rfl rfl
  obtain ⟨a0, rfl, rfl, rfl, ok0⟩ := open_int Tryd.underlying21 (hval 0 21 v0 rfl rfl) h0
  have k1 := h1
  have lt1 : ∀ x ∈ p1, x.block < W.heap.size := by obtain ⟨m, hm⟩ := k1; exact DataW.trod_lt m _ _ _ hm
  have w1 := weights_each (i := 1) hsz rfl rfl
  obtain ⟨a1, rfl, rfl, rfl, ok1⟩ := open_int Tryd.underlying21 (hval 1 21 v1 rfl rfl) h1
  have k2 := h2
  have lt2 : ∀ x ∈ p2, x.block < W.heap.size := by obtain ⟨m, hm⟩ := k2; exact DataW.trod_lt m _ _ _ hm
  have w2 := weights_each (i := 2) hsz rfl rfl
  obtain ⟨a2_0_0, a2_0_1, a2_0_2, a2_0_3, a2_0_4, a2_1_0, a2_1_1, a2_1_2, a2_1_3, a2_1_4, rfl, ok2_0_0, ok2_0_1, ok2_0_2, ok2_0_3, ok2_1_0, ok2_1_1, ok2_1_2, ok2_1_3⟩ := open_p2 (hval 2 38 v2 rfl rfl) h2 w2
  clear hA0 hval0 hsz0 hszz hsz
  refine (KeysWhole_walk a0 a1 a2_0_0 a2_0_1 a2_0_2 a2_0_3 a2_0_4 a2_1_0 a2_1_1 a2_1_2 a2_1_3 a2_1_4 W ok0 ok1 ok2_0_0 ok2_0_1 ok2_0_2 ok2_0_3 ok2_1_0 ok2_1_1 ok2_1_2 ok2_1_3).mono fun e W' ⟨he, bel⟩ => ?_
  subst he
  exact ⟨_, rfl, _, _, _, [], _, [], hW', trodAll_mk1 (shut_bool Tryd.underlying4 _), (trodAll_cons_mk (Below.trod laidOut (by kernel_rfl) (of_decide_eq_true (by kernel_rfl)) k0 bel lt0) (trodAll_cons_mk (Below.trod laidOut (by kernel_rfl) (of_decide_eq_true (by kernel_rfl)) k1 bel lt1) (trodAll_cons_mk (Below.trod laidOut (by kernel_rfl) (of_decide_eq_true (by kernel_rfl)) k2 bel lt2) trodAll_mk0))), rfl, bel.frame _, fun h => by cases h⟩
theorem over : Rows.keysWholeRow.holds Tryd.pinned (OpenSpec.ofChange Rows.keysWholeSpec) :=
  OpenClaim.holds_of_wide 8 Tryd.f8 rfl rfl rfl rfl rfl rfl rfl ⟨rfl, rfl, rfl, rfl, rfl⟩ rfl rfl rfl rfl rfl (by kernel_rfl) Tryd.func8 (by kernel_rfl)
    (of_decide_eq_true (by kernel_rfl)) (by unfold Func.isWrapper; first | (rw [if_pos (by decide +kernel)]; kernel_rfl) | (rw [if_neg (by decide +kernel)]; exact ⟨rfl, rfl⟩))
    (fun os started H enc _ => lifted os started H enc)
theorem proved : Rows.KeysWholeCardSaid :=
  Claim7.holds_tied_plain_at .later [] [.data, .pinned] true (true, "4580d6e0a85aef5f0f24d8c5406217ad2b78d917847064a5b52cb330c78d39bc") false over (fun _ h => by cases h) (by kernel_rfl) (fun _ h => by cases h) keysWhole_row_tie rfl ⟨rfl, rfl⟩ (by kernel_rfl) rfl
    (fun f fn hf hfn => by
      obtain rfl : f = 8 := Option.some.inj ((show Tryd.prog.funcNamed "toolchest/toolchestlaw05.KeysWhole" = some 8 by kernel_rfl).symm.trans hf) |>.symm
      obtain rfl : fn = Tryd.f8 := (Option.some.inj (Tryd.func8.symm.trans hfn)).symm
      exact ⟨by kernel_rfl, fun j t ht => by
        rw [Tryd.params8] at ht
        have hm : t ∈ [21, 21, 38] := by simpa using Array.mem_of_getElem? ht
        have hall : ([21, 21, 38].all fun u => !Tryd.prog.wantsStandIn u) = true := by kernel_rfl
        exact (show Tryd.prog.wantsStandIn t = false by simpa using List.all_eq_true.1 hall t hm)⟩)
    (by kernel_rfl)
#print axioms proved
end Go.Proofs.YtbndinaiclkajaaDoor.keysWhole
namespace Go.Proofs.YtbndinaiclkajaaDoor
/-- The row, under a short name, for the claim. -/
theorem keysWhole_holds : Rows.KeysWholeCardSaid := keysWhole.proved
end Go.Proofs.YtbndinaiclkajaaDoor

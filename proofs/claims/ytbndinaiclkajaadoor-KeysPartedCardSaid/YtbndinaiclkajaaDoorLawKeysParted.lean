/- The row of the law KeysParted out of its walk: for every input the law returns true, and each argument reads behind the call as it read before. -/
import Derived.Test.YtbndinaiclkajaaDoorRows
import Derived.Test.YtbndinaiclkajaaDoorOpen
import Derived.Test.YtbndinaiclkajaaDoorPureKeysParted
import Derived.WalkKit
import Derived.ProofKit
import Derived.OpenShut
import Derived.ShutString
import Derived.ChangeOld
import Derived.Below
import Derived.SizedLaws
import Derived.OpenVars
import Derived.LaidOnce
import Derived.Lay
import Derived.MakeChecks
import Derived.SevenTiedAt
import Derived.Test.YtbndinaiclkajaaDoorCards
import Derived.Test.YtbndinaiclkajaaDoorTie
set_option linter.unusedVariables false
set_option linter.unusedSimpArgs false
namespace Go.Proofs.YtbndinaiclkajaaDoor.keysParted
open Go.ChangeShapes Go.WideShapes Go.ChangeAt Go.RowKit Go.Proofs.YtbndinaiclkajaaDoor.Open Go.Proofs.YtbndinaiclkajaaDoorW.PrintWords
open Go.ChangeMaps (open_string shut_string)
open Go.Proofs.YtbndinaiclkajaaDoor.Pure
theorem okWide_array {P : Program} {w : World} {r : Reach} {base : Nat} {t e n : Nat} {v : Value} (ht : P.underlying t = some (.array n e)) (h : Value.okWide P w r base t v) : ∃ cs, v = .agg cs ∧ cs.size = P.cellsOf t := by
  simp only [Value.okWide, ht] at h
  obtain ⟨cs, h1, h2, _⟩ := h
  exact ⟨cs, h1, h2⟩
theorem list6 {α : Type} {l : List α} (h : l.length = 6) : ∃ x0 x1 x2 x3 x4 x5, l = [x0, x1, x2, x3, x4, x5] := by
  match l, h with
  | [x0, x1, x2, x3, x4, x5], _ => exact ⟨x0, x1, x2, x3, x4, x5, rfl⟩
theorem own : ownKnob Tryd.prog.godebug = none := by kernel_rfl
theorem laidOut : laidOutB Tryd.prog = true := by kernel_rfl
set_option maxHeartbeats 1000000 in
theorem open_p1 {H : Type} {enc : TypeId × Value → H} {W : World} {b0 : Nat} {v : Value} {d : DataW H} {pp : List MemPlace} (hv : Value.okWide Tryd.prog W .any b0 42 v) (h : DataW.Trod enc Tryd.prog W 0 (fun _ => true) true 42 v d pp) (w1 : (DataW.weights Tryd.prog 42 d).all (· ≤ reachBytes) = true) :
    ∃ (a1_0 : Int) (a1_1 : Int) (a1_2 : Int) (a1_3 : Int) (a1_4 : Int) (a1_5 : Int), v = .agg #[.int .u8 a1_0, .int .u8 a1_1, .int .u8 a1_2, .int .u8 a1_3, .int .u8 a1_4, .int .u8 a1_5] ∧ ((Lit.int .u8 a1_0).wf = true) ∧ ((Lit.int .u8 a1_1).wf = true) ∧ ((Lit.int .u8 a1_2).wf = true) ∧ ((Lit.int .u8 a1_3).wf = true) ∧ ((Lit.int .u8 a1_4).wf = true) ∧ ((Lit.int .u8 a1_5).wf = true) := by
  obtain ⟨cs, rfl, hs⟩ := okWide_array Tryd.underlying42 hv
  obtain ⟨f, hf1⟩ := h
  obtain ⟨cs⟩ := cs
  obtain ⟨c1_0, c1_1, c1_2, c1_3, c1_4, c1_5, rfl⟩ := list6 (hs.trans (show Tryd.prog.cellsOf 42 = 6 by kernel_rfl) : cs.length = 6)
  obtain ⟨xs1, n1, _, hx1, _, hl1, hg1⟩ := Go.DataW.trod_array Tryd.underlying42 hf1
  obtain ⟨y1_0, y1_1, y1_2, y1_3, y1_4, y1_5, rfl⟩ := list6 hl1
  replace hx1 := congrArg Prod.fst hx1
  dsimp only at hx1
  try dsimp only at w1
  simp only [hx1, DataW.weights, Tryd.underlying42, List.map_cons, List.map_nil] at w1
  have g1_0 : DataW.trod _ Tryd.prog _ _ _ _ n1 5 (List.take (Tryd.prog.cellsOf 5) (List.drop (0 * Tryd.prog.cellsOf 5) [c1_0, c1_1, c1_2, c1_3, c1_4, c1_5])) = some y1_0 := hg1 0 (by omega)
  have w1_0 := weights_all (i := 0) w1 rfl
  rw [show Tryd.prog.cellsOf 5 = 1 by kernel_rfl] at g1_0
  replace g1_0 : DataW.trod _ _ _ _ _ _ n1 5 [c1_0] = some y1_0 := g1_0
  have g1_1 : DataW.trod _ Tryd.prog _ _ _ _ n1 5 (List.take (Tryd.prog.cellsOf 5) (List.drop (1 * Tryd.prog.cellsOf 5) [c1_0, c1_1, c1_2, c1_3, c1_4, c1_5])) = some y1_1 := hg1 1 (by omega)
  have w1_1 := weights_all (i := 1) w1 rfl
  rw [show Tryd.prog.cellsOf 5 = 1 by kernel_rfl] at g1_1
  replace g1_1 : DataW.trod _ _ _ _ _ _ n1 5 [c1_1] = some y1_1 := g1_1
  have g1_2 : DataW.trod _ Tryd.prog _ _ _ _ n1 5 (List.take (Tryd.prog.cellsOf 5) (List.drop (2 * Tryd.prog.cellsOf 5) [c1_0, c1_1, c1_2, c1_3, c1_4, c1_5])) = some y1_2 := hg1 2 (by omega)
  have w1_2 := weights_all (i := 2) w1 rfl
  rw [show Tryd.prog.cellsOf 5 = 1 by kernel_rfl] at g1_2
  replace g1_2 : DataW.trod _ _ _ _ _ _ n1 5 [c1_2] = some y1_2 := g1_2
  have g1_3 : DataW.trod _ Tryd.prog _ _ _ _ n1 5 (List.take (Tryd.prog.cellsOf 5) (List.drop (3 * Tryd.prog.cellsOf 5) [c1_0, c1_1, c1_2, c1_3, c1_4, c1_5])) = some y1_3 := hg1 3 (by omega)
  have w1_3 := weights_all (i := 3) w1 rfl
  rw [show Tryd.prog.cellsOf 5 = 1 by kernel_rfl] at g1_3
  replace g1_3 : DataW.trod _ _ _ _ _ _ n1 5 [c1_3] = some y1_3 := g1_3
  have g1_4 : DataW.trod _ Tryd.prog _ _ _ _ n1 5 (List.take (Tryd.prog.cellsOf 5) (List.drop (4 * Tryd.prog.cellsOf 5) [c1_0, c1_1, c1_2, c1_3, c1_4, c1_5])) = some y1_4 := hg1 4 (by omega)
  have w1_4 := weights_all (i := 4) w1 rfl
  rw [show Tryd.prog.cellsOf 5 = 1 by kernel_rfl] at g1_4
  replace g1_4 : DataW.trod _ _ _ _ _ _ n1 5 [c1_4] = some y1_4 := g1_4
  have g1_5 : DataW.trod _ Tryd.prog _ _ _ _ n1 5 (List.take (Tryd.prog.cellsOf 5) (List.drop (5 * Tryd.prog.cellsOf 5) [c1_0, c1_1, c1_2, c1_3, c1_4, c1_5])) = some y1_5 := hg1 5 (by omega)
  have w1_5 := weights_all (i := 5) w1 rfl
  rw [show Tryd.prog.cellsOf 5 = 1 by kernel_rfl] at g1_5
  replace g1_5 : DataW.trod _ _ _ _ _ _ n1 5 [c1_5] = some y1_5 := g1_5
  obtain ⟨a1_0, e1_0, ok1_0⟩ := (reads_int Tryd.underlying5).read g1_0 w1_0
  obtain rfl : c1_0 = _ := (List.cons.inj e1_0).1
  obtain ⟨a1_1, e1_1, ok1_1⟩ := (reads_int Tryd.underlying5).read g1_1 w1_1
  obtain rfl : c1_1 = _ := (List.cons.inj e1_1).1
  obtain ⟨a1_2, e1_2, ok1_2⟩ := (reads_int Tryd.underlying5).read g1_2 w1_2
  obtain rfl : c1_2 = _ := (List.cons.inj e1_2).1
  obtain ⟨a1_3, e1_3, ok1_3⟩ := (reads_int Tryd.underlying5).read g1_3 w1_3
  obtain rfl : c1_3 = _ := (List.cons.inj e1_3).1
  obtain ⟨a1_4, e1_4, ok1_4⟩ := (reads_int Tryd.underlying5).read g1_4 w1_4
  obtain rfl : c1_4 = _ := (List.cons.inj e1_4).1
  obtain ⟨a1_5, e1_5, ok1_5⟩ := (reads_int Tryd.underlying5).read g1_5 w1_5
  obtain rfl : c1_5 = _ := (List.cons.inj e1_5).1
  exact ⟨a1_0, a1_1, a1_2, a1_3, a1_4, a1_5, rfl, ok1_0, ok1_1, ok1_2, ok1_3, ok1_4, ok1_5⟩
set_option maxHeartbeats 1000000 in
theorem open_p2 {H : Type} {enc : TypeId × Value → H} {W : World} {b0 : Nat} {v : Value} {d : DataW H} {pp : List MemPlace} (hv : Value.okWide Tryd.prog W .any b0 42 v) (h : DataW.Trod enc Tryd.prog W 0 (fun _ => true) true 42 v d pp) (w2 : (DataW.weights Tryd.prog 42 d).all (· ≤ reachBytes) = true) :
    ∃ (a2_0 : Int) (a2_1 : Int) (a2_2 : Int) (a2_3 : Int) (a2_4 : Int) (a2_5 : Int), v = .agg #[.int .u8 a2_0, .int .u8 a2_1, .int .u8 a2_2, .int .u8 a2_3, .int .u8 a2_4, .int .u8 a2_5] ∧ ((Lit.int .u8 a2_0).wf = true) ∧ ((Lit.int .u8 a2_1).wf = true) ∧ ((Lit.int .u8 a2_2).wf = true) ∧ ((Lit.int .u8 a2_3).wf = true) ∧ ((Lit.int .u8 a2_4).wf = true) ∧ ((Lit.int .u8 a2_5).wf = true) := by
  obtain ⟨cs, rfl, hs⟩ := okWide_array Tryd.underlying42 hv
  obtain ⟨f, hf2⟩ := h
  obtain ⟨cs⟩ := cs
  obtain ⟨c2_0, c2_1, c2_2, c2_3, c2_4, c2_5, rfl⟩ := list6 (hs.trans (show Tryd.prog.cellsOf 42 = 6 by kernel_rfl) : cs.length = 6)
  obtain ⟨xs2, n2, _, hx2, _, hl2, hg2⟩ := Go.DataW.trod_array Tryd.underlying42 hf2
  obtain ⟨y2_0, y2_1, y2_2, y2_3, y2_4, y2_5, rfl⟩ := list6 hl2
  replace hx2 := congrArg Prod.fst hx2
  dsimp only at hx2
  try dsimp only at w2
  simp only [hx2, DataW.weights, Tryd.underlying42, List.map_cons, List.map_nil] at w2
  have g2_0 : DataW.trod _ Tryd.prog _ _ _ _ n2 5 (List.take (Tryd.prog.cellsOf 5) (List.drop (0 * Tryd.prog.cellsOf 5) [c2_0, c2_1, c2_2, c2_3, c2_4, c2_5])) = some y2_0 := hg2 0 (by omega)
  have w2_0 := weights_all (i := 0) w2 rfl
  rw [show Tryd.prog.cellsOf 5 = 1 by kernel_rfl] at g2_0
  replace g2_0 : DataW.trod _ _ _ _ _ _ n2 5 [c2_0] = some y2_0 := g2_0
  have g2_1 : DataW.trod _ Tryd.prog _ _ _ _ n2 5 (List.take (Tryd.prog.cellsOf 5) (List.drop (1 * Tryd.prog.cellsOf 5) [c2_0, c2_1, c2_2, c2_3, c2_4, c2_5])) = some y2_1 := hg2 1 (by omega)
  have w2_1 := weights_all (i := 1) w2 rfl
  rw [show Tryd.prog.cellsOf 5 = 1 by kernel_rfl] at g2_1
  replace g2_1 : DataW.trod _ _ _ _ _ _ n2 5 [c2_1] = some y2_1 := g2_1
  have g2_2 : DataW.trod _ Tryd.prog _ _ _ _ n2 5 (List.take (Tryd.prog.cellsOf 5) (List.drop (2 * Tryd.prog.cellsOf 5) [c2_0, c2_1, c2_2, c2_3, c2_4, c2_5])) = some y2_2 := hg2 2 (by omega)
  have w2_2 := weights_all (i := 2) w2 rfl
  rw [show Tryd.prog.cellsOf 5 = 1 by kernel_rfl] at g2_2
  replace g2_2 : DataW.trod _ _ _ _ _ _ n2 5 [c2_2] = some y2_2 := g2_2
  have g2_3 : DataW.trod _ Tryd.prog _ _ _ _ n2 5 (List.take (Tryd.prog.cellsOf 5) (List.drop (3 * Tryd.prog.cellsOf 5) [c2_0, c2_1, c2_2, c2_3, c2_4, c2_5])) = some y2_3 := hg2 3 (by omega)
  have w2_3 := weights_all (i := 3) w2 rfl
  rw [show Tryd.prog.cellsOf 5 = 1 by kernel_rfl] at g2_3
  replace g2_3 : DataW.trod _ _ _ _ _ _ n2 5 [c2_3] = some y2_3 := g2_3
  have g2_4 : DataW.trod _ Tryd.prog _ _ _ _ n2 5 (List.take (Tryd.prog.cellsOf 5) (List.drop (4 * Tryd.prog.cellsOf 5) [c2_0, c2_1, c2_2, c2_3, c2_4, c2_5])) = some y2_4 := hg2 4 (by omega)
  have w2_4 := weights_all (i := 4) w2 rfl
  rw [show Tryd.prog.cellsOf 5 = 1 by kernel_rfl] at g2_4
  replace g2_4 : DataW.trod _ _ _ _ _ _ n2 5 [c2_4] = some y2_4 := g2_4
  have g2_5 : DataW.trod _ Tryd.prog _ _ _ _ n2 5 (List.take (Tryd.prog.cellsOf 5) (List.drop (5 * Tryd.prog.cellsOf 5) [c2_0, c2_1, c2_2, c2_3, c2_4, c2_5])) = some y2_5 := hg2 5 (by omega)
  have w2_5 := weights_all (i := 5) w2 rfl
  rw [show Tryd.prog.cellsOf 5 = 1 by kernel_rfl] at g2_5
  replace g2_5 : DataW.trod _ _ _ _ _ _ n2 5 [c2_5] = some y2_5 := g2_5
  obtain ⟨a2_0, e2_0, ok2_0⟩ := (reads_int Tryd.underlying5).read g2_0 w2_0
  obtain rfl : c2_0 = _ := (List.cons.inj e2_0).1
  obtain ⟨a2_1, e2_1, ok2_1⟩ := (reads_int Tryd.underlying5).read g2_1 w2_1
  obtain rfl : c2_1 = _ := (List.cons.inj e2_1).1
  obtain ⟨a2_2, e2_2, ok2_2⟩ := (reads_int Tryd.underlying5).read g2_2 w2_2
  obtain rfl : c2_2 = _ := (List.cons.inj e2_2).1
  obtain ⟨a2_3, e2_3, ok2_3⟩ := (reads_int Tryd.underlying5).read g2_3 w2_3
  obtain rfl : c2_3 = _ := (List.cons.inj e2_3).1
  obtain ⟨a2_4, e2_4, ok2_4⟩ := (reads_int Tryd.underlying5).read g2_4 w2_4
  obtain rfl : c2_4 = _ := (List.cons.inj e2_4).1
  obtain ⟨a2_5, e2_5, ok2_5⟩ := (reads_int Tryd.underlying5).read g2_5 w2_5
  obtain rfl : c2_5 = _ := (List.cons.inj e2_5).1
  exact ⟨a2_0, a2_1, a2_2, a2_3, a2_4, a2_5, rfl, ok2_0, ok2_1, ok2_2, ok2_3, ok2_4, ok2_5⟩
set_option maxRecDepth 100000 in
set_option maxHeartbeats 1000000 in
theorem lifted (os : Os) (started : os.Started) (H : Type) (enc : TypeId × Value → H) :
    ReturnsInHanded {} Tryd.checked os 9 .any (fun w args => (Rows.keysPartedSpec.pre enc Tryd.prog Tryd.f9 Rows.keysPartedRow.domain false w args ∧ laidMetH Tryd.prog Rows.keysPartedRow.laid w) ∧ sizedMet enc Tryd.prog Tryd.f9 (OpenSpec.ofChange Rows.keysPartedSpec) false w args) (Rows.keysPartedSpec.post enc Tryd.prog Tryd.f9 false true false false) := by
  refine returnsInHanded_of_change_and (C := Tryd.checked) (X := fun w _ => laidMetH Tryd.prog Rows.keysPartedRow.laid w) (fun _ _ _ hh h => h.of_heap hh) own started (by kernel_rfl) Tryd.func9
    (ChangeSpec.witness_shaped (enc := enc) (C := Tryd.checked) (os := os) (X := fun w _ => laidMetH Tryd.prog Rows.keysPartedRow.laid w) false (World.laidAll Tryd.prog os Rows.keysPartedRow.laid) #[.int .u16 0, .agg #[.int .u8 0, .int .u8 0, .int .u8 0, .int .u8 0, .int .u8 0, .int .u8 0], .agg #[.int .u8 0, .int .u8 0, .int .u8 0, .int .u8 0, .int .u8 0, .int .u8 0]] 8 (World.laidAll_os _ _ _)
      (World.shaped_of_ZipB (by kernel_rfl) (by kernel_rfl)) (by kernel_rfl) (by kernel_rfl) (by kernel_rfl)
      (by rw [MakeChecks.laidMetH_plain _ _ _ (by kernel_rfl)]; exact laidMet_laidAll _ (by kernel_rfl) (by kernel_rfl))) ?_
  intro W base args ds gs before hval0 hW hcnd hsz0 hL _
  clear hL
  have hszz : (DataW.weightsEach Tryd.prog (Tryd.f9.params.toList ++ Rows.keysPartedSpec.plain.varTypes Tryd.prog) (ds ++ gs)).all (· ≤ reachBytes) = true := hsz0
  have hval : ∀ (j : Nat) t v, Tryd.f9.params[j]? = some t → args[j]? = some v → Value.okWide Tryd.prog W .any base t v := hval0
  have hW' := hW
  obtain ⟨p, q, hA0, hV, rfl, hfz, hnd⟩ := hW
  have hA : DataW.TrodAll enc Tryd.prog W 0 (fun _ => true) true Tryd.f9.params.toList args.toList ds p := hA0
  rw [Tryd.params9] at hA hval hszz
  obtain ⟨v0, vs0, d0, ds0, p0, q0, hargs, rfl, rfl, h0, r0⟩ := trodAll_cons hA
  obtain ⟨v1, vs1, d1, ds1, p1, q1, rfl, rfl, rfl, h1, r1⟩ := trodAll_cons r0
  obtain ⟨v2, vs2, d2, ds2, p2, q2, rfl, rfl, rfl, h2, r2⟩ := trodAll_cons r1
  obtain ⟨rfl, rfl, rfl⟩ := trodAll_nil r2
  obtain rfl : args = #[v0, v1, v2] := by cases args; simp_all
  obtain ⟨rfl, rfl⟩ := trodVars_none hV
  have hsz : (DataW.weightsEach Tryd.prog [41, 42, 42] [d0, d1, d2]).all (· ≤ reachBytes) = true := hszz
  have k0 := h0
  have lt0 : ∀ x ∈ p0, x.block < W.heap.size := by obtain ⟨m, hm⟩ := k0; exact DataW.trod_lt m _ _ _ hm
  have w0 := weights_each (i := 0) hsz rfl rfl
  obtain ⟨a0, rfl, rfl, rfl, ok0⟩ := open_int Tryd.underlying41 (hval 0 41 v0 rfl rfl) h0
  have k1 := h1
  have lt1 : ∀ x ∈ p1, x.block < W.heap.size := by obtain ⟨m, hm⟩ := k1; exact DataW.trod_lt m _ _ _ hm
  have w1 := weights_each (i := 1) hsz rfl rfl
  obtain ⟨a1_0, a1_1, a1_2, a1_3, a1_4, a1_5, rfl, ok1_0, ok1_1, ok1_2, ok1_3, ok1_4, ok1_5⟩ := open_p1 (hval 1 42 v1 rfl rfl) h1 w1
  have k2 := h2
  have lt2 : ∀ x ∈ p2, x.block < W.heap.size := by obtain ⟨m, hm⟩ := k2; exact DataW.trod_lt m _ _ _ hm
  have w2 := weights_each (i := 2) hsz rfl rfl
  obtain ⟨a2_0, a2_1, a2_2, a2_3, a2_4, a2_5, rfl, ok2_0, ok2_1, ok2_2, ok2_3, ok2_4, ok2_5⟩ := open_p2 (hval 2 42 v2 rfl rfl) h2 w2
  clear hA0 hval0 hsz0 hszz hsz
  refine (KeysParted_walk a0 a1_0 a1_1 a1_2 a1_3 a1_4 a1_5 a2_0 a2_1 a2_2 a2_3 a2_4 a2_5 W ok0 ok1_0 ok1_1 ok1_2 ok1_3 ok1_4 ok1_5 ok2_0 ok2_1 ok2_2 ok2_3 ok2_4 ok2_5).mono fun e W' ⟨he, bel⟩ => ?_
  subst he
  exact ⟨_, rfl, _, _, _, [], _, [], hW', trodAll_mk1 (shut_bool Tryd.underlying4 _), (trodAll_cons_mk (Below.trod laidOut (by kernel_rfl) (of_decide_eq_true (by kernel_rfl)) k0 bel lt0) (trodAll_cons_mk (Below.trod laidOut (by kernel_rfl) (of_decide_eq_true (by kernel_rfl)) k1 bel lt1) (trodAll_cons_mk (Below.trod laidOut (by kernel_rfl) (of_decide_eq_true (by kernel_rfl)) k2 bel lt2) trodAll_mk0))), rfl, bel.frame _, fun h => by cases h⟩
theorem over : Rows.keysPartedRow.holds Tryd.pinned (OpenSpec.ofChange Rows.keysPartedSpec) :=
  OpenClaim.holds_of_wide 9 Tryd.f9 rfl rfl rfl rfl rfl rfl rfl ⟨rfl, rfl, rfl, rfl, rfl⟩ rfl rfl rfl rfl rfl (by kernel_rfl) Tryd.func9 (by kernel_rfl)
    (of_decide_eq_true (by kernel_rfl)) (by unfold Func.isWrapper; first | (rw [if_pos (by decide +kernel)]; kernel_rfl) | (rw [if_neg (by decide +kernel)]; exact ⟨rfl, rfl⟩))
    (fun os started H enc _ => lifted os started H enc)
theorem proved : Rows.KeysPartedCardSaid :=
  Claim7.holds_tied_plain_at .later [] [.data, .pinned] true (true, "4580d6e0a85aef5f0f24d8c5406217ad2b78d917847064a5b52cb330c78d39bc") false over (fun _ h => by cases h) (by kernel_rfl) (fun _ h => by cases h) keysParted_row_tie rfl ⟨rfl, rfl⟩ (by kernel_rfl) rfl
    (fun f fn hf hfn => by
      obtain rfl : f = 9 := Option.some.inj ((show Tryd.prog.funcNamed "toolchest/toolchestlaw05.KeysParted" = some 9 by kernel_rfl).symm.trans hf) |>.symm
      obtain rfl : fn = Tryd.f9 := (Option.some.inj (Tryd.func9.symm.trans hfn)).symm
      exact ⟨by kernel_rfl, fun j t ht => by
        rw [Tryd.params9] at ht
        have hm : t ∈ [41, 42, 42] := by simpa using Array.mem_of_getElem? ht
        have hall : ([41, 42, 42].all fun u => !Tryd.prog.wantsStandIn u) = true := by kernel_rfl
        exact (show Tryd.prog.wantsStandIn t = false by simpa using List.all_eq_true.1 hall t hm)⟩)
    (by kernel_rfl)
#print axioms proved
end Go.Proofs.YtbndinaiclkajaaDoor.keysParted
namespace Go.Proofs.YtbndinaiclkajaaDoor
/-- The row, under a short name, for the claim. -/
theorem keysParted_holds : Rows.KeysPartedCardSaid := keysParted.proved
end Go.Proofs.YtbndinaiclkajaaDoor

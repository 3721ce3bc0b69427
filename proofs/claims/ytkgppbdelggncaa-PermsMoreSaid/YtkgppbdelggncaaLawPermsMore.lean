/- The row of the law PermsMore out of its walk: for every input the law returns true, and each argument reads behind the call as it read before. -/
import Derived.Test.YtkgppbdelggncaaRows
import Derived.Test.YtkgppbdelggncaaOpen
import Derived.Test.YtkgppbdelggncaaWalk3
import Derived.WalkKit
import Derived.ProofKit
import Derived.OpenShut
import Derived.ShutString
import Derived.ChangeOld
import Derived.Below
import Derived.SizedLaws
import Derived.OpenVars
set_option linter.unusedVariables false
set_option linter.unusedSimpArgs false
namespace Go.Proofs.Ytkgppbdelggncaa.permsMore
open Go.ChangeShapes Go.WideShapes Go.ChangeAt Go.RowKit Go.Proofs.Ytkgppbdelggncaa.Open Go.Proofs.YtkgppbdelggncaaW.PrintWords
open Go.ChangeMaps (open_string shut_string)
open Go.Proofs.Ytkgppbdelggncaa.Q
theorem list4 {α : Type} {l : List α} (h : l.length = 4) : ∃ x0 x1 x2 x3, l = [x0, x1, x2, x3] := by
  match l, h with
  | [x0, x1, x2, x3], _ => exact ⟨x0, x1, x2, x3, rfl⟩
theorem list6 {α : Type} {l : List α} (h : l.length = 6) : ∃ x0 x1 x2 x3 x4 x5, l = [x0, x1, x2, x3, x4, x5] := by
  match l, h with
  | [x0, x1, x2, x3, x4, x5], _ => exact ⟨x0, x1, x2, x3, x4, x5, rfl⟩
theorem list9 {α : Type} {l : List α} (h : l.length = 9) : ∃ x0 x1 x2 x3 x4 x5 x6 x7 x8, l = [x0, x1, x2, x3, x4, x5, x6, x7, x8] := by
  match l, h with
  | [x0, x1, x2, x3, x4, x5, x6, x7, x8], _ => exact ⟨x0, x1, x2, x3, x4, x5, x6, x7, x8, rfl⟩
theorem own : ownKnob Try.prog.godebug = none := by kernel_rfl
theorem laidOut : laidOutB Try.prog = true := by kernel_rfl
set_option maxHeartbeats 1000000 in
theorem open_p0 {H : Type} {enc : TypeId × Value → H} {W : World} {b0 : Nat} {v : Value} {d : DataW H} {pp : List MemPlace} (hv : Value.okWide Try.prog W .any b0 37 v) (h : DataW.Trod enc Try.prog W 0 (fun _ => true) true 37 v d pp) (w0 : (DataW.weights Try.prog 37 d).all (· ≤ reachBytes) = true) :
    ∃ (a0_0 : Int) (a0_1 : Int) (a0_2 : Int) (a0_3 : Int) (a0_4 : Int) (a0_5_0 : Int) (a0_5_1 : Int) (a0_5_2 : Int) (a0_5_3 : Int), v = .agg #[.int .u8 a0_0, .int .u16 a0_1, .int .u16 a0_2, .int .u16 a0_3, .int .u16 a0_4, .int .i64 a0_5_0, .int .i64 a0_5_1, .int .i64 a0_5_2, .int .i64 a0_5_3] ∧ ((Lit.int .u8 a0_0).wf = true) ∧ ((Lit.int .u16 a0_1).wf = true) ∧ ((Lit.int .u16 a0_2).wf = true) ∧ ((Lit.int .u16 a0_3).wf = true) ∧ ((Lit.int .u16 a0_4).wf = true) ∧ ((Lit.int .i64 a0_5_0).wf = true) ∧ ((Lit.int .i64 a0_5_1).wf = true) ∧ ((Lit.int .i64 a0_5_2).wf = true) ∧ ((Lit.int .i64 a0_5_3).wf = true) := by
  obtain ⟨cs, rfl, hs⟩ := okWide_struct Try.underlying37 hv
  obtain ⟨f, hf0⟩ := h
  obtain ⟨cs⟩ := cs
  obtain ⟨c0_0, c0_1, c0_2, c0_3, c0_4, c0_5, c0_6, c0_7, c0_8, rfl⟩ := list9 (hs.trans (show Try.prog.cellsOf 37 = 9 by kernel_rfl) : cs.length = 9)
  obtain ⟨xs0, n0, _, hx0, _, hl0, hg0⟩ := DataW.trod_struct Try.underlying37 hf0
  obtain ⟨y0_0, y0_1, y0_2, y0_3, y0_4, y0_5, rfl⟩ := list6 hl0
  replace hx0 := congrArg Prod.fst hx0
  dsimp only at hx0
  try dsimp only at w0
  simp only [hx0, DataW.weights, Try.underlying37, List.map_cons, List.map_nil] at w0
  have g0_0 : DataW.trod _ Try.prog _ _ _ _ n0 5 (List.take (Try.prog.cellsOf 5) (List.drop 0 [c0_0, c0_1, c0_2, c0_3, c0_4, c0_5, c0_6, c0_7, c0_8])) = some y0_0 := hg0 0 _ rfl
  have w0_0 := weights_each (i := 0) w0 rfl rfl
  rw [show Try.prog.cellsOf 5 = 1 by kernel_rfl] at g0_0
  replace g0_0 : DataW.trod _ _ _ _ _ _ n0 5 [c0_0] = some y0_0 := g0_0
  have g0_1 : DataW.trod _ Try.prog _ _ _ _ n0 35 (List.take (Try.prog.cellsOf 35) (List.drop 1 [c0_0, c0_1, c0_2, c0_3, c0_4, c0_5, c0_6, c0_7, c0_8])) = some y0_1 := hg0 1 _ rfl
  have w0_1 := weights_each (i := 1) w0 rfl rfl
  rw [show Try.prog.cellsOf 35 = 1 by kernel_rfl] at g0_1
  replace g0_1 : DataW.trod _ _ _ _ _ _ n0 35 [c0_1] = some y0_1 := g0_1
  have g0_2 : DataW.trod _ Try.prog _ _ _ _ n0 35 (List.take (Try.prog.cellsOf 35) (List.drop 2 [c0_0, c0_1, c0_2, c0_3, c0_4, c0_5, c0_6, c0_7, c0_8])) = some y0_2 := hg0 2 _ rfl
  have w0_2 := weights_each (i := 2) w0 rfl rfl
  rw [show Try.prog.cellsOf 35 = 1 by kernel_rfl] at g0_2
  replace g0_2 : DataW.trod _ _ _ _ _ _ n0 35 [c0_2] = some y0_2 := g0_2
  have g0_3 : DataW.trod _ Try.prog _ _ _ _ n0 35 (List.take (Try.prog.cellsOf 35) (List.drop 3 [c0_0, c0_1, c0_2, c0_3, c0_4, c0_5, c0_6, c0_7, c0_8])) = some y0_3 := hg0 3 _ rfl
  have w0_3 := weights_each (i := 3) w0 rfl rfl
  rw [show Try.prog.cellsOf 35 = 1 by kernel_rfl] at g0_3
  replace g0_3 : DataW.trod _ _ _ _ _ _ n0 35 [c0_3] = some y0_3 := g0_3
  have g0_4 : DataW.trod _ Try.prog _ _ _ _ n0 35 (List.take (Try.prog.cellsOf 35) (List.drop 4 [c0_0, c0_1, c0_2, c0_3, c0_4, c0_5, c0_6, c0_7, c0_8])) = some y0_4 := hg0 4 _ rfl
  have w0_4 := weights_each (i := 4) w0 rfl rfl
  rw [show Try.prog.cellsOf 35 = 1 by kernel_rfl] at g0_4
  replace g0_4 : DataW.trod _ _ _ _ _ _ n0 35 [c0_4] = some y0_4 := g0_4
  have g0_5 : DataW.trod _ Try.prog _ _ _ _ n0 28 (List.take (Try.prog.cellsOf 28) (List.drop 5 [c0_0, c0_1, c0_2, c0_3, c0_4, c0_5, c0_6, c0_7, c0_8])) = some y0_5 := hg0 5 _ rfl
  have w0_5 := weights_each (i := 5) w0 rfl rfl
  rw [show Try.prog.cellsOf 28 = 4 by kernel_rfl] at g0_5
  replace g0_5 : DataW.trod _ _ _ _ _ _ n0 28 [c0_5, c0_6, c0_7, c0_8] = some y0_5 := g0_5
  obtain ⟨xs0_5, n0_5, _, hx0_5, _, hl0_5, hg0_5⟩ := DataW.trod_struct Try.underlying28 g0_5
  obtain ⟨y0_5_0, y0_5_1, y0_5_2, y0_5_3, rfl⟩ := list4 hl0_5
  replace hx0_5 := congrArg Prod.fst hx0_5
  dsimp only at hx0_5
  try dsimp only at w0_5
  simp only [hx0_5, DataW.weights, Try.underlying28, List.map_cons, List.map_nil] at w0_5
  have g0_5_0 : DataW.trod _ Try.prog _ _ _ _ n0_5 3 (List.take (Try.prog.cellsOf 3) (List.drop 0 [c0_5, c0_6, c0_7, c0_8])) = some y0_5_0 := hg0_5 0 _ rfl
  have w0_5_0 := weights_each (i := 0) w0_5 rfl rfl
  rw [show Try.prog.cellsOf 3 = 1 by kernel_rfl] at g0_5_0
  replace g0_5_0 : DataW.trod _ _ _ _ _ _ n0_5 3 [c0_5] = some y0_5_0 := g0_5_0
  have g0_5_1 : DataW.trod _ Try.prog _ _ _ _ n0_5 3 (List.take (Try.prog.cellsOf 3) (List.drop 1 [c0_5, c0_6, c0_7, c0_8])) = some y0_5_1 := hg0_5 1 _ rfl
  have w0_5_1 := weights_each (i := 1) w0_5 rfl rfl
  rw [show Try.prog.cellsOf 3 = 1 by kernel_rfl] at g0_5_1
  replace g0_5_1 : DataW.trod _ _ _ _ _ _ n0_5 3 [c0_6] = some y0_5_1 := g0_5_1
  have g0_5_2 : DataW.trod _ Try.prog _ _ _ _ n0_5 3 (List.take (Try.prog.cellsOf 3) (List.drop 2 [c0_5, c0_6, c0_7, c0_8])) = some y0_5_2 := hg0_5 2 _ rfl
  have w0_5_2 := weights_each (i := 2) w0_5 rfl rfl
  rw [show Try.prog.cellsOf 3 = 1 by kernel_rfl] at g0_5_2
  replace g0_5_2 : DataW.trod _ _ _ _ _ _ n0_5 3 [c0_7] = some y0_5_2 := g0_5_2
  have g0_5_3 : DataW.trod _ Try.prog _ _ _ _ n0_5 3 (List.take (Try.prog.cellsOf 3) (List.drop 3 [c0_5, c0_6, c0_7, c0_8])) = some y0_5_3 := hg0_5 3 _ rfl
  have w0_5_3 := weights_each (i := 3) w0_5 rfl rfl
  rw [show Try.prog.cellsOf 3 = 1 by kernel_rfl] at g0_5_3
  replace g0_5_3 : DataW.trod _ _ _ _ _ _ n0_5 3 [c0_8] = some y0_5_3 := g0_5_3
  obtain ⟨a0_0, e0_0, ok0_0⟩ := (reads_int Try.underlying5).read g0_0 w0_0
  obtain rfl : c0_0 = _ := (List.cons.inj e0_0).1
  obtain ⟨a0_1, e0_1, ok0_1⟩ := (reads_int Try.underlying35).read g0_1 w0_1
  obtain rfl : c0_1 = _ := (List.cons.inj e0_1).1
  obtain ⟨a0_2, e0_2, ok0_2⟩ := (reads_int Try.underlying35).read g0_2 w0_2
  obtain rfl : c0_2 = _ := (List.cons.inj e0_2).1
  obtain ⟨a0_3, e0_3, ok0_3⟩ := (reads_int Try.underlying35).read g0_3 w0_3
  obtain rfl : c0_3 = _ := (List.cons.inj e0_3).1
  obtain ⟨a0_4, e0_4, ok0_4⟩ := (reads_int Try.underlying35).read g0_4 w0_4
  obtain rfl : c0_4 = _ := (List.cons.inj e0_4).1
  obtain ⟨a0_5_0, e0_5_0, ok0_5_0⟩ := (reads_int Try.underlying3).read g0_5_0 w0_5_0
  obtain rfl : c0_5 = _ := (List.cons.inj e0_5_0).1
  obtain ⟨a0_5_1, e0_5_1, ok0_5_1⟩ := (reads_int Try.underlying3).read g0_5_1 w0_5_1
  obtain rfl : c0_6 = _ := (List.cons.inj e0_5_1).1
  obtain ⟨a0_5_2, e0_5_2, ok0_5_2⟩ := (reads_int Try.underlying3).read g0_5_2 w0_5_2
  obtain rfl : c0_7 = _ := (List.cons.inj e0_5_2).1
  obtain ⟨a0_5_3, e0_5_3, ok0_5_3⟩ := (reads_int Try.underlying3).read g0_5_3 w0_5_3
  obtain rfl : c0_8 = _ := (List.cons.inj e0_5_3).1
  exact ⟨a0_0, a0_1, a0_2, a0_3, a0_4, a0_5_0, a0_5_1, a0_5_2, a0_5_3, rfl, ok0_0, ok0_1, ok0_2, ok0_3, ok0_4, ok0_5_0, ok0_5_1, ok0_5_2, ok0_5_3⟩
set_option maxRecDepth 100000 in
set_option maxHeartbeats 1000000 in
theorem lifted (os : Os) (started : os.Started) (H : Type) (enc : TypeId × Value → H) :
    ReturnsInHanded {} Try.checked os 5 .any (Rows.permsMoreSpec.pre6 enc Try.prog Try.f5 Rows.permsMoreRow.domain false) (Rows.permsMoreSpec.post enc Try.prog Try.f5 false true false false) := by
  refine returnsInHanded_of_change_sized (C := Try.checked) own started (by kernel_rfl) Try.func5
    (ChangeSpec.witness6 (enc := enc) (C := Try.checked) false ⟨#[], #[.agg #[.int .u8 0, .int .u16 0, .int .u16 0, .int .u16 0, .int .u16 0, .int .i64 0, .int .i64 0, .int .i64 0, .int .i64 0]], []⟩ 8 (by kernel_rfl) (by kernel_rfl) (by kernel_rfl) (by kernel_rfl)) ?_
  intro W base args ds gs before hval0 hW hcnd hsz0 _
  have hszz : (DataW.weightsEach Try.prog (Try.f5.params.toList ++ Rows.permsMoreSpec.plain.varTypes Try.prog) (ds ++ gs)).all (· ≤ reachBytes) = true := hsz0
  have hval : ∀ (j : Nat) t v, Try.f5.params[j]? = some t → args[j]? = some v → Value.okWide Try.prog W .any base t v := hval0
  have hW' := hW
  obtain ⟨p, q, hA0, hV, rfl, hfz, hnd⟩ := hW
  have hA : DataW.TrodAll enc Try.prog W 0 (fun _ => true) true Try.f5.params.toList args.toList ds p := hA0
  rw [Try.params5] at hA hval hszz
  obtain ⟨v0, vs0, d0, ds0, p0, q0, hargs, rfl, rfl, h0, r0⟩ := trodAll_cons hA
  obtain ⟨rfl, rfl, rfl⟩ := trodAll_nil r0
  obtain rfl : args = #[v0] := by cases args; simp_all
  obtain ⟨rfl, rfl⟩ := trodVars_none hV
  have hsz : (DataW.weightsEach Try.prog [37] [d0]).all (· ≤ reachBytes) = true := hszz
  have k0 := h0
  have lt0 : ∀ x ∈ p0, x.block < W.heap.size := by obtain ⟨m, hm⟩ := k0; exact DataW.trod_lt m _ _ _ hm
  have w0 := weights_each (i := 0) hsz rfl rfl
  obtain ⟨a0_0, a0_1, a0_2, a0_3, a0_4, a0_5_0, a0_5_1, a0_5_2, a0_5_3, rfl, ok0_0, ok0_1, ok0_2, ok0_3, ok0_4, ok0_5_0, ok0_5_1, ok0_5_2, ok0_5_3⟩ := open_p0 (hval 0 37 v0 rfl rfl) h0 w0
  clear hA0 hval0 hsz0 hszz hsz
  refine (PermsMore_walk a0_0 a0_1 a0_2 a0_3 a0_4 a0_5_0 a0_5_1 a0_5_2 a0_5_3 W ok0_0 ok0_1 ok0_2 ok0_3 ok0_4 ok0_5_0 ok0_5_1 ok0_5_2 ok0_5_3).mono fun e W' ⟨he, bel⟩ => ?_
  subst he
  exact ⟨_, rfl, _, _, _, [], _, [], hW', trodAll_mk1 (shut_bool Try.underlying4 _), (trodAll_cons_mk (Below.trod laidOut (by kernel_rfl) (of_decide_eq_true (by kernel_rfl)) k0 bel lt0) trodAll_mk0), rfl, bel.frame _, fun h => by cases h⟩
theorem over : Rows.permsMoreRow.holds Try.pinned (OpenSpec.ofChange Rows.permsMoreSpec) :=
  OpenClaim.holds_of_wide 5 Try.f5 rfl rfl rfl rfl rfl rfl rfl ⟨rfl, rfl, rfl, rfl, rfl⟩ rfl rfl rfl rfl rfl (by kernel_rfl) Try.func5 (by kernel_rfl)
    (of_decide_eq_true (by kernel_rfl)) (by unfold Func.isWrapper; first | (rw [if_pos (by decide +kernel)]; kernel_rfl) | (rw [if_neg (by decide +kernel)]; exact ⟨rfl, rfl⟩))
    (fun os started H enc _ => lifted os started H enc)
theorem proved : Rows.PermsMoreSaid := over
#print axioms proved
end Go.Proofs.Ytkgppbdelggncaa.permsMore
namespace Go.Proofs.Ytkgppbdelggncaa
/-- The row, under a short name, for the claim. -/
theorem permsMore_holds : Rows.PermsMoreSaid := permsMore.proved
end Go.Proofs.Ytkgppbdelggncaa

/- The row of the law KeysOrder out of its walk: for every input the law returns true, and each argument reads behind the call as it read before. -/
import Derived.Test.YtbndinaiclkajaaDoorRows
import Derived.Test.YtbndinaiclkajaaDoorOpen
import Derived.Test.YtbndinaiclkajaaDoorPureKeysOrder
import Derived.WalkKit
import Derived.ProofKit
import Derived.OpenShut
import Derived.ShutString
import Derived.ChangeOld
import Derived.Below
import Derived.SizedLaws
import Derived.OpenVars
import Derived.LaidOnce
import Derived.Lay
import Derived.MakeChecks
import Derived.SevenTiedAt
import Derived.Test.YtbndinaiclkajaaDoorCards
import Derived.Test.YtbndinaiclkajaaDoorTie
set_option linter.unusedVariables false
set_option linter.unusedSimpArgs false
namespace Go.Proofs.YtbndinaiclkajaaDoor.keysOrder
open Go.ChangeShapes Go.WideShapes Go.ChangeAt Go.RowKit Go.Proofs.YtbndinaiclkajaaDoor.Open Go.Proofs.YtbndinaiclkajaaDoorW.PrintWords
open Go.ChangeMaps (open_string shut_string)
open Go.Proofs.YtbndinaiclkajaaDoor.Pure
theorem list3 {α : Type} {l : List α} (h : l.length = 3) : ∃ x0 x1 x2, l = [x0, x1, x2] := by
  match l, h with
  | [x0, x1, x2], _ => exact ⟨x0, x1, x2, rfl⟩
theorem list7 {α : Type} {l : List α} (h : l.length = 7) : ∃ x0 x1 x2 x3 x4 x5 x6, l = [x0, x1, x2, x3, x4, x5, x6] := by
  match l, h with
  | [x0, x1, x2, x3, x4, x5, x6], _ => exact ⟨x0, x1, x2, x3, x4, x5, x6, rfl⟩
theorem own : ownKnob Tryd.prog.godebug = none := by kernel_rfl
theorem laidOut : laidOutB Tryd.prog = true := by kernel_rfl
set_option maxHeartbeats 1000000 in
theorem open_p0 {H : Type} {enc : TypeId × Value → H} {W : World} {b0 : Nat} {v : Value} {d : DataW H} {pp : List MemPlace} (hv : Value.okWide Tryd.prog W .any b0 23 v) (h : DataW.Trod enc Tryd.prog W 0 (fun _ => true) true 23 v d pp) (w0 : (DataW.weights Tryd.prog 23 d).all (· ≤ reachBytes) = true) :
    ∃ (a0_0 : Bool) (a0_1 : Bool) (a0_2 : Bool) (a0_3 : Bool) (a0_4 : Int) (a0_5 : Int) (a0_6 : Int), v = .agg #[.bool a0_0, .bool a0_1, .bool a0_2, .bool a0_3, .int .i64 a0_4, .int .i64 a0_5, .int .u8 a0_6] ∧ ((Lit.int .i64 a0_4).wf = true) ∧ ((Lit.int .i64 a0_5).wf = true) ∧ ((Lit.int .u8 a0_6).wf = true) := by
  obtain ⟨cs, rfl, hs⟩ := okWide_struct Tryd.underlying23 hv
  obtain ⟨f, hf0⟩ := h
  obtain ⟨cs⟩ := cs
  obtain ⟨c0_0, c0_1, c0_2, c0_3, c0_4, c0_5, c0_6, rfl⟩ := list7 (hs.trans (show Tryd.prog.cellsOf 23 = 7 by kernel_rfl) : cs.length = 7)
  obtain ⟨xs0, n0, _, hx0, _, hl0, hg0⟩ := DataW.trod_struct Tryd.underlying23 hf0
  obtain ⟨y0_0, y0_1, y0_2, y0_3, y0_4, y0_5, y0_6, rfl⟩ := list7 hl0
  replace hx0 := congrArg Prod.fst hx0
  dsimp only at hx0
  try dsimp only at w0
  simp only [hx0, DataW.weights, Tryd.underlying23, List.map_cons, List.map_nil] at w0
  have g0_0 : DataW.trod _ Tryd.prog _ _ _ _ n0 4 (List.take (Tryd.prog.cellsOf 4) (List.drop 0 [c0_0, c0_1, c0_2, c0_3, c0_4, c0_5, c0_6])) = some y0_0 := hg0 0 _ rfl
  have w0_0 := weights_each (i := 0) w0 rfl rfl
  rw [show Tryd.prog.cellsOf 4 = 1 by kernel_rfl] at g0_0
  replace g0_0 : DataW.trod _ _ _ _ _ _ n0 4 [c0_0] = some y0_0 := g0_0
  have g0_1 : DataW.trod _ Tryd.prog _ _ _ _ n0 4 (List.take (Tryd.prog.cellsOf 4) (List.drop 1 [c0_0, c0_1, c0_2, c0_3, c0_4, c0_5, c0_6])) = some y0_1 := hg0 1 _ rfl
  have w0_1 := weights_each (i := 1) w0 rfl rfl
  rw [show Tryd.prog.cellsOf 4 = 1 by kernel_rfl] at g0_1
  replace g0_1 : DataW.trod _ _ _ _ _ _ n0 4 [c0_1] = some y0_1 := g0_1
  have g0_2 : DataW.trod _ Tryd.prog _ _ _ _ n0 4 (List.take (Tryd.prog.cellsOf 4) (List.drop 2 [c0_0, c0_1, c0_2, c0_3, c0_4, c0_5, c0_6])) = some y0_2 := hg0 2 _ rfl
  have w0_2 := weights_each (i := 2) w0 rfl rfl
  rw [show Tryd.prog.cellsOf 4 = 1 by kernel_rfl] at g0_2
  replace g0_2 : DataW.trod _ _ _ _ _ _ n0 4 [c0_2] = some y0_2 := g0_2
  have g0_3 : DataW.trod _ Tryd.prog _ _ _ _ n0 4 (List.take (Tryd.prog.cellsOf 4) (List.drop 3 [c0_0, c0_1, c0_2, c0_3, c0_4, c0_5, c0_6])) = some y0_3 := hg0 3 _ rfl
  have w0_3 := weights_each (i := 3) w0 rfl rfl
  rw [show Tryd.prog.cellsOf 4 = 1 by kernel_rfl] at g0_3
  replace g0_3 : DataW.trod _ _ _ _ _ _ n0 4 [c0_3] = some y0_3 := g0_3
  have g0_4 : DataW.trod _ Tryd.prog _ _ _ _ n0 3 (List.take (Tryd.prog.cellsOf 3) (List.drop 4 [c0_0, c0_1, c0_2, c0_3, c0_4, c0_5, c0_6])) = some y0_4 := hg0 4 _ rfl
  have w0_4 := weights_each (i := 4) w0 rfl rfl
  rw [show Tryd.prog.cellsOf 3 = 1 by kernel_rfl] at g0_4
  replace g0_4 : DataW.trod _ _ _ _ _ _ n0 3 [c0_4] = some y0_4 := g0_4
  have g0_5 : DataW.trod _ Tryd.prog _ _ _ _ n0 3 (List.take (Tryd.prog.cellsOf 3) (List.drop 5 [c0_0, c0_1, c0_2, c0_3, c0_4, c0_5, c0_6])) = some y0_5 := hg0 5 _ rfl
  have w0_5 := weights_each (i := 5) w0 rfl rfl
  rw [show Tryd.prog.cellsOf 3 = 1 by kernel_rfl] at g0_5
  replace g0_5 : DataW.trod _ _ _ _ _ _ n0 3 [c0_5] = some y0_5 := g0_5
  have g0_6 : DataW.trod _ Tryd.prog _ _ _ _ n0 5 (List.take (Tryd.prog.cellsOf 5) (List.drop 6 [c0_0, c0_1, c0_2, c0_3, c0_4, c0_5, c0_6])) = some y0_6 := hg0 6 _ rfl
  have w0_6 := weights_each (i := 6) w0 rfl rfl
  rw [show Tryd.prog.cellsOf 5 = 1 by kernel_rfl] at g0_6
  replace g0_6 : DataW.trod _ _ _ _ _ _ n0 5 [c0_6] = some y0_6 := g0_6
  obtain ⟨a0_0, e0_0, ok0_0⟩ := (reads_bool Tryd.underlying4).read g0_0 w0_0
  obtain rfl : c0_0 = _ := (List.cons.inj e0_0).1
  obtain ⟨a0_1, e0_1, ok0_1⟩ := (reads_bool Tryd.underlying4).read g0_1 w0_1
  obtain rfl : c0_1 = _ := (List.cons.inj e0_1).1
  obtain ⟨a0_2, e0_2, ok0_2⟩ := (reads_bool Tryd.underlying4).read g0_2 w0_2
  obtain rfl : c0_2 = _ := (List.cons.inj e0_2).1
  obtain ⟨a0_3, e0_3, ok0_3⟩ := (reads_bool Tryd.underlying4).read g0_3 w0_3
  obtain rfl : c0_3 = _ := (List.cons.inj e0_3).1
  obtain ⟨a0_4, e0_4, ok0_4⟩ := (reads_int Tryd.underlying3).read g0_4 w0_4
  obtain rfl : c0_4 = _ := (List.cons.inj e0_4).1
  obtain ⟨a0_5, e0_5, ok0_5⟩ := (reads_int Tryd.underlying3).read g0_5 w0_5
  obtain rfl : c0_5 = _ := (List.cons.inj e0_5).1
  obtain ⟨a0_6, e0_6, ok0_6⟩ := (reads_int Tryd.underlying5).read g0_6 w0_6
  obtain rfl : c0_6 = _ := (List.cons.inj e0_6).1
  exact ⟨a0_0, a0_1, a0_2, a0_3, a0_4, a0_5, a0_6, rfl, ok0_4, ok0_5, ok0_6⟩
set_option maxHeartbeats 1000000 in
theorem open_p1 {H : Type} {enc : TypeId × Value → H} {W : World} {b0 : Nat} {v : Value} {d : DataW H} {pp : List MemPlace} (hv : Value.okWide Tryd.prog W .any b0 34 v) (h : DataW.Trod enc Tryd.prog W 0 (fun _ => true) true 34 v d pp) (w1 : (DataW.weights Tryd.prog 34 d).all (· ≤ reachBytes) = true) :
    ∃ (a1_0 : ByteArray) (a1_1 : ByteArray) (a1_2 : ByteArray), v = .agg #[.string a1_0, .string a1_1, .string a1_2] ∧ (a1_0.size ≤ 140737488351232) ∧ (a1_1.size ≤ 140737488351232) ∧ (a1_2.size ≤ 140737488351232) := by
  obtain ⟨cs, rfl, hs⟩ := okWide_struct Tryd.underlying34 hv
  obtain ⟨f, hf1⟩ := h
  obtain ⟨cs⟩ := cs
  obtain ⟨c1_0, c1_1, c1_2, rfl⟩ := list3 (hs.trans (show Tryd.prog.cellsOf 34 = 3 by kernel_rfl) : cs.length = 3)
  obtain ⟨xs1, n1, _, hx1, _, hl1, hg1⟩ := DataW.trod_struct Tryd.underlying34 hf1
  obtain ⟨y1_0, y1_1, y1_2, rfl⟩ := list3 hl1
  replace hx1 := congrArg Prod.fst hx1
  dsimp only at hx1
  try dsimp only at w1
  simp only [hx1, DataW.weights, Tryd.underlying34, List.map_cons, List.map_nil] at w1
  have g1_0 : DataW.trod _ Tryd.prog _ _ _ _ n1 9 (List.take (Tryd.prog.cellsOf 9) (List.drop 0 [c1_0, c1_1, c1_2])) = some y1_0 := hg1 0 _ rfl
  have w1_0 := weights_each (i := 0) w1 rfl rfl
  rw [show Tryd.prog.cellsOf 9 = 1 by kernel_rfl] at g1_0
  replace g1_0 : DataW.trod _ _ _ _ _ _ n1 9 [c1_0] = some y1_0 := g1_0
  have g1_1 : DataW.trod _ Tryd.prog _ _ _ _ n1 9 (List.take (Tryd.prog.cellsOf 9) (List.drop 1 [c1_0, c1_1, c1_2])) = some y1_1 := hg1 1 _ rfl
  have w1_1 := weights_each (i := 1) w1 rfl rfl
  rw [show Tryd.prog.cellsOf 9 = 1 by kernel_rfl] at g1_1
  replace g1_1 : DataW.trod _ _ _ _ _ _ n1 9 [c1_1] = some y1_1 := g1_1
  have g1_2 : DataW.trod _ Tryd.prog _ _ _ _ n1 9 (List.take (Tryd.prog.cellsOf 9) (List.drop 2 [c1_0, c1_1, c1_2])) = some y1_2 := hg1 2 _ rfl
  have w1_2 := weights_each (i := 2) w1 rfl rfl
  rw [show Tryd.prog.cellsOf 9 = 1 by kernel_rfl] at g1_2
  replace g1_2 : DataW.trod _ _ _ _ _ _ n1 9 [c1_2] = some y1_2 := g1_2
  obtain ⟨a1_0, e1_0, ok1_0⟩ := (reads_string Tryd.underlying9).read g1_0 w1_0
  obtain rfl : c1_0 = _ := (List.cons.inj e1_0).1
  obtain ⟨a1_1, e1_1, ok1_1⟩ := (reads_string Tryd.underlying9).read g1_1 w1_1
  obtain rfl : c1_1 = _ := (List.cons.inj e1_1).1
  obtain ⟨a1_2, e1_2, ok1_2⟩ := (reads_string Tryd.underlying9).read g1_2 w1_2
  obtain rfl : c1_2 = _ := (List.cons.inj e1_2).1
  exact ⟨a1_0, a1_1, a1_2, rfl, ok1_0, ok1_1, ok1_2⟩
set_option maxRecDepth 100000 in
set_option maxHeartbeats 1000000 in
theorem lifted (os : Os) (started : os.Started) (H : Type) (enc : TypeId × Value → H) :
    ReturnsInHanded {} Tryd.checked os 7 .any (fun w args => (Rows.keysOrderSpec.pre enc Tryd.prog Tryd.f7 Rows.keysOrderRow.domain false w args ∧ laidMetH Tryd.prog Rows.keysOrderRow.laid w) ∧ sizedMet enc Tryd.prog Tryd.f7 (OpenSpec.ofChange Rows.keysOrderSpec) false w args) (Rows.keysOrderSpec.post enc Tryd.prog Tryd.f7 false true false false) := by
  refine returnsInHanded_of_change_and (C := Tryd.checked) (X := fun w _ => laidMetH Tryd.prog Rows.keysOrderRow.laid w) (fun _ _ _ hh h => h.of_heap hh) own started (by kernel_rfl) Tryd.func7
    (ChangeSpec.witness_shaped (enc := enc) (C := Tryd.checked) (os := os) (X := fun w _ => laidMetH Tryd.prog Rows.keysOrderRow.laid w) false (World.laidAll Tryd.prog os Rows.keysOrderRow.laid) #[.agg #[.bool false, .bool false, .bool false, .bool false, .int .i64 0, .int .i64 0, .int .u8 0], .agg #[.string ByteArray.empty, .string ByteArray.empty, .string ByteArray.empty]] 8 (World.laidAll_os _ _ _)
      (World.shaped_of_ZipB (by kernel_rfl) (by kernel_rfl)) (by kernel_rfl) (by kernel_rfl) (by kernel_rfl)
      (by rw [MakeChecks.laidMetH_plain _ _ _ (by kernel_rfl)]; exact laidMet_laidAll _ (by kernel_rfl) (by kernel_rfl))) ?_
  intro W base args ds gs before hval0 hW hcnd hsz0 hL _
  clear hL
  have hszz : (DataW.weightsEach Tryd.prog (Tryd.f7.params.toList ++ Rows.keysOrderSpec.plain.varTypes Tryd.prog) (ds ++ gs)).all (· ≤ reachBytes) = true := hsz0
  have hval : ∀ (j : Nat) t v, Tryd.f7.params[j]? = some t → args[j]? = some v → Value.okWide Tryd.prog W .any base t v := hval0
  have hW' := hW
  obtain ⟨p, q, hA0, hV, rfl, hfz, hnd⟩ := hW
  have hA : DataW.TrodAll enc Tryd.prog W 0 (fun _ => true) true Tryd.f7.params.toList args.toList ds p := hA0
  rw [Tryd.params7] at hA hval hszz
  obtain ⟨v0, vs0, d0, ds0, p0, q0, hargs, rfl, rfl, h0, r0⟩ := trodAll_cons hA
  obtain ⟨v1, vs1, d1, ds1, p1, q1, rfl, rfl, rfl, h1, r1⟩ := trodAll_cons r0
  obtain ⟨rfl, rfl, rfl⟩ := trodAll_nil r1
  obtain rfl : args = #[v0, v1] := by cases args; simp_all
  obtain ⟨rfl, rfl⟩ := trodVars_none hV
  have hsz : (DataW.weightsEach Tryd.prog [23, 34] [d0, d1]).all (· ≤ reachBytes) = true := hszz
  have k0 := h0
  have lt0 : ∀ x ∈ p0, x.block < W.heap.size := by obtain ⟨m, hm⟩ := k0; exact DataW.trod_lt m _ _ _ hm
  have w0 := weights_each (i := 0) hsz rfl rfl
  obtain ⟨a0_0, a0_1, a0_2, a0_3, a0_4, a0_5, a0_6, rfl, ok0_4, ok0_5, ok0_6⟩ := open_p0 (hval 0 23 v0 rfl rfl) h0 w0
  have k1 := h1
  have lt1 : ∀ x ∈ p1, x.block < W.heap.size := by obtain ⟨m, hm⟩ := k1; exact DataW.trod_lt m _ _ _ hm
  have w1 := weights_each (i := 1) hsz rfl rfl
  obtain ⟨a1_0, a1_1, a1_2, rfl, ok1_0, ok1_1, ok1_2⟩ := open_p1 (hval 1 34 v1 rfl rfl) h1 w1
  clear hA0 hval0 hsz0 hszz hsz
  refine (KeysOrder_walk a0_0 a0_1 a0_2 a0_3 a0_4 a0_5 a0_6 a1_0 a1_1 a1_2 W ok0_4 ok0_5 ok0_6 ok1_0 ok1_1 ok1_2).mono fun e W' ⟨he, bel⟩ => ?_
  subst he
  exact ⟨_, rfl, _, _, _, [], _, [], hW', trodAll_mk1 (shut_bool Tryd.underlying4 _), (trodAll_cons_mk (Below.trod laidOut (by kernel_rfl) (of_decide_eq_true (by kernel_rfl)) k0 bel lt0) (trodAll_cons_mk (Below.trod laidOut (by kernel_rfl) (of_decide_eq_true (by kernel_rfl)) k1 bel lt1) trodAll_mk0)), rfl, bel.frame _, fun h => by cases h⟩
theorem over : Rows.keysOrderRow.holds Tryd.pinned (OpenSpec.ofChange Rows.keysOrderSpec) :=
  OpenClaim.holds_of_wide 7 Tryd.f7 rfl rfl rfl rfl rfl rfl rfl ⟨rfl, rfl, rfl, rfl, rfl⟩ rfl rfl rfl rfl rfl (by kernel_rfl) Tryd.func7 (by kernel_rfl)
    (of_decide_eq_true (by kernel_rfl)) (by unfold Func.isWrapper; first | (rw [if_pos (by decide +kernel)]; kernel_rfl) | (rw [if_neg (by decide +kernel)]; exact ⟨rfl, rfl⟩))
    (fun os started H enc _ => lifted os started H enc)
theorem proved : Rows.KeysOrderCardSaid :=
  Claim7.holds_tied_plain_at .later [] [.data, .pinned] true (true, "4580d6e0a85aef5f0f24d8c5406217ad2b78d917847064a5b52cb330c78d39bc") false over (fun _ h => by cases h) (by kernel_rfl) (fun _ h => by cases h) keysOrder_row_tie rfl ⟨rfl, rfl⟩ (by kernel_rfl) rfl
    (fun f fn hf hfn => by
      obtain rfl : f = 7 := Option.some.inj ((show Tryd.prog.funcNamed "toolchest/toolchestlaw05.KeysOrder" = some 7 by kernel_rfl).symm.trans hf) |>.symm
      obtain rfl : fn = Tryd.f7 := (Option.some.inj (Tryd.func7.symm.trans hfn)).symm
      exact ⟨by kernel_rfl, fun j t ht => by
        rw [Tryd.params7] at ht
        have hm : t ∈ [23, 34] := by simpa using Array.mem_of_getElem? ht
        have hall : ([23, 34].all fun u => !Tryd.prog.wantsStandIn u) = true := by kernel_rfl
        exact (show Tryd.prog.wantsStandIn t = false by simpa using List.all_eq_true.1 hall t hm)⟩)
    (by kernel_rfl)
#print axioms proved
end Go.Proofs.YtbndinaiclkajaaDoor.keysOrder
namespace Go.Proofs.YtbndinaiclkajaaDoor
/-- The row, under a short name, for the claim. -/
theorem keysOrder_holds : Rows.KeysOrderCardSaid := keysOrder.proved
end Go.Proofs.YtbndinaiclkajaaDoor

/- The row of the law SortsSorts out of its walk: for every input the law returns true, and each argument reads behind the call as it read before. -/
import Derived.Test.YtlicjpbmlmongaaGreatDoorRows
import Derived.Test.YtlicjpbmlmongaaGreatDoorOpen
import Derived.Test.YtlicjpbmlmongaaGreatDoorPureSortsSorts
import Derived.WalkKit
import Derived.ProofKit
import Derived.OpenShut
import Derived.ShutString
import Derived.ChangeOld
import Derived.Below
import Derived.SizedLaws
import Derived.OpenVars
import Derived.LaidOnce
import Derived.Lay
import Derived.MakeChecks
import Derived.SevenTiedAt
import Derived.Test.YtlicjpbmlmongaaGreatDoorCards
import Derived.Test.YtlicjpbmlmongaaGreatDoorTie
set_option linter.unusedVariables false
set_option linter.unusedSimpArgs false
namespace Go.Proofs.YtlicjpbmlmongaaGreatDoor.sortsSorts
open Go.ChangeShapes Go.WideShapes Go.ChangeAt Go.RowKit Go.Proofs.YtlicjpbmlmongaaGreatDoor.Open Go.Proofs.YtlicjpbmlmongaaGreatDoorW.PrintWords
open Go.ChangeMaps (open_string shut_string)
open Go.Proofs.YtlicjpbmlmongaaGreatDoor.P
theorem okWide_array {P : Program} {w : World} {r : Reach} {base : Nat} {t e n : Nat} {v : Value} (ht : P.underlying t = some (.array n e)) (h : Value.okWide P w r base t v) : ∃ cs, v = .agg cs ∧ cs.size = P.cellsOf t := by
 simp only [Value.okWide, ht] at h
 obtain ⟨cs, h1, h2, _⟩ := h
 exact ⟨cs, h1, h2⟩
theorem list7 {α : Type} {l : List α} (h : l.length = 7) : ∃ x0 x1 x2 x3 x4 x5 x6, l = [x0, x1, x2, x3, x4, x5, x6] := by
 match l, h with
 | [x0, x1, x2, x3, x4, x5, x6], _ => exact ⟨x0, x1, x2, x3, x4, x5, x6, rfl⟩
theorem own : ownKnob Tryz.prog.godebug = none := by kernel_rfl
theorem laidOut : laidOutB Tryz.prog = true := by kernel_rfl
set_option maxRecDepth 100000 in
set_option maxHeartbeats 1000000 in
theorem open_p0 {H : Type} {enc : TypeId × Value → H} {W : World} {b0 : Nat} {v : Value} {d : DataW H} {pp : List MemPlace} (hv : Value.okWide Tryz.prog W .any b0 23 v) (h : DataW.Trod enc Tryz.prog W 0 (fun _ => true) true 23 v d pp) (w0 : (DataW.weights Tryz.prog 23 d).all (· ≤ reachBytes) = true) :
  ∃ (a0_0 : Bool) (a0_1 : Bool) (a0_2 : Bool) (a0_3 : Bool) (a0_4 : Int) (a0_5 : Int) (a0_6 : Int), v = .agg #[.bool a0_0, .bool a0_1, .bool a0_2, .bool a0_3, .int .i64 a0_4, .int .i64 a0_5, .int .u8 a0_6] ∧ ((Lit.int .i64 a0_4).wf = true) ∧ ((Lit.int .i64 a0_5).wf = true) ∧ ((Lit.int .u8 a0_6).wf = true) := by
 obtain ⟨cs, rfl, hs⟩ := okWide_struct Tryz.underlying23 hv
 obtain ⟨f, hf0⟩ := h
 obtain ⟨cs⟩ := cs
 obtain ⟨c0_0, c0_1, c0_2, c0_3, c0_4, c0_5, c0_6, rfl⟩ := list7 (hs.trans (show Tryz.prog.cellsOf 23 = 7 by kernel_rfl) : cs.length = 7)
 obtain ⟨xs0, n0, _, hx0, _, hl0, hg0⟩ := DataW.trod_struct Tryz.underlying23 hf0
 obtain ⟨y0_0, y0_1, y0_2, y0_3, y0_4, y0_5, y0_6, rfl⟩ := list7 hl0
 replace hx0 := congrArg Prod.fst hx0
 dsimp only at hx0
 try dsimp only at w0
 simp only [hx0, DataW.weights, Tryz.underlying23, List.map_cons, List.map_nil] at w0
 have g0_0 : DataW.trod _ Tryz.prog _ _ _ _ n0 4 (List.take (Tryz.prog.cellsOf 4) (List.drop 0 [c0_0, c0_1, c0_2, c0_3, c0_4, c0_5, c0_6])) = some y0_0 := hg0 0 _ rfl
 have w0_0 := weights_each (i := 0) w0 rfl rfl
 rw [show Tryz.prog.cellsOf 4 = 1 by kernel_rfl] at g0_0
 replace g0_0 : DataW.trod _ _ _ _ _ _ n0 4 [c0_0] = some y0_0 := g0_0
 have g0_1 : DataW.trod _ Tryz.prog _ _ _ _ n0 4 (List.take (Tryz.prog.cellsOf 4) (List.drop 1 [c0_0, c0_1, c0_2, c0_3, c0_4, c0_5, c0_6])) = some y0_1 := hg0 1 _ rfl
 have w0_1 := weights_each (i := 1) w0 rfl rfl
 rw [show Tryz.prog.cellsOf 4 = 1 by kernel_rfl] at g0_1
 replace g0_1 : DataW.trod _ _ _ _ _ _ n0 4 [c0_1] = some y0_1 := g0_1
 have g0_2 : DataW.trod _ Tryz.prog _ _ _ _ n0 4 (List.take (Tryz.prog.cellsOf 4) (List.drop 2 [c0_0, c0_1, c0_2, c0_3, c0_4, c0_5, c0_6])) = some y0_2 := hg0 2 _ rfl
 have w0_2 := weights_each (i := 2) w0 rfl rfl
 rw [show Tryz.prog.cellsOf 4 = 1 by kernel_rfl] at g0_2
 replace g0_2 : DataW.trod _ _ _ _ _ _ n0 4 [c0_2] = some y0_2 := g0_2
 have g0_3 : DataW.trod _ Tryz.prog _ _ _ _ n0 4 (List.take (Tryz.prog.cellsOf 4) (List.drop 3 [c0_0, c0_1, c0_2, c0_3, c0_4, c0_5, c0_6])) = some y0_3 := hg0 3 _ rfl
 have w0_3 := weights_each (i := 3) w0 rfl rfl
 rw [show Tryz.prog.cellsOf 4 = 1 by kernel_rfl] at g0_3
 replace g0_3 : DataW.trod _ _ _ _ _ _ n0 4 [c0_3] = some y0_3 := g0_3
 have g0_4 : DataW.trod _ Tryz.prog _ _ _ _ n0 3 (List.take (Tryz.prog.cellsOf 3) (List.drop 4 [c0_0, c0_1, c0_2, c0_3, c0_4, c0_5, c0_6])) = some y0_4 := hg0 4 _ rfl
 have w0_4 := weights_each (i := 4) w0 rfl rfl
 rw [show Tryz.prog.cellsOf 3 = 1 by kernel_rfl] at g0_4
 replace g0_4 : DataW.trod _ _ _ _ _ _ n0 3 [c0_4] = some y0_4 := g0_4
 have g0_5 : DataW.trod _ Tryz.prog _ _ _ _ n0 3 (List.take (Tryz.prog.cellsOf 3) (List.drop 5 [c0_0, c0_1, c0_2, c0_3, c0_4, c0_5, c0_6])) = some y0_5 := hg0 5 _ rfl
 have w0_5 := weights_each (i := 5) w0 rfl rfl
 rw [show Tryz.prog.cellsOf 3 = 1 by kernel_rfl] at g0_5
 replace g0_5 : DataW.trod _ _ _ _ _ _ n0 3 [c0_5] = some y0_5 := g0_5
 have g0_6 : DataW.trod _ Tryz.prog _ _ _ _ n0 5 (List.take (Tryz.prog.cellsOf 5) (List.drop 6 [c0_0, c0_1, c0_2, c0_3, c0_4, c0_5, c0_6])) = some y0_6 := hg0 6 _ rfl
 have w0_6 := weights_each (i := 6) w0 rfl rfl
 rw [show Tryz.prog.cellsOf 5 = 1 by kernel_rfl] at g0_6
 replace g0_6 : DataW.trod _ _ _ _ _ _ n0 5 [c0_6] = some y0_6 := g0_6
 obtain ⟨a0_0, e0_0, ok0_0⟩ := (reads_bool Tryz.underlying4).read g0_0 w0_0
 obtain rfl : c0_0 = _ := (List.cons.inj e0_0).1
 obtain ⟨a0_1, e0_1, ok0_1⟩ := (reads_bool Tryz.underlying4).read g0_1 w0_1
 obtain rfl : c0_1 = _ := (List.cons.inj e0_1).1
 obtain ⟨a0_2, e0_2, ok0_2⟩ := (reads_bool Tryz.underlying4).read g0_2 w0_2
 obtain rfl : c0_2 = _ := (List.cons.inj e0_2).1
 obtain ⟨a0_3, e0_3, ok0_3⟩ := (reads_bool Tryz.underlying4).read g0_3 w0_3
 obtain rfl : c0_3 = _ := (List.cons.inj e0_3).1
 obtain ⟨a0_4, e0_4, ok0_4⟩ := (reads_int Tryz.underlying3).read g0_4 w0_4
 obtain rfl : c0_4 = _ := (List.cons.inj e0_4).1
 obtain ⟨a0_5, e0_5, ok0_5⟩ := (reads_int Tryz.underlying3).read g0_5 w0_5
 obtain rfl : c0_5 = _ := (List.cons.inj e0_5).1
 obtain ⟨a0_6, e0_6, ok0_6⟩ := (reads_int Tryz.underlying5).read g0_6 w0_6
 obtain rfl : c0_6 = _ := (List.cons.inj e0_6).1
 exact ⟨a0_0, a0_1, a0_2, a0_3, a0_4, a0_5, a0_6, rfl, ok0_4, ok0_5, ok0_6⟩
set_option maxRecDepth 100000 in
set_option maxHeartbeats 1000000 in
theorem lifted (os : Os) (started : os.Started) (H : Type) (enc : TypeId × Value → H) :
  ReturnsInHanded {} Tryz.checked os 3 .any (fun w args => (Rows.sortsSortsSpec.pre enc Tryz.prog Tryz.f3 Rows.sortsSortsRow.domain false w args ∧ laidMetH Tryz.prog Rows.sortsSortsRow.laid w) ∧ sizedMet enc Tryz.prog Tryz.f3 (OpenSpec.ofChange Rows.sortsSortsSpec) false w args) (Rows.sortsSortsSpec.post enc Tryz.prog Tryz.f3 false true false false) := by
 refine returnsInHanded_of_change_and (C := Tryz.checked) (X := fun w _ => laidMetH Tryz.prog Rows.sortsSortsRow.laid w) (fun _ _ _ hh h => h.of_heap hh) own started (by kernel_rfl) Tryz.func3
  (ChangeSpec.witness_shaped (enc := enc) (C := Tryz.checked) (os := os) (X := fun w _ => laidMetH Tryz.prog Rows.sortsSortsRow.laid w) false (World.laidAll Tryz.prog os Rows.sortsSortsRow.laid) #[.agg #[.bool false, .bool false, .bool false, .bool false, .int .i64 0, .int .i64 0, .int .u8 0], .slice none 0 0, .bool false] 8 (World.laidAll_os _ _ _)
   (World.shaped_of_ZipB (by kernel_rfl) (by kernel_rfl)) (by kernel_rfl) (by kernel_rfl) (by kernel_rfl)
   (by rw [MakeChecks.laidMetH_plain _ _ _ (by kernel_rfl)]; exact laidMet_laidAll _ (by kernel_rfl) (by kernel_rfl))) ?_
 intro W base args ds gs before hval0 hW hcnd hsz0 hL _
 clear hL
 have hszz : (DataW.weightsEach Tryz.prog (Tryz.f3.params.toList ++ Rows.sortsSortsSpec.plain.varTypes Tryz.prog) (ds ++ gs)).all (· ≤ reachBytes) = true := hsz0
 have hval : ∀ (j : Nat) t v, Tryz.f3.params[j]? = some t → args[j]? = some v → Value.okWide Tryz.prog W .any base t v := hval0
 have hW' := hW
 obtain ⟨p, q, hA0, hV, rfl, hfz, hnd⟩ := hW
 have hA : DataW.TrodAll enc Tryz.prog W 0 (fun _ => true) true Tryz.f3.params.toList args.toList ds p := hA0
 rw [Tryz.params3] at hA hval hszz
 obtain ⟨v0, vs0, d0, ds0, p0, q0, hargs, rfl, rfl, h0, r0⟩ := trodAll_cons hA
 obtain ⟨v1, vs1, d1, ds1, p1, q1, rfl, rfl, rfl, h1, r1⟩ := trodAll_cons r0
 obtain ⟨v2, vs2, d2, ds2, p2, q2, rfl, rfl, rfl, h2, r2⟩ := trodAll_cons r1
 obtain ⟨rfl, rfl, rfl⟩ := trodAll_nil r2
 obtain rfl : args = #[v0, v1, v2] := by cases args; simp_all
 obtain ⟨rfl, rfl⟩ := trodVars_none hV
 have hsz : (DataW.weightsEach Tryz.prog [23, 24, 4] [d0, d1, d2]).all (· ≤ reachBytes) = true := hszz
 have k0 := h0
 have lt0 : ∀ x ∈ p0, x.block < W.heap.size := by obtain ⟨m, hm⟩ := k0; exact DataW.trod_lt m _ _ _ hm
 have w0 := weights_each (i := 0) hsz rfl rfl
 obtain ⟨a0_0, a0_1, a0_2, a0_3, a0_4, a0_5, a0_6, rfl, ok0_4, ok0_5, ok0_6⟩ := open_p0 (hval 0 23 v0 rfl rfl) h0 w0
 have k1 := h1
 have lt1 : ∀ x ∈ p1, x.block < W.heap.size := by obtain ⟨m, hm⟩ := k1; exact DataW.trod_lt m _ _ _ hm
 have w1 := weights_each (i := 1) hsz rfl rfl
 obtain ⟨b1, len1, cap1, rfl⟩ := okWide_slice Tryz.underlying24 (hval 1 24 v1 rfl rfl)
 obtain ⟨f1, hf1⟩ := h1
 obtain ⟨l1, ⟨A1, z1, e1, hc1, hr1⟩, ok1⟩ := (reads_slice (d := Kd.string) (b := 16) Tryz.underlying24 (by kernel_rfl) (by kernel_rfl) (reads_string Tryz.underlying9)).read hf1 w1
 obtain ⟨rfl, rfl, rfl⟩ : A1 = b1 ∧ l1.length = len1 ∧ z1 = cap1 := by obtain ⟨q1, q2, q3⟩ : b1 = A1 ∧ len1 = l1.length ∧ cap1 = z1 := (by simpa [Value.cells] using e1); exact ⟨q1.symm, q2.symm, q3.symm⟩
 have k2 := h2
 have lt2 : ∀ x ∈ p2, x.block < W.heap.size := by obtain ⟨m, hm⟩ := k2; exact DataW.trod_lt m _ _ _ hm
 have w2 := weights_each (i := 2) hsz rfl rfl
 obtain ⟨a2, rfl, rfl, rfl⟩ := open_bool Tryz.underlying4 (hval 2 4 v2 rfl rfl) h2
 clear hA0 hval0 hsz0 hszz hsz
 refine (SortsSorts_walk a0_0 a0_1 a0_2 a0_3 a0_4 a0_5 a0_6 A1 z1 l1 a2 W ok0_4 ok0_5 ok0_6 hr1 hc1 ok1).mono fun e W' ⟨he, bel⟩ => ?_
 subst he
 exact ⟨_, rfl, _, _, _, [], _, [], hW', trodAll_mk1 (shut_bool Tryz.underlying4 _), (trodAll_cons_mk (Below.trod laidOut (by kernel_rfl) (of_decide_eq_true (by kernel_rfl)) k0 bel lt0) (trodAll_cons_mk (Below.trod laidOut (by kernel_rfl) (of_decide_eq_true (by kernel_rfl)) k1 bel lt1) (trodAll_cons_mk (Below.trod laidOut (by kernel_rfl) (of_decide_eq_true (by kernel_rfl)) k2 bel lt2) trodAll_mk0))), rfl, bel.frame _, fun h => by cases h⟩
theorem over : Rows.sortsSortsRow.holds Tryz.pinned (OpenSpec.ofChange Rows.sortsSortsSpec) :=
 OpenClaim.holds_of_wide 3 Tryz.f3 rfl rfl rfl rfl rfl rfl rfl ⟨rfl, rfl, rfl, rfl, rfl⟩ rfl rfl rfl rfl rfl (by kernel_rfl) Tryz.func3 (by kernel_rfl)
  (of_decide_eq_true (by kernel_rfl)) (by unfold Func.isWrapper; first | (rw [if_pos (by decide +kernel)]; kernel_rfl) | (rw [if_neg (by decide +kernel)]; exact ⟨rfl, rfl⟩))
  (fun os started H enc _ => lifted os started H enc)
theorem proved : Rows.SortsSortsCardSaid :=
 Claim7.holds_tied_plain_at .later [] [.data, .data, .data, .data, .pinned] true (true, "2c28b480b1b7fe06026e326c6a5b1abe78e91cc04fcaebc2d803052df9746c96") true over (fun _ h => by cases h) (by kernel_rfl) (fun _ h => by cases h) sortsSorts_row_tie rfl ⟨rfl, rfl⟩ (by kernel_rfl) rfl
  (fun f fn hf hfn => by
   obtain rfl : f = 3 := Option.some.inj ((show Tryz.prog.funcNamed "toolchest/toolchestlaw06.SortsSorts" = some 3 by kernel_rfl).symm.trans hf) |>.symm
   obtain rfl : fn = Tryz.f3 := (Option.some.inj (Tryz.func3.symm.trans hfn)).symm
   exact ⟨by kernel_rfl, fun j t ht => by
    rw [Tryz.params3] at ht
    have hm : t ∈ [23, 24, 4] := by simpa using Array.mem_of_getElem? ht
    have hall : ([23, 24, 4].all fun u => !Tryz.prog.wantsStandIn u) = true := by kernel_rfl
    exact (show Tryz.prog.wantsStandIn t = false by simpa using List.all_eq_true.1 hall t hm)⟩)
  (by kernel_rfl)
#print axioms proved
end Go.Proofs.YtlicjpbmlmongaaGreatDoor.sortsSorts
namespace Go.Proofs.YtlicjpbmlmongaaGreatDoor
/-- The row, under a short name, for the claim. -/
theorem sortsSorts_holds : Rows.SortsSortsCardSaid := sortsSorts.proved
end Go.Proofs.YtlicjpbmlmongaaGreatDoor

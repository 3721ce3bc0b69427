/- The row of the law ViewsJoins out of its walk: for every input the law returns true, and each argument reads behind the call as it read before. -/
import Derived.Test.YtlicjpbmlmongaaGreatDoorRows
import Derived.Test.YtlicjpbmlmongaaGreatDoorOpen
import Derived.Test.YtlicjpbmlmongaaGreatDoorPureViewsJoins
import Derived.WalkKit
import Derived.ProofKit
import Derived.OpenShut
import Derived.ShutString
import Derived.ChangeOld
import Derived.Below
import Derived.SizedLaws
import Derived.OpenVars
import Derived.LaidOnce
import Derived.Lay
import Derived.MakeChecks
import Derived.SevenTiedAt
import Derived.Test.YtlicjpbmlmongaaGreatDoorCards
import Derived.Test.YtlicjpbmlmongaaGreatDoorTie
set_option linter.unusedVariables false
set_option linter.unusedSimpArgs false
namespace Go.Proofs.YtlicjpbmlmongaaGreatDoor.viewsJoins
open Go.ChangeShapes Go.WideShapes Go.ChangeAt Go.RowKit Go.Proofs.YtlicjpbmlmongaaGreatDoor.Open Go.Proofs.YtlicjpbmlmongaaGreatDoorW.PrintWords
open Go.ChangeMaps (open_string shut_string)
open Go.Proofs.YtlicjpbmlmongaaGreatDoor.P
theorem okWide_array {P : Program} {w : World} {r : Reach} {base : Nat} {t e n : Nat} {v : Value} (ht : P.underlying t = some (.array n e)) (h : Value.okWide P w r base t v) : ∃ cs, v = .agg cs ∧ cs.size = P.cellsOf t := by
  simp only [Value.okWide, ht] at h
  obtain ⟨cs, h1, h2, _⟩ := h
  exact ⟨cs, h1, h2⟩
theorem list3 {α : Type} {l : List α} (h : l.length = 3) : ∃ x0 x1 x2, l = [x0, x1, x2] := by
  match l, h with
  | [x0, x1, x2], _ => exact ⟨x0, x1, x2, rfl⟩
theorem own : ownKnob Tryz.prog.godebug = none := by kernel_rfl
theorem laidOut : laidOutB Tryz.prog = true := by kernel_rfl
set_option maxRecDepth 100000 in
set_option maxHeartbeats 1000000 in
theorem open_p2 {H : Type} {enc : TypeId × Value → H} {W : World} {b0 : Nat} {v : Value} {d : DataW H} {pp : List MemPlace} (hv : Value.okWide Tryz.prog W .any b0 56 v) (h : DataW.Trod enc Tryz.prog W 0 (fun _ => true) true 56 v d pp) (w2 : (DataW.weights Tryz.prog 56 d).all (· ≤ reachBytes) = true) :
    ∃ (a2_0 : Int) (a2_1 : Int) (a2_2 : Int), v = .agg #[.int .i64 a2_0, .int .i64 a2_1, .int .u8 a2_2] ∧ ((Lit.int .i64 a2_0).wf = true) ∧ ((Lit.int .i64 a2_1).wf = true) ∧ ((Lit.int .u8 a2_2).wf = true) := by
  obtain ⟨cs, rfl, hs⟩ := okWide_struct Tryz.underlying56 hv
  obtain ⟨f, hf2⟩ := h
  obtain ⟨cs⟩ := cs
  obtain ⟨c2_0, c2_1, c2_2, rfl⟩ := list3 (hs.trans (show Tryz.prog.cellsOf 56 = 3 by kernel_rfl) : cs.length = 3)
  obtain ⟨xs2, n2, _, hx2, _, hl2, hg2⟩ := DataW.trod_struct Tryz.underlying56 hf2
  obtain ⟨y2_0, y2_1, y2_2, rfl⟩ := list3 hl2
  replace hx2 := congrArg Prod.fst hx2
  dsimp only at hx2
  try dsimp only at w2
  simp only [hx2, DataW.weights, Tryz.underlying56, List.map_cons, List.map_nil] at w2
  have g2_0 : DataW.trod _ Tryz.prog _ _ _ _ n2 3 (List.take (Tryz.prog.cellsOf 3) (List.drop 0 [c2_0, c2_1, c2_2])) = some y2_0 := hg2 0 _ rfl
  have w2_0 := weights_each (i := 0) w2 rfl rfl
  rw [show Tryz.prog.cellsOf 3 = 1 by kernel_rfl] at g2_0
  replace g2_0 : DataW.trod _ _ _ _ _ _ n2 3 [c2_0] = some y2_0 := g2_0
  have g2_1 : DataW.trod _ Tryz.prog _ _ _ _ n2 3 (List.take (Tryz.prog.cellsOf 3) (List.drop 1 [c2_0, c2_1, c2_2])) = some y2_1 := hg2 1 _ rfl
  have w2_1 := weights_each (i := 1) w2 rfl rfl
  rw [show Tryz.prog.cellsOf 3 = 1 by kernel_rfl] at g2_1
  replace g2_1 : DataW.trod _ _ _ _ _ _ n2 3 [c2_1] = some y2_1 := g2_1
  have g2_2 : DataW.trod _ Tryz.prog _ _ _ _ n2 5 (List.take (Tryz.prog.cellsOf 5) (List.drop 2 [c2_0, c2_1, c2_2])) = some y2_2 := hg2 2 _ rfl
  have w2_2 := weights_each (i := 2) w2 rfl rfl
  rw [show Tryz.prog.cellsOf 5 = 1 by kernel_rfl] at g2_2
  replace g2_2 : DataW.trod _ _ _ _ _ _ n2 5 [c2_2] = some y2_2 := g2_2
  obtain ⟨a2_0, e2_0, ok2_0⟩ := (reads_int Tryz.underlying3).read g2_0 w2_0
  obtain rfl : c2_0 = _ := (List.cons.inj e2_0).1
  obtain ⟨a2_1, e2_1, ok2_1⟩ := (reads_int Tryz.underlying3).read g2_1 w2_1
  obtain rfl : c2_1 = _ := (List.cons.inj e2_1).1
  obtain ⟨a2_2, e2_2, ok2_2⟩ := (reads_int Tryz.underlying5).read g2_2 w2_2
  obtain rfl : c2_2 = _ := (List.cons.inj e2_2).1
  exact ⟨a2_0, a2_1, a2_2, rfl, ok2_0, ok2_1, ok2_2⟩
set_option maxRecDepth 100000 in
set_option maxHeartbeats 1000000 in
theorem lifted (os : Os) (started : os.Started) (H : Type) (enc : TypeId × Value → H) :
    ReturnsInHanded {} Tryz.checked os 5 .any (fun w args => (Rows.viewsJoinsSpec.pre enc Tryz.prog Tryz.f5 Rows.viewsJoinsRow.domain false w args ∧ laidMetH Tryz.prog Rows.viewsJoinsRow.laid w) ∧ sizedMet enc Tryz.prog Tryz.f5 (OpenSpec.ofChange Rows.viewsJoinsSpec) false w args) (Rows.viewsJoinsSpec.post enc Tryz.prog Tryz.f5 false true false false) := by
  refine returnsInHanded_of_change_and (C := Tryz.checked) (X := fun w _ => laidMetH Tryz.prog Rows.viewsJoinsRow.laid w) (fun _ _ _ hh h => h.of_heap hh) own started (by kernel_rfl) Tryz.func5
    (ChangeSpec.witness_shaped (enc := enc) (C := Tryz.checked) (os := os) (X := fun w _ => laidMetH Tryz.prog Rows.viewsJoinsRow.laid w) false (World.laidAll Tryz.prog os Rows.viewsJoinsRow.laid) #[.slice none 0 0, .slice none 0 0, .agg #[.int .i64 0, .int .i64 0, .int .u8 0]] 8 (World.laidAll_os _ _ _)
      (World.shaped_of_ZipB (by kernel_rfl) (by kernel_rfl)) (by kernel_rfl) (by kernel_rfl) (by kernel_rfl)
      (by rw [MakeChecks.laidMetH_plain _ _ _ (by kernel_rfl)]; exact laidMet_laidAll _ (by kernel_rfl) (by kernel_rfl))) ?_
  intro W base args ds gs before hval0 hW hcnd hsz0 hL _
  clear hL
  have hszz : (DataW.weightsEach Tryz.prog (Tryz.f5.params.toList ++ Rows.viewsJoinsSpec.plain.varTypes Tryz.prog) (ds ++ gs)).all (· ≤ reachBytes) = true := hsz0
  have hval : ∀ (j : Nat) t v, Tryz.f5.params[j]? = some t → args[j]? = some v → Value.okWide Tryz.prog W .any base t v := hval0
  have hW' := hW
  obtain ⟨p, q, hA0, hV, rfl, hfz, hnd⟩ := hW
  have hA : DataW.TrodAll enc Tryz.prog W 0 (fun _ => true) true Tryz.f5.params.toList args.toList ds p := hA0
  rw [Tryz.params5] at hA hval hszz
  obtain ⟨v0, vs0, d0, ds0, p0, q0, hargs, rfl, rfl, h0, r0⟩ := trodAll_cons hA
  obtain ⟨v1, vs1, d1, ds1, p1, q1, rfl, rfl, rfl, h1, r1⟩ := trodAll_cons r0
  obtain ⟨v2, vs2, d2, ds2, p2, q2, rfl, rfl, rfl, h2, r2⟩ := trodAll_cons r1
  obtain ⟨rfl, rfl, rfl⟩ := trodAll_nil r2
  obtain rfl : args = #[v0, v1, v2] := by cases args; simp_all
  obtain ⟨rfl, rfl⟩ := trodVars_none hV
  have hsz : (DataW.weightsEach Tryz.prog [24, 24, 56] [d0, d1, d2]).all (· ≤ reachBytes) = true := hszz
  have k0 := h0
  have lt0 : ∀ x ∈ p0, x.block < W.heap.size := by obtain ⟨m, hm⟩ := k0; exact DataW.trod_lt m _ _ _ hm
  have w0 := weights_each (i := 0) hsz rfl rfl
  obtain ⟨b0, len0, cap0, rfl⟩ := okWide_slice Tryz.underlying24 (hval 0 24 v0 rfl rfl)
  obtain ⟨f0, hf0⟩ := h0
  obtain ⟨l0, ⟨A0, z0, e0, hc0, hr0⟩, ok0⟩ := (reads_slice (d := Kd.string) (b := 16) Tryz.underlying24 (by kernel_rfl) (by kernel_rfl) (reads_string Tryz.underlying9)).read hf0 w0
  obtain ⟨rfl, rfl, rfl⟩ : A0 = b0 ∧ l0.length = len0 ∧ z0 = cap0 := by obtain ⟨q1, q2, q3⟩ : b0 = A0 ∧ len0 = l0.length ∧ cap0 = z0 := (by simpa [Value.cells] using e0); exact ⟨q1.symm, q2.symm, q3.symm⟩
  have k1 := h1
  have lt1 : ∀ x ∈ p1, x.block < W.heap.size := by obtain ⟨m, hm⟩ := k1; exact DataW.trod_lt m _ _ _ hm
  have w1 := weights_each (i := 1) hsz rfl rfl
  obtain ⟨b1, len1, cap1, rfl⟩ := okWide_slice Tryz.underlying24 (hval 1 24 v1 rfl rfl)
  obtain ⟨f1, hf1⟩ := h1
  obtain ⟨l1, ⟨A1, z1, e1, hc1, hr1⟩, ok1⟩ := (reads_slice (d := Kd.string) (b := 16) Tryz.underlying24 (by kernel_rfl) (by kernel_rfl) (reads_string Tryz.underlying9)).read hf1 w1
  obtain ⟨rfl, rfl, rfl⟩ : A1 = b1 ∧ l1.length = len1 ∧ z1 = cap1 := by obtain ⟨q1, q2, q3⟩ : b1 = A1 ∧ len1 = l1.length ∧ cap1 = z1 := (by simpa [Value.cells] using e1); exact ⟨q1.symm, q2.symm, q3.symm⟩
  have k2 := h2
  have lt2 : ∀ x ∈ p2, x.block < W.heap.size := by obtain ⟨m, hm⟩ := k2; exact DataW.trod_lt m _ _ _ hm
  have w2 := weights_each (i := 2) hsz rfl rfl
  obtain ⟨a2_0, a2_1, a2_2, rfl, ok2_0, ok2_1, ok2_2⟩ := open_p2 (hval 2 56 v2 rfl rfl) h2 w2
  clear hA0 hval0 hsz0 hszz hsz
  refine (ViewsJoins_walk A0 z0 l0 A1 z1 l1 a2_0 a2_1 a2_2 W hr0 hc0 ok0 hr1 hc1 ok1 ok2_0 ok2_1 ok2_2).mono fun e W' ⟨he, bel⟩ => ?_
  subst he
  exact ⟨_, rfl, _, _, _, [], _, [], hW', trodAll_mk1 (shut_bool Tryz.underlying4 _), (trodAll_cons_mk (Below.trod laidOut (by kernel_rfl) (of_decide_eq_true (by kernel_rfl)) k0 bel lt0) (trodAll_cons_mk (Below.trod laidOut (by kernel_rfl) (of_decide_eq_true (by kernel_rfl)) k1 bel lt1) (trodAll_cons_mk (Below.trod laidOut (by kernel_rfl) (of_decide_eq_true (by kernel_rfl)) k2 bel lt2) trodAll_mk0))), rfl, bel.frame _, fun h => by cases h⟩
theorem over : Rows.viewsJoinsRow.holds Tryz.pinned (OpenSpec.ofChange Rows.viewsJoinsSpec) :=
  OpenClaim.holds_of_wide 5 Tryz.f5 rfl rfl rfl rfl rfl rfl rfl ⟨rfl, rfl, rfl, rfl, rfl⟩ rfl rfl rfl rfl rfl (by kernel_rfl) Tryz.func5 (by kernel_rfl)
    (of_decide_eq_true (by kernel_rfl)) (by unfold Func.isWrapper; first | (rw [if_pos (by decide +kernel)]; kernel_rfl) | (rw [if_neg (by decide +kernel)]; exact ⟨rfl, rfl⟩))
    (fun os started H enc _ => lifted os started H enc)
theorem proved : Rows.ViewsJoinsCardSaid :=
  Claim7.holds_tied_plain_at .later [] [.data, .data, .data] true (true, "2c28b480b1b7fe06026e326c6a5b1abe78e91cc04fcaebc2d803052df9746c96") true over (fun _ h => by cases h) (by kernel_rfl) (fun _ h => by cases h) viewsJoins_row_tie rfl ⟨rfl, rfl⟩ (by kernel_rfl) rfl
    (fun f fn hf hfn => by
      obtain rfl : f = 5 := Option.some.inj ((show Tryz.prog.funcNamed "toolchest/toolchestlaw08.ViewsJoins" = some 5 by kernel_rfl).symm.trans hf) |>.symm
      obtain rfl : fn = Tryz.f5 := (Option.some.inj (Tryz.func5.symm.trans hfn)).symm
      exact ⟨by kernel_rfl, fun j t ht => by
        rw [Tryz.params5] at ht
        have hm : t ∈ [24, 24, 56] := by simpa using Array.mem_of_getElem? ht
        have hall : ([24, 24, 56].all fun u => !Tryz.prog.wantsStandIn u) = true := by kernel_rfl
        exact (show Tryz.prog.wantsStandIn t = false by simpa using List.all_eq_true.1 hall t hm)⟩)
    (by kernel_rfl)
#print axioms proved
end Go.Proofs.YtlicjpbmlmongaaGreatDoor.viewsJoins
namespace Go.Proofs.YtlicjpbmlmongaaGreatDoor
/-- The row, under a short name, for the claim. -/
theorem viewsJoins_holds : Rows.ViewsJoinsCardSaid := viewsJoins.proved
end Go.Proofs.YtlicjpbmlmongaaGreatDoor

/- The row of the law ViewsPastes out of its walk: for every input the law returns true, and each argument reads behind the call as it read before. -/
import Derived.Test.YtlicjpbmlmongaaDoorRows
import Derived.Test.YtlicjpbmlmongaaDoorOpen
import Derived.Test.YtlicjpbmlmongaaDoorPureViewsPastes
import Derived.Test.YtlicjpbmlmongaaDoorPowW
import Derived.Test.YtlicjpbmlmongaaDoorRk2
import Derived.WalkKit
import Derived.ProofKit
import Derived.OpenShut
import Derived.ShutString
import Derived.ChangeOld
import Derived.Below
import Derived.SizedLaws
import Derived.OpenVars
import Derived.LaidOnce
import Derived.Lay
import Derived.MakeChecks
import Derived.SevenTiedAt
import Derived.Test.YtlicjpbmlmongaaDoorCards
import Derived.Test.YtlicjpbmlmongaaDoorTie
set_option linter.unusedVariables false
set_option linter.unusedSimpArgs false
namespace Go.Proofs.YtlicjpbmlmongaaDoor.viewsPastes
open Go.ChangeShapes Go.WideShapes Go.ChangeAt Go.RowKit Go.Proofs.YtlicjpbmlmongaaDoor.Open Go.Proofs.YtlicjpbmlmongaaDoorW.PrintWords
open Go.ChangeMaps (open_string shut_string)
open Go.Proofs.YtlicjpbmlmongaaDoor.P
theorem okWide_array {P : Program} {w : World} {r : Reach} {base : Nat} {t e n : Nat} {v : Value} (ht : P.underlying t = some (.array n e)) (h : Value.okWide P w r base t v) : ∃ cs, v = .agg cs ∧ cs.size = P.cellsOf t := by
  simp only [Value.okWide, ht] at h
  obtain ⟨cs, h1, h2, _⟩ := h
  exact ⟨cs, h1, h2⟩
theorem own : ownKnob Tryd.prog.godebug = none := by kernel_rfl
theorem laidOut : laidOutB Tryd.prog = true := by kernel_rfl
set_option maxRecDepth 100000 in
set_option maxHeartbeats 1000000 in
theorem lifted (os : Os) (started : os.Started) (H : Type) (enc : TypeId × Value → H) :
    ReturnsInHanded {} Tryd.checked os 3 .any (fun w args => (Rows.viewsPastesSpec.pre enc Tryd.prog Tryd.f3 Rows.viewsPastesRow.domain false w args ∧ laidMetH Tryd.prog Rows.viewsPastesRow.laid w) ∧ sizedMet enc Tryd.prog Tryd.f3 (OpenSpec.ofChange Rows.viewsPastesSpec) false w args) (Rows.viewsPastesSpec.post enc Tryd.prog Tryd.f3 false true false false) := by
  refine returnsInHanded_of_change_and (C := Tryd.checked) (X := fun w _ => laidMetH Tryd.prog Rows.viewsPastesRow.laid w) (fun _ _ _ hh h => h.of_heap hh) own started (by kernel_rfl) Tryd.func3
    (ChangeSpec.witness_shaped (enc := enc) (C := Tryd.checked) (os := os) (X := fun w _ => laidMetH Tryd.prog Rows.viewsPastesRow.laid w) false (World.laidAll Tryd.prog os Rows.viewsPastesRow.laid) #[.slice none 0 0, .string ByteArray.empty] 8 (World.laidAll_os _ _ _)
      (World.shaped_of_ZipB (by kernel_rfl) (by kernel_rfl)) (by kernel_rfl) (by kernel_rfl) (by kernel_rfl)
      (by rw [MakeChecks.laidMetH_plain _ _ _ (by kernel_rfl)]; exact laidMet_laidAll _ (by kernel_rfl) (by kernel_rfl))) ?_
  intro W base args ds gs before hval0 hW hcnd hsz0 hL _
  have hENV := Go.Proofs.YtlicjpbmlmongaaDoor.H.powW_of (by rw [MakeChecks.laidMetH_plain _ _ _ (by kernel_rfl)] at hL; exact hL) 2 (by kernel_rfl)
  clear hL
  have hszz : (DataW.weightsEach Tryd.prog (Tryd.f3.params.toList ++ Rows.viewsPastesSpec.plain.varTypes Tryd.prog) (ds ++ gs)).all (· ≤ reachBytes) = true := hsz0
  have hval : ∀ (j : Nat) t v, Tryd.f3.params[j]? = some t → args[j]? = some v → Value.okWide Tryd.prog W .any base t v := hval0
  have hW' := hW
  obtain ⟨p, q, hA0, hV, rfl, hfz, hnd⟩ := hW
  have hA : DataW.TrodAll enc Tryd.prog W 0 (fun _ => true) true Tryd.f3.params.toList args.toList ds p := hA0
  rw [Tryd.params3] at hA hval hszz
  obtain ⟨v0, vs0, d0, ds0, p0, q0, hargs, rfl, rfl, h0, r0⟩ := trodAll_cons hA
  obtain ⟨v1, vs1, d1, ds1, p1, q1, rfl, rfl, rfl, h1, r1⟩ := trodAll_cons r0
  obtain ⟨rfl, rfl, rfl⟩ := trodAll_nil r1
  obtain rfl : args = #[v0, v1] := by cases args; simp_all
  obtain ⟨rfl, rfl⟩ := trodVars_none hV
  have hsz : (DataW.weightsEach Tryd.prog [22, 9] [d0, d1]).all (· ≤ reachBytes) = true := hszz
  have k0 := h0
  have lt0 : ∀ x ∈ p0, x.block < W.heap.size := by obtain ⟨m, hm⟩ := k0; exact DataW.trod_lt m _ _ _ hm
  have w0 := weights_each (i := 0) hsz rfl rfl
  obtain ⟨b0, len0, cap0, rfl⟩ := okWide_slice Tryd.underlying22 (hval 0 22 v0 rfl rfl)
  obtain ⟨f0, hf0⟩ := h0
  obtain ⟨l0, ⟨A0, z0, e0, hc0, hr0⟩, ok0⟩ := (reads_slice (d := (Kd.slice 9 Kd.string)) (b := 24) Tryd.underlying22 (by kernel_rfl) (by kernel_rfl) (reads_slice (d := Kd.string) (b := 16) Tryd.underlying25 (by kernel_rfl) (by kernel_rfl) (reads_string Tryd.underlying9))).read hf0 w0
  obtain ⟨rfl, rfl, rfl⟩ : A0 = b0 ∧ l0.length = len0 ∧ z0 = cap0 := by obtain ⟨q1, q2, q3⟩ : b0 = A0 ∧ len0 = l0.length ∧ cap0 = z0 := (by simpa [Value.cells] using e0); exact ⟨q1.symm, q2.symm, q3.symm⟩
  have k1 := h1
  have lt1 : ∀ x ∈ p1, x.block < W.heap.size := by obtain ⟨m, hm⟩ := k1; exact DataW.trod_lt m _ _ _ hm
  have w1 := weights_each (i := 1) hsz rfl rfl
  obtain ⟨a1, rfl, rfl, rfl, y1⟩ := open_string Tryd.underlying9 (hval 1 9 v1 rfl rfl) h1
  have ok1 : a1.size ≤ 140737488351232 := (show a1.size ≤ reachBytes by simpa [DataW.weights] using w1)
  clear hA0 hval0 hsz0 hszz hsz
  refine (ViewsPastes_walk A0 z0 l0 a1 W hENV hr0 hc0 ok0 ok1).mono fun e W' ⟨he, bel⟩ => ?_
  subst he
  exact ⟨_, rfl, _, _, _, [], _, [], hW', trodAll_mk1 (shut_bool Tryd.underlying4 _), (trodAll_cons_mk (Below.trod laidOut (by kernel_rfl) (of_decide_eq_true (by kernel_rfl)) k0 bel lt0) (trodAll_cons_mk (Below.trod laidOut (by kernel_rfl) (of_decide_eq_true (by kernel_rfl)) k1 bel lt1) trodAll_mk0)), rfl, bel.frame _, fun h => by cases h⟩
theorem over : Rows.viewsPastesRow.holds Tryd.pinned (OpenSpec.ofChange Rows.viewsPastesSpec) :=
  OpenClaim.holds_of_wide 3 Tryd.f3 rfl rfl rfl rfl rfl rfl rfl ⟨rfl, rfl, rfl, rfl, rfl⟩ rfl rfl rfl rfl rfl (by kernel_rfl) Tryd.func3 (by kernel_rfl)
    (of_decide_eq_true (by kernel_rfl)) (by unfold Func.isWrapper; first | (rw [if_pos (by decide +kernel)]; kernel_rfl) | (rw [if_neg (by decide +kernel)]; exact ⟨rfl, rfl⟩))
    (fun os started H enc _ => lifted os started H enc)
theorem proved : Rows.ViewsPastesCardSaid :=
  Claim7.holds_tied_plain_at .later [] [.data, .data, .data] true (true, "357d9ab3bc483f80a18fb8622cc4c364d87a1143362ce4f44dcba559b5248e69") false over (fun _ h => by cases h) (by kernel_rfl) (fun _ h => by cases h) viewsPastes_row_tie rfl ⟨rfl, rfl⟩ (by kernel_rfl) rfl
    (fun f fn hf hfn => by
      obtain rfl : f = 3 := Option.some.inj ((show Tryd.prog.funcNamed "toolchest/toolchestlaw08.ViewsPastes" = some 3 by kernel_rfl).symm.trans hf) |>.symm
      obtain rfl : fn = Tryd.f3 := (Option.some.inj (Tryd.func3.symm.trans hfn)).symm
      exact ⟨by kernel_rfl, fun j t ht => by
        rw [Tryd.params3] at ht
        have hm : t ∈ [22, 9] := by simpa using Array.mem_of_getElem? ht
        have hall : ([22, 9].all fun u => !Tryd.prog.wantsStandIn u) = true := by kernel_rfl
        exact (show Tryd.prog.wantsStandIn t = false by simpa using List.all_eq_true.1 hall t hm)⟩)
    (by kernel_rfl)
#print axioms proved
end Go.Proofs.YtlicjpbmlmongaaDoor.viewsPastes
namespace Go.Proofs.YtlicjpbmlmongaaDoor
/-- The row, under a short name, for the claim. -/
theorem viewsPastes_holds : Rows.ViewsPastesCardSaid := viewsPastes.proved
end Go.Proofs.YtlicjpbmlmongaaDoor

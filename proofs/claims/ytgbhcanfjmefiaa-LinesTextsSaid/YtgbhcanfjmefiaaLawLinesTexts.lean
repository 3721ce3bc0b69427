/- The row of the law LinesTexts out of its walk: for every input the law returns true, and each argument reads behind the call as it read before. -/
import Derived.Test.YtgbhcanfjmefiaaRows
import Derived.Test.YtgbhcanfjmefiaaOpen
import Derived.Test.YtgbhcanfjmefiaaTextsLaw
import Derived.WalkKit
import Derived.ProofKit
import Derived.OpenShut
import Derived.ShutString
import Derived.ChangeOld
import Derived.Below
import Derived.SizedLaws
import Derived.OpenVars
set_option linter.unusedVariables false
set_option linter.unusedSimpArgs false
namespace Go.Proofs.Ytgbhcanfjmefiaa.linesTexts
open Go.ChangeShapes Go.WideShapes Go.ChangeAt Go.RowKit Go.Proofs.Ytgbhcanfjmefiaa.Open Go.Proofs.YtgbhcanfjmefiaaW.PrintWords
open Go.ChangeMaps (open_string shut_string)
open Go.Proofs.Ytgbhcanfjmefiaa.Pure
theorem own : ownKnob Try.prog.godebug = none := by kernel_rfl
theorem laidOut : laidOutB Try.prog = true := by kernel_rfl
set_option maxRecDepth 100000 in
set_option maxHeartbeats 1000000 in
theorem lifted (os : Os) (started : os.Started) (H : Type) (enc : TypeId × Value → H) :
    ReturnsInHanded {} Try.checked os 11 .any (Rows.linesTextsSpec.pre6 enc Try.prog Try.f11 Rows.linesTextsRow.domain false) (Rows.linesTextsSpec.post enc Try.prog Try.f11 false true false false) := by
  refine returnsInHanded_of_change_sized (C := Try.checked) own started (by kernel_rfl) Try.func11
    (ChangeSpec.witness6 (enc := enc) (C := Try.checked) false ⟨#[], #[.slice none 0 0], []⟩ 8 (by kernel_rfl) (by kernel_rfl) (by kernel_rfl) (by kernel_rfl)) ?_
  intro W base args ds gs before hval0 hW hcnd hsz0 _
  have hszz : (DataW.weightsEach Try.prog (Try.f11.params.toList ++ Rows.linesTextsSpec.plain.varTypes Try.prog) (ds ++ gs)).all (· ≤ reachBytes) = true := hsz0
  have hval : ∀ (j : Nat) t v, Try.f11.params[j]? = some t → args[j]? = some v → Value.okWide Try.prog W .any base t v := hval0
  have hW' := hW
  obtain ⟨p, q, hA0, hV, rfl, hfz, hnd⟩ := hW
  have hA : DataW.TrodAll enc Try.prog W 0 (fun _ => true) true Try.f11.params.toList args.toList ds p := hA0
  rw [Try.params11] at hA hval hszz
  obtain ⟨v0, vs0, d0, ds0, p0, q0, hargs, rfl, rfl, h0, r0⟩ := trodAll_cons hA
  obtain ⟨rfl, rfl, rfl⟩ := trodAll_nil r0
  obtain rfl : args = #[v0] := by cases args; simp_all
  obtain ⟨rfl, rfl⟩ := trodVars_none hV
  have hsz : (DataW.weightsEach Try.prog [22] [d0]).all (· ≤ reachBytes) = true := hszz
  have k0 := h0
  have lt0 : ∀ x ∈ p0, x.block < W.heap.size := by obtain ⟨m, hm⟩ := k0; exact DataW.trod_lt m _ _ _ hm
  have w0 := weights_each (i := 0) hsz rfl rfl
  obtain ⟨b0, len0, cap0, rfl⟩ := okWide_slice Try.underlying22 (hval 0 22 v0 rfl rfl)
  obtain ⟨f0, hf0⟩ := h0
  obtain ⟨l0, ⟨A0, z0, e0, hc0, hr0⟩, ok0⟩ := (reads_slice (d := Kd.string) (b := 16) Try.underlying22 (by kernel_rfl) (by kernel_rfl) (reads_string Try.underlying9)).read hf0 w0
  obtain ⟨rfl, rfl, rfl⟩ : A0 = b0 ∧ l0.length = len0 ∧ z0 = cap0 := by obtain ⟨q1, q2, q3⟩ : b0 = A0 ∧ len0 = l0.length ∧ cap0 = z0 := (by simpa [Value.cells] using e0); exact ⟨q1.symm, q2.symm, q3.symm⟩
  clear hA0 hval0 hsz0 hszz hsz
  refine (LinesTexts_walk A0 z0 l0 W hr0 hc0 ok0).mono fun e W' ⟨he, bel⟩ => ?_
  subst he
  exact ⟨_, rfl, _, _, _, [], _, [], hW', trodAll_mk1 (shut_bool Try.underlying4 _), (trodAll_cons_mk (Below.trod laidOut (by kernel_rfl) (of_decide_eq_true (by kernel_rfl)) k0 bel lt0) trodAll_mk0), rfl, bel.frame _, fun h => by cases h⟩
theorem over : Rows.linesTextsRow.holds Try.pinned (OpenSpec.ofChange Rows.linesTextsSpec) :=
  OpenClaim.holds_of_wide 11 Try.f11 rfl rfl rfl rfl rfl rfl rfl ⟨rfl, rfl, rfl, rfl, rfl⟩ rfl rfl rfl rfl rfl (by kernel_rfl) Try.func11 (by kernel_rfl)
    (of_decide_eq_true (by kernel_rfl)) (by unfold Func.isWrapper; first | (rw [if_pos (by decide +kernel)]; kernel_rfl) | (rw [if_neg (by decide +kernel)]; exact ⟨rfl, rfl⟩))
    (fun os started H enc _ => lifted os started H enc)
theorem proved : Rows.LinesTextsSaid := over
#print axioms proved
end Go.Proofs.Ytgbhcanfjmefiaa.linesTexts
namespace Go.Proofs.Ytgbhcanfjmefiaa
/-- The row, under a short name, for the claim. -/
theorem linesTexts_holds : Rows.LinesTextsSaid := linesTexts.proved
end Go.Proofs.Ytgbhcanfjmefiaa

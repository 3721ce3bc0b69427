/- The row of the law CutsBytes out of its walk: for every input the law returns true, and each argument reads behind the call as it read before. -/
import Derived.Test.YtkedjlekeohpaaaRows
import Derived.Test.YtkedjlekeohpaaaOpen
import Derived.Test.YtkedjlekeohpaaaPureCutsBytes
import Derived.WalkKit
import Derived.ProofKit
import Derived.OpenShut
import Derived.ShutString
import Derived.ChangeOld
import Derived.Below
import Derived.SizedLaws
import Derived.OpenVars
set_option linter.unusedVariables false
set_option linter.unusedSimpArgs false
namespace Go.Proofs.Ytkedjlekeohpaaa.cutsBytes
open Go.ChangeShapes Go.WideShapes Go.ChangeAt Go.RowKit Go.Proofs.Ytkedjlekeohpaaa.Open Go.Proofs.YtkedjlekeohpaaaW.PrintWords
open Go.ChangeMaps (open_string shut_string)
open Go.Proofs.Ytkedjlekeohpaaa.Q
open Go.Proofs.Ytkedjlekeohpaaa.P
theorem okWide_array {P : Program} {w : World} {r : Reach} {base : Nat} {t e n : Nat} {v : Value} (ht : P.underlying t = some (.array n e)) (h : Value.okWide P w r base t v) : ∃ cs, v = .agg cs ∧ cs.size = P.cellsOf t := by
  simp only [Value.okWide, ht] at h
  obtain ⟨cs, h1, h2, _⟩ := h
  exact ⟨cs, h1, h2⟩
theorem list2 {α : Type} {l : List α} (h : l.length = 2) : ∃ x0 x1, l = [x0, x1] := by
  match l, h with
  | [x0, x1], _ => exact ⟨x0, x1, rfl⟩
theorem own : ownKnob Try.prog.godebug = none := by kernel_rfl
theorem laidOut : laidOutB Try.prog = true := by kernel_rfl
def Ok33 (x : S33) : Prop := ((Lit.int .i64 x.f0).wf = true) ∧ ((Lit.int .i64 x.f1).wf = true)
theorem reads_33 : Reads Try.prog 33 k33.K Ok33 := ⟨fun {H enc W spare held fuel cs x} h hw => by
    have hlen := (by obtain ⟨_, _, _, _, hq, _⟩ := DataW.trod_struct Try.underlying33 h; exact hq.trans (show Try.prog.cellsOf 33 = 2 by kernel_rfl) : cs.length = 2)
    obtain ⟨c0_0, c0_1, rfl⟩ := list2 hlen
    obtain ⟨xs0, n0, _, hx0, _, hl0, hg0⟩ := DataW.trod_struct Try.underlying33 h
    obtain ⟨y0_0, y0_1, rfl⟩ := list2 hl0
    replace hx0 := congrArg Prod.fst hx0
    dsimp only at hx0
    try dsimp only at hw
    simp only [hx0, DataW.weights, Try.underlying33, List.map_cons, List.map_nil] at hw
    have g0_0 : DataW.trod _ Try.prog _ _ _ _ n0 3 (List.take (Try.prog.cellsOf 3) (List.drop 0 [c0_0, c0_1])) = some y0_0 := hg0 0 _ rfl
    have w0_0 := weights_each (i := 0) hw rfl rfl
    rw [show Try.prog.cellsOf 3 = 1 by kernel_rfl] at g0_0
    replace g0_0 : DataW.trod _ _ _ _ _ _ n0 3 [c0_0] = some y0_0 := g0_0
    have g0_1 : DataW.trod _ Try.prog _ _ _ _ n0 3 (List.take (Try.prog.cellsOf 3) (List.drop 1 [c0_0, c0_1])) = some y0_1 := hg0 1 _ rfl
    have w0_1 := weights_each (i := 1) hw rfl rfl
    rw [show Try.prog.cellsOf 3 = 1 by kernel_rfl] at g0_1
    replace g0_1 : DataW.trod _ _ _ _ _ _ n0 3 [c0_1] = some y0_1 := g0_1
    obtain ⟨a0_0, e0_0, ok0_0⟩ := (reads_int Try.underlying3).read g0_0 w0_0
    obtain rfl : c0_0 = _ := (List.cons.inj e0_0).1
    obtain ⟨a0_1, e0_1, ok0_1⟩ := (reads_int Try.underlying3).read g0_1 w0_1
    obtain rfl : c0_1 = _ := (List.cons.inj e0_1).1
    exact ⟨⟨a0_0, a0_1⟩, k33_mk _ _ , ⟨ok0_0, ok0_1⟩⟩⟩
set_option maxRecDepth 100000 in
set_option maxHeartbeats 1000000 in
theorem lifted (os : Os) (started : os.Started) (H : Type) (enc : TypeId × Value → H) :
    ReturnsInHanded {} Try.checked os 3 .any (Rows.cutsBytesSpec.pre6 enc Try.prog Try.f3 Rows.cutsBytesRow.domain false) (Rows.cutsBytesSpec.post enc Try.prog Try.f3 false true false false) := by
  refine returnsInHanded_of_change_sized (C := Try.checked) own started (by kernel_rfl) Try.func3
    (ChangeSpec.witness6 (enc := enc) (C := Try.checked) false ⟨#[], #[.string ByteArray.empty, .slice none 0 0], []⟩ 8 (by kernel_rfl) (by kernel_rfl) (by kernel_rfl) (by kernel_rfl)) ?_
  intro W base args ds gs before hval0 hW hcnd hsz0 _
  have hszz : (DataW.weightsEach Try.prog (Try.f3.params.toList ++ Rows.cutsBytesSpec.plain.varTypes Try.prog) (ds ++ gs)).all (· ≤ reachBytes) = true := hsz0
  have hval : ∀ (j : Nat) t v, Try.f3.params[j]? = some t → args[j]? = some v → Value.okWide Try.prog W .any base t v := hval0
  have hW' := hW
  obtain ⟨p, q, hA0, hV, rfl, hfz, hnd⟩ := hW
  have hA : DataW.TrodAll enc Try.prog W 0 (fun _ => true) true Try.f3.params.toList args.toList ds p := hA0
  rw [Try.params3] at hA hval hszz
  obtain ⟨v0, vs0, d0, ds0, p0, q0, hargs, rfl, rfl, h0, r0⟩ := trodAll_cons hA
  obtain ⟨v1, vs1, d1, ds1, p1, q1, rfl, rfl, rfl, h1, r1⟩ := trodAll_cons r0
  obtain ⟨rfl, rfl, rfl⟩ := trodAll_nil r1
  obtain rfl : args = #[v0, v1] := by cases args; simp_all
  obtain ⟨rfl, rfl⟩ := trodVars_none hV
  have hsz : (DataW.weightsEach Try.prog [9, 22] [d0, d1]).all (· ≤ reachBytes) = true := hszz
  have k0 := h0
  have lt0 : ∀ x ∈ p0, x.block < W.heap.size := by obtain ⟨m, hm⟩ := k0; exact DataW.trod_lt m _ _ _ hm
  have w0 := weights_each (i := 0) hsz rfl rfl
  obtain ⟨a0, rfl, rfl, rfl, y0⟩ := open_string Try.underlying9 (hval 0 9 v0 rfl rfl) h0
  have ok0 : a0.size ≤ 140737488351232 := (show a0.size ≤ reachBytes by simpa [DataW.weights] using w0)
  have k1 := h1
  have lt1 : ∀ x ∈ p1, x.block < W.heap.size := by obtain ⟨m, hm⟩ := k1; exact DataW.trod_lt m _ _ _ hm
  have w1 := weights_each (i := 1) hsz rfl rfl
  obtain ⟨b1, len1, cap1, rfl⟩ := okWide_slice Try.underlying22 (hval 1 22 v1 rfl rfl)
  obtain ⟨f1, hf1⟩ := h1
  obtain ⟨l1, ⟨A1, z1, e1, hc1, hr1⟩, ok1⟩ := (reads_slice (d := k33) (b := 16) Try.underlying22 (by kernel_rfl) (by kernel_rfl) reads_33).read hf1 w1
  obtain ⟨rfl, rfl, rfl⟩ : A1 = b1 ∧ l1.length = len1 ∧ z1 = cap1 := by obtain ⟨q1, q2, q3⟩ : b1 = A1 ∧ len1 = l1.length ∧ cap1 = z1 := (by simpa [Value.cells] using e1); exact ⟨q1.symm, q2.symm, q3.symm⟩
  clear hA0 hval0 hsz0 hszz hsz
  refine (CutsBytes_walk a0 A1 z1 l1 W ok0 hr1 hc1 ok1).mono fun e W' ⟨he, bel⟩ => ?_
  subst he
  exact ⟨_, rfl, _, _, _, [], _, [], hW', trodAll_mk1 (shut_bool Try.underlying4 _), (trodAll_cons_mk (Below.trod laidOut (by kernel_rfl) (of_decide_eq_true (by kernel_rfl)) k0 bel lt0) (trodAll_cons_mk (Below.trod laidOut (by kernel_rfl) (of_decide_eq_true (by kernel_rfl)) k1 bel lt1) trodAll_mk0)), rfl, bel.frame _, fun h => by cases h⟩
theorem over : Rows.cutsBytesRow.holds Try.pinned (OpenSpec.ofChange Rows.cutsBytesSpec) :=
  OpenClaim.holds_of_wide 3 Try.f3 rfl rfl rfl rfl rfl rfl rfl ⟨rfl, rfl, rfl, rfl, rfl⟩ rfl rfl rfl rfl rfl (by kernel_rfl) Try.func3 (by kernel_rfl)
    (of_decide_eq_true (by kernel_rfl)) (by unfold Func.isWrapper; first | (rw [if_pos (by decide +kernel)]; kernel_rfl) | (rw [if_neg (by decide +kernel)]; exact ⟨rfl, rfl⟩))
    (fun os started H enc _ => lifted os started H enc)
theorem proved : Rows.CutsBytesSaid := over
#print axioms proved
end Go.Proofs.Ytkedjlekeohpaaa.cutsBytes
namespace Go.Proofs.Ytkedjlekeohpaaa
/-- The row, under a short name, for the claim. -/
theorem cutsBytes_holds : Rows.CutsBytesSaid := cutsBytes.proved
end Go.Proofs.Ytkedjlekeohpaaa

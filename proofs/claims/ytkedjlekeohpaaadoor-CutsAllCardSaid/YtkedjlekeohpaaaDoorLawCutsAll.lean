/- The row of the law CutsAll out of its walk: for every input the law returns true, and each argument reads behind the call as it read before. -/
import Derived.Test.YtkedjlekeohpaaaDoorRows
import Derived.Test.YtkedjlekeohpaaaDoorOpen
import Derived.Test.YtkedjlekeohpaaaDoorPureCutsAll
import Derived.WalkKit
import Derived.ProofKit
import Derived.OpenShut
import Derived.ShutString
import Derived.ChangeOld
import Derived.Below
import Derived.SizedLaws
import Derived.OpenVars
import Derived.LaidOnce
import Derived.Lay
import Derived.MakeChecks
import Derived.SevenTiedAt
import Derived.Test.YtkedjlekeohpaaaDoorCards
import Derived.Test.YtkedjlekeohpaaaDoorTie
set_option linter.unusedVariables false
set_option linter.unusedSimpArgs false
namespace Go.Proofs.YtkedjlekeohpaaaDoor.cutsAll
open Go.ChangeShapes Go.WideShapes Go.ChangeAt Go.RowKit Go.Proofs.YtkedjlekeohpaaaDoor.Open Go.Proofs.YtkedjlekeohpaaaDoorW.PrintWords
open Go.ChangeMaps (open_string shut_string)
open Go.Proofs.YtkedjlekeohpaaaDoor.P
theorem okWide_array {P : Program} {w : World} {r : Reach} {base : Nat} {t e n : Nat} {v : Value} (ht : P.underlying t = some (.array n e)) (h : Value.okWide P w r base t v) : ∃ cs, v = .agg cs ∧ cs.size = P.cellsOf t := by
  simp only [Value.okWide, ht] at h
  obtain ⟨cs, h1, h2, _⟩ := h
  exact ⟨cs, h1, h2⟩
theorem list3 {α : Type} {l : List α} (h : l.length = 3) : ∃ x0 x1 x2, l = [x0, x1, x2] := by
  match l, h with
  | [x0, x1, x2], _ => exact ⟨x0, x1, x2, rfl⟩
theorem own : ownKnob Tryd.prog.godebug = none := by kernel_rfl
theorem laidOut : laidOutB Tryd.prog = true := by kernel_rfl
set_option maxRecDepth 100000 in
set_option maxHeartbeats 1000000 in
theorem open_p0 {H : Type} {enc : TypeId × Value → H} {W : World} {b0 : Nat} {v : Value} {d : DataW H} {pp : List MemPlace} (hv : Value.okWide Tryd.prog W .any b0 23 v) (h : DataW.Trod enc Tryd.prog W 0 (fun _ => true) true 23 v d pp) (w0 : (DataW.weights Tryd.prog 23 d).all (· ≤ reachBytes) = true) :
    ∃ (a0_0 : ByteArray) (a0_1 : Int) (a0_2 : Bool), v = .agg #[.string a0_0, .int .u8 a0_1, .bool a0_2] ∧ (a0_0.size ≤ 140737488351232) ∧ ((Lit.int .u8 a0_1).wf = true) := by
  obtain ⟨cs, rfl, hs⟩ := okWide_struct Tryd.underlying23 hv
  obtain ⟨f, hf0⟩ := h
  obtain ⟨cs⟩ := cs
  obtain ⟨c0_0, c0_1, c0_2, rfl⟩ := list3 (hs.trans (show Tryd.prog.cellsOf 23 = 3 by kernel_rfl) : cs.length = 3)
  obtain ⟨xs0, n0, _, hx0, _, hl0, hg0⟩ := DataW.trod_struct Tryd.underlying23 hf0
  obtain ⟨y0_0, y0_1, y0_2, rfl⟩ := list3 hl0
  replace hx0 := congrArg Prod.fst hx0
  dsimp only at hx0
  try dsimp only at w0
  simp only [hx0, DataW.weights, Tryd.underlying23, List.map_cons, List.map_nil] at w0
  have g0_0 : DataW.trod _ Tryd.prog _ _ _ _ n0 9 (List.take (Tryd.prog.cellsOf 9) (List.drop 0 [c0_0, c0_1, c0_2])) = some y0_0 := hg0 0 _ rfl
  have w0_0 := weights_each (i := 0) w0 rfl rfl
  rw [show Tryd.prog.cellsOf 9 = 1 by kernel_rfl] at g0_0
  replace g0_0 : DataW.trod _ _ _ _ _ _ n0 9 [c0_0] = some y0_0 := g0_0
  have g0_1 : DataW.trod _ Tryd.prog _ _ _ _ n0 5 (List.take (Tryd.prog.cellsOf 5) (List.drop 1 [c0_0, c0_1, c0_2])) = some y0_1 := hg0 1 _ rfl
  have w0_1 := weights_each (i := 1) w0 rfl rfl
  rw [show Tryd.prog.cellsOf 5 = 1 by kernel_rfl] at g0_1
  replace g0_1 : DataW.trod _ _ _ _ _ _ n0 5 [c0_1] = some y0_1 := g0_1
  have g0_2 : DataW.trod _ Tryd.prog _ _ _ _ n0 4 (List.take (Tryd.prog.cellsOf 4) (List.drop 2 [c0_0, c0_1, c0_2])) = some y0_2 := hg0 2 _ rfl
  have w0_2 := weights_each (i := 2) w0 rfl rfl
  rw [show Tryd.prog.cellsOf 4 = 1 by kernel_rfl] at g0_2
  replace g0_2 : DataW.trod _ _ _ _ _ _ n0 4 [c0_2] = some y0_2 := g0_2
  obtain ⟨a0_0, e0_0, ok0_0⟩ := (reads_string Tryd.underlying9).read g0_0 w0_0
  obtain rfl : c0_0 = _ := (List.cons.inj e0_0).1
  obtain ⟨a0_1, e0_1, ok0_1⟩ := (reads_int Tryd.underlying5).read g0_1 w0_1
  obtain rfl : c0_1 = _ := (List.cons.inj e0_1).1
  obtain ⟨a0_2, e0_2, ok0_2⟩ := (reads_bool Tryd.underlying4).read g0_2 w0_2
  obtain rfl : c0_2 = _ := (List.cons.inj e0_2).1
  exact ⟨a0_0, a0_1, a0_2, rfl, ok0_0, ok0_1⟩
theorem handed_env {H : Type} {enc : TypeId × Value → H} {a : Assume} {C : Checked} {os : Os} {f : FuncId} {fn : Func} {s : ChangeSpec} {conds : List PathCond} {apart fresh handsOn again : Bool} {X : World → Array Value → Prop}
    (hX : ∀ (w w' : World) (args : Array Value), w.heap = w'.heap → X w args → X w' args)
    (own : ownKnob C.prog.godebug = none) (started : os.Started) (noInit : C.prog.inits.idxOf? f = none) (hfn : C.prog.funcs[f]? = some fn)
    (witness : ∃ (w : World) (tape : Tape) (i : Input), w.os = os ∧ (w.forCall tape i).Shaped C.prog ∧ i.vars = [] ∧ Input.okWide C.prog (w.forCall tape i) .any w.heap.size f i ∧
      ((s.pre enc C.prog fn conds apart (w.forCall tape i).memory i.args ∧ X (w.forCall tape i).memory i.args) ∧ sizedMet enc C.prog fn (OpenSpec.ofChange s) apart (w.forCall tape i).memory i.args) ∧ a.holds C.prog (lone (Frame.enter C.prog f i.args .normal) [] (w.forCall tape i)))
    (contract : ∀ (W : World) (base : Nat) (args : Array Value) (ds gs : List (DataW H)) (before : List MemPlace),
      (∀ (j : Nat) t v, fn.params[j]? = some t → args[j]? = some v → Value.okWide C.prog W .any base t v) →
      DataW.Whole enc C.prog fn.params.toList s.vars apart W args.toList ds gs before →
      conds.all (PathCond.test C.prog ⟨fn.params.toList, ds, s.plain.varTypes C.prog, gs⟩) = true →
      (DataW.weightsEach C.prog (fn.params.toList ++ s.plain.varTypes C.prog) (ds ++ gs)).all (· ≤ reachBytes) = true → X W args → W.ShapedOpen C.prog →
      a.holds C.prog (lone (Frame.enter C.prog f args .normal) [] W) →
      Calls C.prog f args W fun e W' => ∃ v, e = .returned v ∧ s.post enc C.prog fn apart fresh handsOn again W args v W') :
    ReturnsInHanded a C os f .any (fun w args => (s.pre enc C.prog fn conds apart w args ∧ X w args) ∧ sizedMet enc C.prog fn (OpenSpec.ofChange s) apart w args) (s.post enc C.prog fn apart fresh handsOn again) := by
  refine returnsInHanded_of_calls own started noInit witness ?_
  intro w tape i _ hsh _ hok hpre hholds
  obtain ⟨_, _, _, fn', hfn', _, _, _, _, hval⟩ := hok
  obtain rfl : fn' = fn := Option.some.inj (hfn'.symm.trans hfn)
  obtain ⟨⟨⟨ds, gs, before, hw, hc⟩, hx⟩, hz⟩ := hpre
  have hw' := DataW.Whole.of_heap (w' := w.forCall tape i) (by rfl) hw
  refine (contract (w.forCall tape i) w.heap.size i.args ds gs before hval hw' hc (hz.weights hw) (hX _ _ _ (by rfl) hx) hsh hholds).mono fun e W' ⟨v, he, hp⟩ => ?_
  subst he
  exact ChangeSpec.post_blind hp

set_option maxRecDepth 100000 in
set_option maxHeartbeats 1000000 in
theorem lifted (os : Os) (started : os.Started) (H : Type) (enc : TypeId × Value → H) :
    ReturnsInHanded {} Tryd.checked os 4 .any (fun w args => (Rows.cutsAllSpec.pre enc Tryd.prog Tryd.f4 Rows.cutsAllRow.domain false w args ∧ laidMetH Tryd.prog Rows.cutsAllRow.laid w) ∧ sizedMet enc Tryd.prog Tryd.f4 (OpenSpec.ofChange Rows.cutsAllSpec) false w args) (Rows.cutsAllSpec.post enc Tryd.prog Tryd.f4 false true false false) := by
  refine handed_env (C := Tryd.checked) (X := fun w _ => laidMetH Tryd.prog Rows.cutsAllRow.laid w) (fun _ _ _ hh h => h.of_heap hh) own started (by kernel_rfl) Tryd.func4
    (ChangeSpec.witness_shaped (enc := enc) (C := Tryd.checked) (os := os) (X := fun w _ => laidMetH Tryd.prog Rows.cutsAllRow.laid w) false (World.laidAll Tryd.prog os Rows.cutsAllRow.laid) #[.agg #[.string ByteArray.empty, .int .u8 0, .bool false]] 8 (World.laidAll_os _ _ _)
      (World.shaped_of_ZipB (by kernel_rfl) (by kernel_rfl)) (by kernel_rfl) (by kernel_rfl) (by kernel_rfl)
      (by rw [MakeChecks.laidMetH_plain _ _ _ (by kernel_rfl)]; exact laidMet_laidAll _ (by kernel_rfl) (by kernel_rfl))) ?_
  intro W base args ds gs before hval0 hW hcnd hsz0 hL hSH _
  have hENV := Go.Proofs.YtkedjlekeohpaaaDoor.H.envW_of hSH (by rw [MakeChecks.laidMetH_plain _ _ _ (by kernel_rfl)] at hL; exact hL) 2 4 3 (by kernel_rfl) (by kernel_rfl) (by kernel_rfl)
  clear hL hSH
  have hszz : (DataW.weightsEach Tryd.prog (Tryd.f4.params.toList ++ Rows.cutsAllSpec.plain.varTypes Tryd.prog) (ds ++ gs)).all (· ≤ reachBytes) = true := hsz0
  have hval : ∀ (j : Nat) t v, Tryd.f4.params[j]? = some t → args[j]? = some v → Value.okWide Tryd.prog W .any base t v := hval0
  have hW' := hW
  obtain ⟨p, q, hA0, hV, rfl, hfz, hnd⟩ := hW
  have hA : DataW.TrodAll enc Tryd.prog W 0 (fun _ => true) true Tryd.f4.params.toList args.toList ds p := hA0
  rw [Tryd.params4] at hA hval hszz
  obtain ⟨v0, vs0, d0, ds0, p0, q0, hargs, rfl, rfl, h0, r0⟩ := trodAll_cons hA
  obtain ⟨rfl, rfl, rfl⟩ := trodAll_nil r0
  obtain rfl : args = #[v0] := by cases args; simp_all
  obtain ⟨rfl, rfl⟩ := trodVars_none hV
  have hsz : (DataW.weightsEach Tryd.prog [23] [d0]).all (· ≤ reachBytes) = true := hszz
  have k0 := h0
  have lt0 : ∀ x ∈ p0, x.block < W.heap.size := by obtain ⟨m, hm⟩ := k0; exact DataW.trod_lt m _ _ _ hm
  have w0 := weights_each (i := 0) hsz rfl rfl
  obtain ⟨a0_0, a0_1, a0_2, rfl, ok0_0, ok0_1⟩ := open_p0 (hval 0 23 v0 rfl rfl) h0 w0
  clear hA0 hval0 hsz0 hszz hsz
  refine (CutsAll_walk a0_0 a0_1 a0_2 W hENV ok0_0 ok0_1).mono fun e W' ⟨he, bel⟩ => ?_
  subst he
  exact ⟨_, rfl, _, _, _, [], _, [], hW', trodAll_mk1 (shut_bool Tryd.underlying4 _), (trodAll_cons_mk (Below.trod laidOut (by kernel_rfl) (of_decide_eq_true (by kernel_rfl)) k0 bel lt0) trodAll_mk0), rfl, bel.frame _, fun h => by cases h⟩
theorem over : Rows.cutsAllRow.holds Tryd.pinned (OpenSpec.ofChange Rows.cutsAllSpec) :=
  OpenClaim.holds_of_wide 4 Tryd.f4 rfl rfl rfl rfl rfl rfl rfl ⟨rfl, rfl, rfl, rfl, rfl⟩ rfl rfl rfl rfl rfl (by kernel_rfl) Tryd.func4 (by kernel_rfl)
    (of_decide_eq_true (by kernel_rfl)) (by unfold Func.isWrapper; first | (rw [if_pos (by decide +kernel)]; kernel_rfl) | (rw [if_neg (by decide +kernel)]; exact ⟨rfl, rfl⟩))
    (fun os started H enc _ => lifted os started H enc)
theorem proved : Rows.CutsAllCardSaid :=
  Claim7.holds_tied_plain_at .later [] [.data, .data, .data, .data, .pinned] true (true, "d4db0ef7b81e11ac92e2b1f0a4f084c84dc383e60b107575b28fb05617e8e7a4") false over (fun _ h => by cases h) (by kernel_rfl) (fun _ h => by cases h) cutsAll_row_tie rfl ⟨rfl, rfl⟩ (by kernel_rfl) rfl
    (fun f fn hf hfn => by
      obtain rfl : f = 4 := Option.some.inj ((show Tryd.prog.funcNamed "toolchest/toolchestlaw07.CutsAll" = some 4 by kernel_rfl).symm.trans hf) |>.symm
      obtain rfl : fn = Tryd.f4 := (Option.some.inj (Tryd.func4.symm.trans hfn)).symm
      exact ⟨by kernel_rfl, fun j t ht => by
        rw [Tryd.params4] at ht
        have hm : t ∈ [23] := by simpa using Array.mem_of_getElem? ht
        have hall : ([23].all fun u => !Tryd.prog.wantsStandIn u) = true := by kernel_rfl
        exact (show Tryd.prog.wantsStandIn t = false by simpa using List.all_eq_true.1 hall t hm)⟩)
    (by kernel_rfl)
#print axioms proved
end Go.Proofs.YtkedjlekeohpaaaDoor.cutsAll
namespace Go.Proofs.YtkedjlekeohpaaaDoor
/-- The row, under a short name, for the claim. -/
theorem cutsAll_holds : Rows.CutsAllCardSaid := cutsAll.proved
end Go.Proofs.YtkedjlekeohpaaaDoor

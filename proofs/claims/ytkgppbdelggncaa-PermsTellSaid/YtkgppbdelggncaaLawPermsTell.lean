/- The row of the law PermsTell out of its walk: for every input the law returns true, and each argument reads behind the call as it read before. -/
import Derived.Test.YtkgppbdelggncaaRows
import Derived.Test.YtkgppbdelggncaaOpen
import Derived.Test.YtkgppbdelggncaaPurePermsTell
import Derived.WalkKit
import Derived.ProofKit
import Derived.OpenShut
import Derived.ShutString
import Derived.ChangeOld
import Derived.Below
import Derived.SizedLaws
import Derived.OpenVars
set_option linter.unusedVariables false
set_option linter.unusedSimpArgs false
namespace Go.Proofs.Ytkgppbdelggncaa.permsTell
open Go.ChangeShapes Go.WideShapes Go.ChangeAt Go.RowKit Go.Proofs.Ytkgppbdelggncaa.Open Go.Proofs.YtkgppbdelggncaaW.PrintWords
open Go.ChangeMaps (open_string shut_string)
open Go.Proofs.Ytkgppbdelggncaa.Q
open Go.Proofs.Ytkgppbdelggncaa.P
theorem okWide_array {P : Program} {w : World} {r : Reach} {base : Nat} {t e n : Nat} {v : Value} (ht : P.underlying t = some (.array n e)) (h : Value.okWide P w r base t v) : ∃ cs, v = .agg cs ∧ cs.size = P.cellsOf t := by
  simp only [Value.okWide, ht] at h
  obtain ⟨cs, h1, h2, _⟩ := h
  exact ⟨cs, h1, h2⟩
theorem list2 {α : Type} {l : List α} (h : l.length = 2) : ∃ x0 x1, l = [x0, x1] := by
  match l, h with
  | [x0, x1], _ => exact ⟨x0, x1, rfl⟩
theorem list4 {α : Type} {l : List α} (h : l.length = 4) : ∃ x0 x1 x2 x3, l = [x0, x1, x2, x3] := by
  match l, h with
  | [x0, x1, x2, x3], _ => exact ⟨x0, x1, x2, x3, rfl⟩
theorem list10 {α : Type} {l : List α} (h : l.length = 10) : ∃ x0 x1 x2 x3 x4 x5 x6 x7 x8 x9, l = [x0, x1, x2, x3, x4, x5, x6, x7, x8, x9] := by
  match l, h with
  | [x0, x1, x2, x3, x4, x5, x6, x7, x8, x9], _ => exact ⟨x0, x1, x2, x3, x4, x5, x6, x7, x8, x9, rfl⟩
theorem own : ownKnob Try.prog.godebug = none := by kernel_rfl
theorem laidOut : laidOutB Try.prog = true := by kernel_rfl
def Ok58 (x : S58) : Prop := (x.f0.size ≤ 140737488351232) ∧ ((Lit.int .i64 x.f1).wf = true)
theorem reads_58 : Reads Try.prog 58 k58.K Ok58 := ⟨fun {H enc W spare held fuel cs x} h hw => by
    have hlen := (by obtain ⟨_, _, _, _, hq, _⟩ := DataW.trod_struct Try.underlying58 h; exact hq.trans (show Try.prog.cellsOf 58 = 2 by kernel_rfl) : cs.length = 2)
    obtain ⟨c0_0, c0_1, rfl⟩ := list2 hlen
    obtain ⟨xs0, n0, _, hx0, _, hl0, hg0⟩ := DataW.trod_struct Try.underlying58 h
    obtain ⟨y0_0, y0_1, rfl⟩ := list2 hl0
    replace hx0 := congrArg Prod.fst hx0
    dsimp only at hx0
    try dsimp only at hw
    simp only [hx0, DataW.weights, Try.underlying58, List.map_cons, List.map_nil] at hw
    have g0_0 : DataW.trod _ Try.prog _ _ _ _ n0 9 (List.take (Try.prog.cellsOf 9) (List.drop 0 [c0_0, c0_1])) = some y0_0 := hg0 0 _ rfl
    have w0_0 := weights_each (i := 0) hw rfl rfl
    rw [show Try.prog.cellsOf 9 = 1 by kernel_rfl] at g0_0
    replace g0_0 : DataW.trod _ _ _ _ _ _ n0 9 [c0_0] = some y0_0 := g0_0
    have g0_1 : DataW.trod _ Try.prog _ _ _ _ n0 3 (List.take (Try.prog.cellsOf 3) (List.drop 1 [c0_0, c0_1])) = some y0_1 := hg0 1 _ rfl
    have w0_1 := weights_each (i := 1) hw rfl rfl
    rw [show Try.prog.cellsOf 3 = 1 by kernel_rfl] at g0_1
    replace g0_1 : DataW.trod _ _ _ _ _ _ n0 3 [c0_1] = some y0_1 := g0_1
    obtain ⟨a0_0, e0_0, ok0_0⟩ := (reads_string Try.underlying9).read g0_0 w0_0
    obtain rfl : c0_0 = _ := (List.cons.inj e0_0).1
    obtain ⟨a0_1, e0_1, ok0_1⟩ := (reads_int Try.underlying3).read g0_1 w0_1
    obtain rfl : c0_1 = _ := (List.cons.inj e0_1).1
    exact ⟨⟨a0_0, a0_1⟩, k58_mk _ _ , ⟨ok0_0, ok0_1⟩⟩⟩
set_option maxRecDepth 100000 in
set_option maxHeartbeats 1000000 in
theorem open_p0 {H : Type} {enc : TypeId × Value → H} {W : World} {b0 : Nat} {v : Value} {d : DataW H} {pp : List MemPlace} (hv : Value.okWide Try.prog W .any b0 26 v) (h : DataW.Trod enc Try.prog W 0 (fun _ => true) true 26 v d pp) (w0 : (DataW.weights Try.prog 26 d).all (· ≤ reachBytes) = true) :
    ∃ (a0_0 : Int) (a0_1 : Int) (a0_2 : Int) (a0_3 : Int) (a0_4 : Int) (a0_5 : Int) (A0_6 : Option Addr) (z0_6 : Nat) (l0_6 : List Int) (a0_7 : ByteArray) (A0_8 : Option Addr) (z0_8 : Nat) (l0_8 : List S58) (a0_9 : Int), v = .agg #[.int .u8 a0_0, .int .i64 a0_1, .int .i64 a0_2, .int .i64 a0_3, .int .i64 a0_4, .int .i64 a0_5, .slice A0_6 l0_6.length z0_6, .string a0_7, .slice A0_8 l0_8.length z0_8, .int .i64 a0_9] ∧ ((Lit.int .u8 a0_0).wf = true) ∧ ((Lit.int .i64 a0_1).wf = true) ∧ ((Lit.int .i64 a0_2).wf = true) ∧ ((Lit.int .i64 a0_3).wf = true) ∧ ((Lit.int .i64 a0_4).wf = true) ∧ ((Lit.int .i64 a0_5).wf = true) ∧ (Kd.C (Kd.int .u8) W A0_6 l0_6.length l0_6) ∧ (l0_6.length ≤ z0_6) ∧ ((∀ a ∈ l0_6, (Lit.int .u8 a).wf = true) ∧ l0_6.length * 1 ≤ 140737488351232) ∧ (a0_7.size ≤ 140737488351232) ∧ (Kd.C k58 W A0_8 l0_8.length l0_8) ∧ (l0_8.length ≤ z0_8) ∧ ((∀ a ∈ l0_8, Ok58 a) ∧ l0_8.length * 24 ≤ 140737488351232) ∧ ((Lit.int .i64 a0_9).wf = true) := by
  obtain ⟨cs, rfl, hs⟩ := okWide_struct Try.underlying26 hv
  obtain ⟨f, hf0⟩ := h
  obtain ⟨cs⟩ := cs
  obtain ⟨c0_0, c0_1, c0_2, c0_3, c0_4, c0_5, c0_6, c0_7, c0_8, c0_9, rfl⟩ := list10 (hs.trans (show Try.prog.cellsOf 26 = 10 by kernel_rfl) : cs.length = 10)
  obtain ⟨xs0, n0, _, hx0, _, hl0, hg0⟩ := DataW.trod_struct Try.underlying26 hf0
  obtain ⟨y0_0, y0_1, y0_2, y0_3, y0_4, y0_5, y0_6, y0_7, y0_8, y0_9, rfl⟩ := list10 hl0
  replace hx0 := congrArg Prod.fst hx0
  dsimp only at hx0
  try dsimp only at w0
  simp only [hx0, DataW.weights, Try.underlying26, List.map_cons, List.map_nil] at w0
  have g0_0 : DataW.trod _ Try.prog _ _ _ _ n0 22 (List.take (Try.prog.cellsOf 22) (List.drop 0 [c0_0, c0_1, c0_2, c0_3, c0_4, c0_5, c0_6, c0_7, c0_8, c0_9])) = some y0_0 := hg0 0 _ rfl
  have w0_0 := weights_each (i := 0) w0 rfl rfl
  rw [show Try.prog.cellsOf 22 = 1 by kernel_rfl] at g0_0
  replace g0_0 : DataW.trod _ _ _ _ _ _ n0 22 [c0_0] = some y0_0 := g0_0
  have g0_1 : DataW.trod _ Try.prog _ _ _ _ n0 3 (List.take (Try.prog.cellsOf 3) (List.drop 1 [c0_0, c0_1, c0_2, c0_3, c0_4, c0_5, c0_6, c0_7, c0_8, c0_9])) = some y0_1 := hg0 1 _ rfl
  have w0_1 := weights_each (i := 1) w0 rfl rfl
  rw [show Try.prog.cellsOf 3 = 1 by kernel_rfl] at g0_1
  replace g0_1 : DataW.trod _ _ _ _ _ _ n0 3 [c0_1] = some y0_1 := g0_1
  have g0_2 : DataW.trod _ Try.prog _ _ _ _ n0 3 (List.take (Try.prog.cellsOf 3) (List.drop 2 [c0_0, c0_1, c0_2, c0_3, c0_4, c0_5, c0_6, c0_7, c0_8, c0_9])) = some y0_2 := hg0 2 _ rfl
  have w0_2 := weights_each (i := 2) w0 rfl rfl
  rw [show Try.prog.cellsOf 3 = 1 by kernel_rfl] at g0_2
  replace g0_2 : DataW.trod _ _ _ _ _ _ n0 3 [c0_2] = some y0_2 := g0_2
  have g0_3 : DataW.trod _ Try.prog _ _ _ _ n0 3 (List.take (Try.prog.cellsOf 3) (List.drop 3 [c0_0, c0_1, c0_2, c0_3, c0_4, c0_5, c0_6, c0_7, c0_8, c0_9])) = some y0_3 := hg0 3 _ rfl
  have w0_3 := weights_each (i := 3) w0 rfl rfl
  rw [show Try.prog.cellsOf 3 = 1 by kernel_rfl] at g0_3
  replace g0_3 : DataW.trod _ _ _ _ _ _ n0 3 [c0_3] = some y0_3 := g0_3
  have g0_4 : DataW.trod _ Try.prog _ _ _ _ n0 3 (List.take (Try.prog.cellsOf 3) (List.drop 4 [c0_0, c0_1, c0_2, c0_3, c0_4, c0_5, c0_6, c0_7, c0_8, c0_9])) = some y0_4 := hg0 4 _ rfl
  have w0_4 := weights_each (i := 4) w0 rfl rfl
  rw [show Try.prog.cellsOf 3 = 1 by kernel_rfl] at g0_4
  replace g0_4 : DataW.trod _ _ _ _ _ _ n0 3 [c0_4] = some y0_4 := g0_4
  have g0_5 : DataW.trod _ Try.prog _ _ _ _ n0 3 (List.take (Try.prog.cellsOf 3) (List.drop 5 [c0_0, c0_1, c0_2, c0_3, c0_4, c0_5, c0_6, c0_7, c0_8, c0_9])) = some y0_5 := hg0 5 _ rfl
  have w0_5 := weights_each (i := 5) w0 rfl rfl
  rw [show Try.prog.cellsOf 3 = 1 by kernel_rfl] at g0_5
  replace g0_5 : DataW.trod _ _ _ _ _ _ n0 3 [c0_5] = some y0_5 := g0_5
  have g0_6 : DataW.trod _ Try.prog _ _ _ _ n0 23 (List.take (Try.prog.cellsOf 23) (List.drop 6 [c0_0, c0_1, c0_2, c0_3, c0_4, c0_5, c0_6, c0_7, c0_8, c0_9])) = some y0_6 := hg0 6 _ rfl
  have w0_6 := weights_each (i := 6) w0 rfl rfl
  rw [show Try.prog.cellsOf 23 = 1 by kernel_rfl] at g0_6
  replace g0_6 : DataW.trod _ _ _ _ _ _ n0 23 [c0_6] = some y0_6 := g0_6
  have g0_7 : DataW.trod _ Try.prog _ _ _ _ n0 9 (List.take (Try.prog.cellsOf 9) (List.drop 7 [c0_0, c0_1, c0_2, c0_3, c0_4, c0_5, c0_6, c0_7, c0_8, c0_9])) = some y0_7 := hg0 7 _ rfl
  have w0_7 := weights_each (i := 7) w0 rfl rfl
  rw [show Try.prog.cellsOf 9 = 1 by kernel_rfl] at g0_7
  replace g0_7 : DataW.trod _ _ _ _ _ _ n0 9 [c0_7] = some y0_7 := g0_7
  have g0_8 : DataW.trod _ Try.prog _ _ _ _ n0 24 (List.take (Try.prog.cellsOf 24) (List.drop 8 [c0_0, c0_1, c0_2, c0_3, c0_4, c0_5, c0_6, c0_7, c0_8, c0_9])) = some y0_8 := hg0 8 _ rfl
  have w0_8 := weights_each (i := 8) w0 rfl rfl
  rw [show Try.prog.cellsOf 24 = 1 by kernel_rfl] at g0_8
  replace g0_8 : DataW.trod _ _ _ _ _ _ n0 24 [c0_8] = some y0_8 := g0_8
  have g0_9 : DataW.trod _ Try.prog _ _ _ _ n0 3 (List.take (Try.prog.cellsOf 3) (List.drop 9 [c0_0, c0_1, c0_2, c0_3, c0_4, c0_5, c0_6, c0_7, c0_8, c0_9])) = some y0_9 := hg0 9 _ rfl
  have w0_9 := weights_each (i := 9) w0 rfl rfl
  rw [show Try.prog.cellsOf 3 = 1 by kernel_rfl] at g0_9
  replace g0_9 : DataW.trod _ _ _ _ _ _ n0 3 [c0_9] = some y0_9 := g0_9
  obtain ⟨a0_0, e0_0, ok0_0⟩ := (reads_int Try.underlying22).read g0_0 w0_0
  obtain rfl : c0_0 = _ := (List.cons.inj e0_0).1
  obtain ⟨a0_1, e0_1, ok0_1⟩ := (reads_int Try.underlying3).read g0_1 w0_1
  obtain rfl : c0_1 = _ := (List.cons.inj e0_1).1
  obtain ⟨a0_2, e0_2, ok0_2⟩ := (reads_int Try.underlying3).read g0_2 w0_2
  obtain rfl : c0_2 = _ := (List.cons.inj e0_2).1
  obtain ⟨a0_3, e0_3, ok0_3⟩ := (reads_int Try.underlying3).read g0_3 w0_3
  obtain rfl : c0_3 = _ := (List.cons.inj e0_3).1
  obtain ⟨a0_4, e0_4, ok0_4⟩ := (reads_int Try.underlying3).read g0_4 w0_4
  obtain rfl : c0_4 = _ := (List.cons.inj e0_4).1
  obtain ⟨a0_5, e0_5, ok0_5⟩ := (reads_int Try.underlying3).read g0_5 w0_5
  obtain rfl : c0_5 = _ := (List.cons.inj e0_5).1
  obtain ⟨l0_6, ⟨A0_6, z0_6, e0_6, hc0_6, hr0_6⟩, ok0_6⟩ := (reads_slice (d := (Kd.int .u8)) (b := 1) Try.underlying23 (by kernel_rfl) (by kernel_rfl) (reads_int Try.underlying5)).read g0_6 w0_6
  obtain rfl := (List.cons.inj e0_6).1
  obtain ⟨a0_7, e0_7, ok0_7⟩ := (reads_string Try.underlying9).read g0_7 w0_7
  obtain rfl : c0_7 = _ := (List.cons.inj e0_7).1
  obtain ⟨l0_8, ⟨A0_8, z0_8, e0_8, hc0_8, hr0_8⟩, ok0_8⟩ := (reads_slice (d := k58) (b := 24) Try.underlying24 (by kernel_rfl) (by kernel_rfl) reads_58).read g0_8 w0_8
  obtain rfl := (List.cons.inj e0_8).1
  obtain ⟨a0_9, e0_9, ok0_9⟩ := (reads_int Try.underlying3).read g0_9 w0_9
  obtain rfl : c0_9 = _ := (List.cons.inj e0_9).1
  exact ⟨a0_0, a0_1, a0_2, a0_3, a0_4, a0_5, A0_6, z0_6, l0_6, a0_7, A0_8, z0_8, l0_8, a0_9, rfl, ok0_0, ok0_1, ok0_2, ok0_3, ok0_4, ok0_5, hr0_6, hc0_6, ok0_6, ok0_7, hr0_8, hc0_8, ok0_8, ok0_9⟩
set_option maxRecDepth 100000 in
set_option maxHeartbeats 1000000 in
theorem open_p1 {H : Type} {enc : TypeId × Value → H} {W : World} {b0 : Nat} {v : Value} {d : DataW H} {pp : List MemPlace} (hv : Value.okWide Try.prog W .any b0 28 v) (h : DataW.Trod enc Try.prog W 0 (fun _ => true) true 28 v d pp) (w1 : (DataW.weights Try.prog 28 d).all (· ≤ reachBytes) = true) :
    ∃ (a1_0 : Int) (a1_1 : Int) (a1_2 : Int) (a1_3 : Int), v = .agg #[.int .i64 a1_0, .int .i64 a1_1, .int .i64 a1_2, .int .i64 a1_3] ∧ ((Lit.int .i64 a1_0).wf = true) ∧ ((Lit.int .i64 a1_1).wf = true) ∧ ((Lit.int .i64 a1_2).wf = true) ∧ ((Lit.int .i64 a1_3).wf = true) := by
  obtain ⟨cs, rfl, hs⟩ := okWide_struct Try.underlying28 hv
  obtain ⟨f, hf1⟩ := h
  obtain ⟨cs⟩ := cs
  obtain ⟨c1_0, c1_1, c1_2, c1_3, rfl⟩ := list4 (hs.trans (show Try.prog.cellsOf 28 = 4 by kernel_rfl) : cs.length = 4)
  obtain ⟨xs1, n1, _, hx1, _, hl1, hg1⟩ := DataW.trod_struct Try.underlying28 hf1
  obtain ⟨y1_0, y1_1, y1_2, y1_3, rfl⟩ := list4 hl1
  replace hx1 := congrArg Prod.fst hx1
  dsimp only at hx1
  try dsimp only at w1
  simp only [hx1, DataW.weights, Try.underlying28, List.map_cons, List.map_nil] at w1
  have g1_0 : DataW.trod _ Try.prog _ _ _ _ n1 3 (List.take (Try.prog.cellsOf 3) (List.drop 0 [c1_0, c1_1, c1_2, c1_3])) = some y1_0 := hg1 0 _ rfl
  have w1_0 := weights_each (i := 0) w1 rfl rfl
  rw [show Try.prog.cellsOf 3 = 1 by kernel_rfl] at g1_0
  replace g1_0 : DataW.trod _ _ _ _ _ _ n1 3 [c1_0] = some y1_0 := g1_0
  have g1_1 : DataW.trod _ Try.prog _ _ _ _ n1 3 (List.take (Try.prog.cellsOf 3) (List.drop 1 [c1_0, c1_1, c1_2, c1_3])) = some y1_1 := hg1 1 _ rfl
  have w1_1 := weights_each (i := 1) w1 rfl rfl
  rw [show Try.prog.cellsOf 3 = 1 by kernel_rfl] at g1_1
  replace g1_1 : DataW.trod _ _ _ _ _ _ n1 3 [c1_1] = some y1_1 := g1_1
  have g1_2 : DataW.trod _ Try.prog _ _ _ _ n1 3 (List.take (Try.prog.cellsOf 3) (List.drop 2 [c1_0, c1_1, c1_2, c1_3])) = some y1_2 := hg1 2 _ rfl
  have w1_2 := weights_each (i := 2) w1 rfl rfl
  rw [show Try.prog.cellsOf 3 = 1 by kernel_rfl] at g1_2
  replace g1_2 : DataW.trod _ _ _ _ _ _ n1 3 [c1_2] = some y1_2 := g1_2
  have g1_3 : DataW.trod _ Try.prog _ _ _ _ n1 3 (List.take (Try.prog.cellsOf 3) (List.drop 3 [c1_0, c1_1, c1_2, c1_3])) = some y1_3 := hg1 3 _ rfl
  have w1_3 := weights_each (i := 3) w1 rfl rfl
  rw [show Try.prog.cellsOf 3 = 1 by kernel_rfl] at g1_3
  replace g1_3 : DataW.trod _ _ _ _ _ _ n1 3 [c1_3] = some y1_3 := g1_3
  obtain ⟨a1_0, e1_0, ok1_0⟩ := (reads_int Try.underlying3).read g1_0 w1_0
  obtain rfl : c1_0 = _ := (List.cons.inj e1_0).1
  obtain ⟨a1_1, e1_1, ok1_1⟩ := (reads_int Try.underlying3).read g1_1 w1_1
  obtain rfl : c1_1 = _ := (List.cons.inj e1_1).1
  obtain ⟨a1_2, e1_2, ok1_2⟩ := (reads_int Try.underlying3).read g1_2 w1_2
  obtain rfl : c1_2 = _ := (List.cons.inj e1_2).1
  obtain ⟨a1_3, e1_3, ok1_3⟩ := (reads_int Try.underlying3).read g1_3 w1_3
  obtain rfl : c1_3 = _ := (List.cons.inj e1_3).1
  exact ⟨a1_0, a1_1, a1_2, a1_3, rfl, ok1_0, ok1_1, ok1_2, ok1_3⟩
set_option maxRecDepth 100000 in
set_option maxHeartbeats 1000000 in
theorem lifted (os : Os) (started : os.Started) (H : Type) (enc : TypeId × Value → H) :
    ReturnsInHanded {} Try.checked os 3 .any (Rows.permsTellSpec.pre6 enc Try.prog Try.f3 Rows.permsTellRow.domain false) (Rows.permsTellSpec.post enc Try.prog Try.f3 false true false false) := by
  refine returnsInHanded_of_change_sized (C := Try.checked) own started (by kernel_rfl) Try.func3
    (ChangeSpec.witness6 (enc := enc) (C := Try.checked) false ⟨#[], #[.agg #[.int .u8 0, .int .i64 0, .int .i64 0, .int .i64 0, .int .i64 0, .int .i64 0, .slice none 0 0, .string ByteArray.empty, .slice none 0 0, .int .i64 0], .agg #[.int .i64 0, .int .i64 0, .int .i64 0, .int .i64 0], .int .i64 0], []⟩ 8 (by kernel_rfl) (by kernel_rfl) (by kernel_rfl) (by kernel_rfl)) ?_
  intro W base args ds gs before hval0 hW hcnd hsz0 _
  have hszz : (DataW.weightsEach Try.prog (Try.f3.params.toList ++ Rows.permsTellSpec.plain.varTypes Try.prog) (ds ++ gs)).all (· ≤ reachBytes) = true := hsz0
  have hval : ∀ (j : Nat) t v, Try.f3.params[j]? = some t → args[j]? = some v → Value.okWide Try.prog W .any base t v := hval0
  have hW' := hW
  obtain ⟨p, q, hA0, hV, rfl, hfz, hnd⟩ := hW
  have hA : DataW.TrodAll enc Try.prog W 0 (fun _ => true) true Try.f3.params.toList args.toList ds p := hA0
  rw [Try.params3] at hA hval hszz
  obtain ⟨v0, vs0, d0, ds0, p0, q0, hargs, rfl, rfl, h0, r0⟩ := trodAll_cons hA
  obtain ⟨v1, vs1, d1, ds1, p1, q1, rfl, rfl, rfl, h1, r1⟩ := trodAll_cons r0
  obtain ⟨v2, vs2, d2, ds2, p2, q2, rfl, rfl, rfl, h2, r2⟩ := trodAll_cons r1
  obtain ⟨rfl, rfl, rfl⟩ := trodAll_nil r2
  obtain rfl : args = #[v0, v1, v2] := by cases args; simp_all
  obtain ⟨rfl, rfl⟩ := trodVars_none hV
  have hsz : (DataW.weightsEach Try.prog [26, 28, 3] [d0, d1, d2]).all (· ≤ reachBytes) = true := hszz
  have k0 := h0
  have lt0 : ∀ x ∈ p0, x.block < W.heap.size := by obtain ⟨m, hm⟩ := k0; exact DataW.trod_lt m _ _ _ hm
  have w0 := weights_each (i := 0) hsz rfl rfl
  obtain ⟨a0_0, a0_1, a0_2, a0_3, a0_4, a0_5, A0_6, z0_6, l0_6, a0_7, A0_8, z0_8, l0_8, a0_9, rfl, ok0_0, ok0_1, ok0_2, ok0_3, ok0_4, ok0_5, hr0_6, hc0_6, ok0_6, ok0_7, hr0_8, hc0_8, ok0_8, ok0_9⟩ := open_p0 (hval 0 26 v0 rfl rfl) h0 w0
  have k1 := h1
  have lt1 : ∀ x ∈ p1, x.block < W.heap.size := by obtain ⟨m, hm⟩ := k1; exact DataW.trod_lt m _ _ _ hm
  have w1 := weights_each (i := 1) hsz rfl rfl
  obtain ⟨a1_0, a1_1, a1_2, a1_3, rfl, ok1_0, ok1_1, ok1_2, ok1_3⟩ := open_p1 (hval 1 28 v1 rfl rfl) h1 w1
  have k2 := h2
  have lt2 : ∀ x ∈ p2, x.block < W.heap.size := by obtain ⟨m, hm⟩ := k2; exact DataW.trod_lt m _ _ _ hm
  have w2 := weights_each (i := 2) hsz rfl rfl
  obtain ⟨a2, rfl, rfl, rfl, ok2⟩ := open_int Try.underlying3 (hval 2 3 v2 rfl rfl) h2
  clear hA0 hval0 hsz0 hszz hsz
  refine (PermsTell_walk (fun _ h => h.1) a0_0 a0_1 a0_2 a0_3 a0_4 a0_5 A0_6 z0_6 l0_6 a0_7 A0_8 z0_8 l0_8 a0_9 a1_0 a1_1 a1_2 a1_3 a2 W ok0_0 ok0_1 ok0_2 ok0_3 ok0_4 ok0_5 hr0_6 hc0_6 ok0_6 ok0_7 hr0_8 hc0_8 ok0_8 ok0_9 ok1_0 ok1_1 ok1_2 ok1_3 ok2).mono fun e W' ⟨he, bel⟩ => ?_
  subst he
  exact ⟨_, rfl, _, _, _, [], _, [], hW', trodAll_mk1 (shut_bool Try.underlying4 _), (trodAll_cons_mk (Below.trod laidOut (by kernel_rfl) (of_decide_eq_true (by kernel_rfl)) k0 bel lt0) (trodAll_cons_mk (Below.trod laidOut (by kernel_rfl) (of_decide_eq_true (by kernel_rfl)) k1 bel lt1) (trodAll_cons_mk (Below.trod laidOut (by kernel_rfl) (of_decide_eq_true (by kernel_rfl)) k2 bel lt2) trodAll_mk0))), rfl, bel.frame _, fun h => by cases h⟩
theorem over : Rows.permsTellRow.holds Try.pinned (OpenSpec.ofChange Rows.permsTellSpec) :=
  OpenClaim.holds_of_wide 3 Try.f3 rfl rfl rfl rfl rfl rfl rfl ⟨rfl, rfl, rfl, rfl, rfl⟩ rfl rfl rfl rfl rfl (by kernel_rfl) Try.func3 (by kernel_rfl)
    (of_decide_eq_true (by kernel_rfl)) (by unfold Func.isWrapper; first | (rw [if_pos (by decide +kernel)]; kernel_rfl) | (rw [if_neg (by decide +kernel)]; exact ⟨rfl, rfl⟩))
    (fun os started H enc _ => lifted os started H enc)
theorem proved : Rows.PermsTellSaid := over
#print axioms proved
end Go.Proofs.Ytkgppbdelggncaa.permsTell
namespace Go.Proofs.Ytkgppbdelggncaa
/-- The row, under a short name, for the claim. -/
theorem permsTell_holds : Rows.PermsTellSaid := permsTell.proved
end Go.Proofs.Ytkgppbdelggncaa

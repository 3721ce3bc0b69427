/- TwinNode, LeftNode: a node's copy of its own. -/
import Derived.Test.YtkgppbdelggncaaTwinB
import Derived.Test.YtkgppbdelggncaaTwinE
import Derived.Laws.Tables
import Derived.Deep.RegionHeld3
set_option linter.unusedVariables false
set_option linter.unusedSimpArgs false
namespace Go.Proofs.Ytkgppbdelggncaa.H
open Go.RowKit Go.Proofs.YtkgppbdelggncaaW.PrintWords Go.Proofs.Ytkgppbdelggncaa.Q
abbrev nodeCs (k m u g ln t : Int) (A : Option Addr) (n z : Nat) (s : ByteArray) (B : Option Addr) (p y : Nat) (pa : Int) : Array Value := #[.int .u8 k, .int .i64 m, .int .i64 u, .int .i64 g, .int .i64 ln, .int .i64 t, .slice A n z, .string s, .slice B p y, .int .i64 pa]
/-- A node in one block, room for another one behind it. -/
structure Nd (w : World) (k m u g ln t : Int) (A : Option Addr) (n z : Nat) (s : ByteArray) (B : Option Addr) (p y : Nat) (pa : Int) (W : World) : Prop where
  src : W.heap[w.heap.size]? = some (.cells (nodeCs k m u g ln t A n z s B p y pa) 26 (0, 0))
  dst : ∃ cs : Array Value, cs.size = 10 ∧ W.heap[w.heap.size + 1]? = some (.cells cs 26 (0, 0))
  low : Below w.heap.size w W
section
variable {w W W' : World} {k m u g ln t : Int} {A : Option Addr} {n z : Nat} {s : ByteArray} {B : Option Addr} {p y : Nat} {pa : Int}
theorem Nd.on (h : Nd w k m u g ln t A n z s B p y pa W) (b : Below W.heap.size W W') : Nd w k m u g ln t A n z s B p y pa W' := by
  obtain ⟨cs, h1, h2⟩ := h.dst
  exact ⟨(b.block _ (blk_lt h.src)).trans h.src, ⟨cs, h1, (b.block _ (blk_lt h2)).trans h2⟩, bth h.low b⟩
theorem Nd.cells (h : Nd w k m u g ln t A n z s B p y pa W) (i : Nat) : W.cell? ⟨w.heap.size, i, none⟩ = (nodeCs k m u g ln t A n z s B p y pa)[i]? := blk_cell h.src i
abbrev NdC (w : World) (k m u g ln t : Int) (A : Option Addr) (n z : Nat) (s : ByteArray) (B : Option Addr) (p y : Nat) (pa : Int) (W : World) : Prop :=
  W.cell? ⟨w.heap.size, 0, none⟩ = some (.int .u8 k) ∧ W.cell? ⟨w.heap.size, 1, none⟩ = some (.int .i64 m) ∧ W.cell? ⟨w.heap.size, 2, none⟩ = some (.int .i64 u) ∧ W.cell? ⟨w.heap.size, 3, none⟩ = some (.int .i64 g) ∧ W.cell? ⟨w.heap.size, 4, none⟩ = some (.int .i64 ln) ∧ W.cell? ⟨w.heap.size, 5, none⟩ = some (.int .i64 t) ∧ W.cell? ⟨w.heap.size, 6, none⟩ = some (.slice A n z) ∧ W.cell? ⟨w.heap.size, 7, none⟩ = some (.string s) ∧ W.cell? ⟨w.heap.size, 8, none⟩ = some (.slice B p y) ∧ W.cell? ⟨w.heap.size, 9, none⟩ = some (.int .i64 pa)
theorem Nd.c (h : Nd w k m u g ln t A n z s B p y pa W) : NdC w k m u g ln t A n z s B p y pa W :=
  ⟨(h.cells 0).trans rfl, (h.cells 1).trans rfl, (h.cells 2).trans rfl, (h.cells 3).trans rfl, (h.cells 4).trans rfl, (h.cells 5).trans rfl, (h.cells 6).trans rfl, (h.cells 7).trans rfl, (h.cells 8).trans rfl, (h.cells 9).trans rfl⟩
theorem Nd.drew (h : Nd w k m u g ln t A n z s B p y pa W) : Nd w k m u g ln t A n z s B p y pa W.drew := h.on (bdr (Below.refl _ _))
theorem keepRow {W : World} {g : Nat} (cs : Array Value) : KeepBut W (W.setRow g cs) g none := ⟨by simp, fun i hi hne _ => setRow_other W g i cs hne⟩
theorem Nd.put (h : Nd w k m u g ln t A n z s B p y pa W) (cs : Array Value) (hcs : cs.size = 10) : Nd w k m u g ln t A n z s B p y pa (W.setRow (w.heap.size + 1) cs) := by
  obtain ⟨cs0, h1, h2⟩ := h.dst
  have hl := h.low.size
  exact ⟨(setRow_other W _ _ cs (by omega)).trans h.src, ⟨cs, hcs, setRow_heap W _ cs0 cs _ _ h2⟩, ⟨h.low.os, h.low.tape, h.low.output, by simpa using h.low.size, fun i hi => (setRow_other W _ i cs (by omega)).trans (h.low.block i hi)⟩⟩
end
/-- A block of one row of n cells. -/
def RowAt (W : World) (g n : Nat) : Prop := ∃ (old : Array Value) (t : TypeId), W.heap[g]? = some (.cells old t (0, 0)) ∧ old.size = n
theorem Nd.row {w W : World} {k m u g ln t : Int} {A : Option Addr} {n z : Nat} {s : ByteArray} {B : Option Addr} {p y : Nat} {pa : Int} (h : Nd w k m u g ln t A n z s B p y pa W) : RowAt W (w.heap.size + 1) 10 := by
  obtain ⟨cs, h1, h2⟩ := h.dst
  exact ⟨cs, _, h2, h1⟩
theorem Nd.all {w W : World} {k m u g ln t : Int} {A : Option Addr} {n z : Nat} {s : ByteArray} {B : Option Addr} {p y : Nat} {pa : Int} (h : Nd w k m u g ln t A n z s B p y pa W) : Nd w k m u g ln t A n z s B p y pa W ∧ NdC w k m u g ln t A n z s B p y pa W ∧ RowAt W (w.heap.size + 1) 10 := ⟨h, h.c, h.row⟩
theorem infoN : (Try.prog.info? 26).map (·.size) = some 10 := by kernel_rfl
theorem store_node (w : World) (q : Nat) (k m u g ln t : Int) (A : Option Addr) (n z : Nat) (s : ByteArray) (B : Option Addr) (p y : Nat) (pa : Int) (h : RowAt w q 10) : (storeVar 26 ⟨q, 0, none⟩ (.agg #[.int .u8 k, .int .i64 m, .int .i64 u, .int .i64 g, .int .i64 ln, .int .i64 t, .slice A n z, .string s, .slice B p y, .int .i64 pa])).run Try.prog w = .ok () (w.setRow q #[.int .u8 k, .int .i64 m, .int .i64 u, .int .i64 g, .int .i64 ln, .int .i64 t, .slice A n z, .string s, .slice B p y, .int .i64 pa]) := by
  obtain ⟨old, ty, hg, ho⟩ := h
  exact run_storeVar_row w q ty 26 old _ hg (by rw [infoN]; rfl) ho (by rw [← Array.all_toList]; rfl)
theorem wp_store_node {w : World} {q : Nat} {k m u g ln t : Int} {A : Option Addr} {n z : Nat} {s : ByteArray} {B : Option Addr} {p y : Nat} {pa : Int} {t0 t1 t3 t4 t5 t6 t7 t8 t9 t10 t11 t12 t13 t14 t15 t16 t17 t18 t19 t20 t21 t22 t23 t24 : Value} {D : List Deferred} {ty : TypeId} {ps : String} {af : Array Edge} {K : Act → World → Prop} {Q : Exit → Act → World → Prop} (h : RowAt w q 10) :
    Oper.wp Try.prog { dst := none, op := .store 26 (.tmp 2) (.tmp 25), type := ty, pos := ps, after := af, guard := none } { tmps := #[t0, t1, .pointer (some ⟨q, 0, none⟩), t3, t4, t5, t6, t7, t8, t9, t10, t11, t12, t13, t14, t15, t16, t17, t18, t19, t20, t21, t22, t23, t24, .agg #[.int .u8 k, .int .i64 m, .int .i64 u, .int .i64 g, .int .i64 ln, .int .i64 t, .slice A n z, .string s, .slice B p y, .int .i64 pa]], defers := D } w K Q = K { tmps := #[t0, t1, .pointer (some ⟨q, 0, none⟩), t3, t4, t5, t6, t7, t8, t9, t10, t11, t12, t13, t14, t15, t16, t17, t18, t19, t20, t21, t22, t23, t24, .agg #[.int .u8 k, .int .i64 m, .int .i64 u, .int .i64 g, .int .i64 ln, .int .i64 t, .slice A n z, .string s, .slice B p y, .int .i64 pa]], defers := D } (w.setRow q #[.int .u8 k, .int .i64 m, .int .i64 u, .int .i64 g, .int .i64 ln, .int .i64 t, .slice A n z, .string s, .slice B p y, .int .i64 pa]) := by
  obtain ⟨X, hX⟩ : ∃ X : Act, ({ tmps := #[t0, t1, .pointer (some ⟨q, 0, none⟩), t3, t4, t5, t6, t7, t8, t9, t10, t11, t12, t13, t14, t15, t16, t17, t18, t19, t20, t21, t22, t23, t24, .agg #[.int .u8 k, .int .i64 m, .int .i64 u, .int .i64 g, .int .i64 ln, .int .i64 t, .slice A n z, .string s, .slice B p y, .int .i64 pa]], defers := D } : Act) = X := ⟨_, rfl⟩
  have hx : X.eval (.tmp 2) = .pointer (some ⟨q, 0, none⟩) := by rw [← hX]; rfl
  have hy : X.eval (.tmp 25) = .agg #[.int .u8 k, .int .i64 m, .int .i64 u, .int .i64 g, .int .i64 ln, .int .i64 t, .slice A n z, .string s, .slice B p y, .int .i64 pa] := by rw [← hX]; rfl
  rw [hX]
  unfold Oper.wp execOp
  simp only [hx, hy, Instr.storeAt, Instr.sureAddr, Sem.run_bind, Sem.run_pure, Result.andThen_ok, store_node w q k m u g ln t A n z s B p y pa h]
  rfl
attribute [local go_sem ↓] wp_store_node
theorem row_back {W : World} {g : Nat} {cs old : Array Value} {t : TypeId} {fr : Nat × Nat} (h : (W.setRow g cs).heap[g]? = some (.cells old t fr)) : old = cs ∧ ∃ o, W.heap[g]? = some (.cells o t fr) := by
  unfold World.setRow at h
  simp only [Array.getElem?_modify, if_true] at h
  cases ho : W.heap[g]? with
  | none => rw [ho] at h; cases h
  | some o =>
    rw [ho] at h
    cases o <;> simp at h
    obtain ⟨h1, h2, h3⟩ := h
    subst h2 h3
    exact ⟨h1.symm, _, rfl⟩
theorem own_ne {W : World} {g base e size n : Nat} {v : Value} {xs : List Value} {old : Array Value} {t : TypeId} (h : W.ownsRow base e size v n xs) (hg : W.heap[g]? = some (.cells old t (0, 0))) (hne : e ≠ t) : v.ownBlock ≠ some g := by
  rcases h.2 with ⟨rfl, _⟩ | ⟨g', cap, cur, rfl, _, hgb, _⟩
  · simp [Value.ownBlock]
  · intro e'
    obtain rfl : g' = g := by simpa [Value.ownBlock] using e'
    rw [hg] at hgb
    simp at hgb
    exact hne hgb.2.symm
theorem own_setRow {W : World} {g base e size n : Nat} {v : Value} {xs : List Value} {old cs : Array Value} {t : TypeId} (h : W.ownsRow base e size v n xs) (hg : W.heap[g]? = some (.cells old t (0, 0))) (hne : e ≠ t) : (W.setRow g cs).ownsRow base e size v n xs :=
  h.kept (row := some g) ⟨rfl, rfl, rfl, by simp, fun k _ hk => setRow_other W g k cs (fun e => hk (by simp [e]))⟩ (Or.inr (own_ne h hg hne))
set_option maxHeartbeats 8000000 in
set_option maxRecDepth 100000 in
theorem twinNode (k m u g ln t : Int) (A : Option Addr) (z : Nat) (l : List Int) (s : ByteArray) (B : Option Addr) (y : Nat) (es : List ES) (pa : Int) (w : World)
    (hr : Kd.C (Kd.int .u8) w A l.length l) (hc : l.length ≤ z) (hl : l.length + 1 ≤ 1000000) (hr' : Kd.C k58 w B es.length es) (hc' : es.length ≤ y) (hl' : es.length + 1 ≤ 1000000) :
    Calls Try.prog 10 #[.agg #[.int .u8 k, .int .i64 m, .int .i64 u, .int .i64 g, .int .i64 ln, .int .i64 t, .slice A l.length z, .string s, .slice B es.length y, .int .i64 pa]] w
      fun e w' => ∃ b1 g1 c1 b2 g2 c2, e = .returned (.agg #[.int .u8 k, .int .i64 m, .int .i64 u, .int .i64 g, .int .i64 ln, .int .i64 t, .slice (some ⟨g1, 0, none⟩) l.length c1, .string s, .slice (some ⟨g2, 0, none⟩) es.length c2, .int .i64 pa]) ∧
        w'.ownsRow b1 5 1 (.slice (some ⟨g1, 0, none⟩) (l.length + 1) c1) (l.length + 1) (bys (l ++ [77])) ∧
        w'.ownsRow b2 58 2 (.slice (some ⟨g2, 0, none⟩) (es.length + 1) c2) (es.length + 1) (ens (es ++ [spareE])) ∧ Below w.heap.size w w' := by
  have HR := Lib.hid hr
  have HE := Lib.hid hr'
  clear hr hr'
  have hN : Nd w k m u g ln t A l.length z s B es.length y pa ((w.alloc (.cells (nodeCs k m u g ln t A l.length z s B es.length y pa) 26)).alloc (.cells #[.int .u8 0, .int .i64 0, .int .i64 0, .int .i64 0, .int .i64 0, .int .i64 0, .slice none 0 0, .string ⟨#[]⟩, .slice none 0 0, .int .i64 0] 26)) := by
    refine ⟨(Lib.alloc_old _ _ _ (by simp)).trans (World.alloc_heap_new w _), ⟨#[.int .u8 0, .int .i64 0, .int .i64 0, .int .i64 0, .int .i64 0, .int .i64 0, .slice none 0 0, .string ⟨#[]⟩, .slice none 0 0, .int .i64 0], rfl, ?_⟩, bal (bal (Below.refl _ _) _) _⟩
    have := World.alloc_heap_new (w.alloc (.cells (nodeCs k m u g ln t A l.length z s B es.length y pa) 26)) (.cells #[.int .u8 0, .int .i64 0, .int .i64 0, .int .i64 0, .int .i64 0, .int .i64 0, .slice none 0 0, .string ⟨#[]⟩, .slice none 0 0, .int .i64 0] 26)
    rw [World.size_alloc] at this
    exact this
  have HH := Lib.hid hN
  have hq := hN.c
  unfold NdC at hq
  obtain ⟨q0, q1, q2, q3, q4, q5, q6, q7, q8, q9⟩ := hq
  clear hN
  go_enter Try.func10, Try.ntmps10
  go_wp2_with fail
  go_region_held3 (fun w' => Nd w k m u g ln t A l.length z s B es.length y pa w' ∧ (w'.cell? ⟨w.heap.size, 0, none⟩ = some (.int .u8 k) ∧ w'.cell? ⟨w.heap.size, 1, none⟩ = some (.int .i64 m) ∧ w'.cell? ⟨w.heap.size, 2, none⟩ = some (.int .i64 u) ∧ w'.cell? ⟨w.heap.size, 3, none⟩ = some (.int .i64 g) ∧ w'.cell? ⟨w.heap.size, 4, none⟩ = some (.int .i64 ln) ∧ w'.cell? ⟨w.heap.size, 5, none⟩ = some (.int .i64 t) ∧ w'.cell? ⟨w.heap.size, 6, none⟩ = some (.slice A l.length z) ∧ w'.cell? ⟨w.heap.size, 7, none⟩ = some (.string s) ∧ w'.cell? ⟨w.heap.size, 8, none⟩ = some (.slice B es.length y) ∧ w'.cell? ⟨w.heap.size, 9, none⟩ = some (.int .i64 pa)) ∧ RowAt w' (w.heap.size + 1) 10) (with_reducible first | assumption | exact Nd.all ((HH.out.drew).on hbq) | exact Nd.all ((HH.out).on hbq) | exact Nd.all (Nd.on (show Nd w k m u g ln t A l.length z s B es.length y pa _ ∧ _ from by assumption).1 hbr) | exact Nd.all (Nd.on (show Nd w k m u g ln t A l.length z s B es.length y pa _ ∧ _ from by assumption).1 hbq) | exact Nd.all HH.out.drew | exact Nd.all HH.out | exact Nd.all (Nd.put (show Nd w k m u g ln t A l.length z s B es.length y pa _ ∧ _ from by assumption).1 _ rfl)) ((first
    | (go_at_call 23; with_reducible refine (twinBytes A z l _ (Kd.C_below HR.out (by first | exact HH.out.drew.low | exact HH.out.low | exact (show Nd w k m u g ln t A l.length z s B es.length y pa _ ∧ _ from by assumption).1.low)) hc (by omega)).mono ?_; rintro e w' ⟨g1, c1, rfl, ho1, hbq⟩)
    | (go_at_call 24; with_reducible refine (twinEntries B y es _ (Kd.C_below HE.out (by first | exact (show Nd w k m u g ln t A l.length z s B es.length y pa _ ∧ _ from by assumption).1.low | exact HH.out.drew.low | exact HH.out.low)) hc' (by omega)).mono ?_; rintro e w'' ⟨g2, c2, rfl, ho2, hbr⟩)))
  go_wp2
  have hN := (show Nd w k m u g ln t A l.length z s B es.length y pa (w''.setRow (w.heap.size + 1) _) ∧ _ from by assumption).1
  obtain ⟨cs, _, hcs⟩ := hN.dst
  obtain ⟨rfl, o, ho⟩ := row_back hcs
  refine bodyPost_ret (results_cell_row rfl _ _ (w.heap.size + 1) 26 _ (0, 0) _ rfl hcs Try.underlying26 rfl infoN) rfl ?_
  exact ⟨_, g1, c1, _, g2, c2, rfl, own_setRow (pw_own_below ho1 hbr) ho (by decide), own_setRow ho2 ho (by decide), hN.low⟩
/-- Two nodes, each in one block. -/
structure N2 (w : World) (k m u g ln t : Int) (A : Option Addr) (n z : Nat) (s : ByteArray) (B : Option Addr) (p y : Nat) (pa : Int) (g1 c1 g2 c2 : Nat) (W : World) : Prop where
  a : W.heap[w.heap.size]? = some (.cells #[.int .u8 k, .int .i64 m, .int .i64 u, .int .i64 g, .int .i64 ln, .int .i64 t, .slice (some ⟨g1, 0, none⟩) n c1, .string s, .slice (some ⟨g2, 0, none⟩) p c2, .int .i64 pa] 26 (0, 0))
  b : W.heap[w.heap.size + 1]? = some (.cells #[.int .u8 k, .int .i64 m, .int .i64 u, .int .i64 g, .int .i64 ln, .int .i64 t, .slice A n z, .string s, .slice B p y, .int .i64 pa] 26 (0, 0))
  low : Below w.heap.size w W
section
variable {w W W' w' : World} {k m u g ln t : Int} {A : Option Addr} {n z : Nat} {s : ByteArray} {B : Option Addr} {p y : Nat} {pa : Int} {g1 c1 g2 c2 : Nat}
theorem N2.on (h : N2 w k m u g ln t A n z s B p y pa g1 c1 g2 c2 W) (b : Below W.heap.size W W') : N2 w k m u g ln t A n z s B p y pa g1 c1 g2 c2 W' :=
  ⟨(b.block _ (blk_lt h.a)).trans h.a, (b.block _ (blk_lt h.b)).trans h.b, bth h.low b⟩
theorem N2.drew (h : N2 w k m u g ln t A n z s B p y pa g1 c1 g2 c2 W) : N2 w k m u g ln t A n z s B p y pa g1 c1 g2 c2 W.drew := h.on (bdr (Below.refl _ _))
theorem N2.all (h : N2 w k m u g ln t A n z s B p y pa g1 c1 g2 c2 w') : N2 w k m u g ln t A n z s B p y pa g1 c1 g2 c2 w' ∧ (w'.cell? ⟨w.heap.size, 0, none⟩ = some (.int .u8 k) ∧ w'.cell? ⟨w.heap.size, 1, none⟩ = some (.int .i64 m) ∧ w'.cell? ⟨w.heap.size, 2, none⟩ = some (.int .i64 u) ∧ w'.cell? ⟨w.heap.size, 3, none⟩ = some (.int .i64 g) ∧ w'.cell? ⟨w.heap.size, 4, none⟩ = some (.int .i64 ln) ∧ w'.cell? ⟨w.heap.size, 5, none⟩ = some (.int .i64 t) ∧ w'.cell? ⟨w.heap.size, 6, none⟩ = some (.slice (some ⟨g1, 0, none⟩) n c1) ∧ w'.cell? ⟨w.heap.size, 7, none⟩ = some (.string s) ∧ w'.cell? ⟨w.heap.size, 8, none⟩ = some (.slice (some ⟨g2, 0, none⟩) p c2) ∧ w'.cell? ⟨w.heap.size, 9, none⟩ = some (.int .i64 pa)) ∧ (w'.cell? ⟨w.heap.size + 1, 0, none⟩ = some (.int .u8 k) ∧ w'.cell? ⟨w.heap.size + 1, 1, none⟩ = some (.int .i64 m) ∧ w'.cell? ⟨w.heap.size + 1, 2, none⟩ = some (.int .i64 u) ∧ w'.cell? ⟨w.heap.size + 1, 3, none⟩ = some (.int .i64 g) ∧ w'.cell? ⟨w.heap.size + 1, 4, none⟩ = some (.int .i64 ln) ∧ w'.cell? ⟨w.heap.size + 1, 5, none⟩ = some (.int .i64 t) ∧ w'.cell? ⟨w.heap.size + 1, 6, none⟩ = some (.slice A n z) ∧ w'.cell? ⟨w.heap.size + 1, 7, none⟩ = some (.string s) ∧ w'.cell? ⟨w.heap.size + 1, 8, none⟩ = some (.slice B p y) ∧ w'.cell? ⟨w.heap.size + 1, 9, none⟩ = some (.int .i64 pa)) :=
  ⟨h, ⟨(blk_cell h.a 0).trans rfl, (blk_cell h.a 1).trans rfl, (blk_cell h.a 2).trans rfl, (blk_cell h.a 3).trans rfl, (blk_cell h.a 4).trans rfl, (blk_cell h.a 5).trans rfl, (blk_cell h.a 6).trans rfl, (blk_cell h.a 7).trans rfl, (blk_cell h.a 8).trans rfl, (blk_cell h.a 9).trans rfl⟩, ⟨(blk_cell h.b 0).trans rfl, (blk_cell h.b 1).trans rfl, (blk_cell h.b 2).trans rfl, (blk_cell h.b 3).trans rfl, (blk_cell h.b 4).trans rfl, (blk_cell h.b 5).trans rfl, (blk_cell h.b 6).trans rfl, (blk_cell h.b 7).trans rfl, (blk_cell h.b 8).trans rfl, (blk_cell h.b 9).trans rfl⟩⟩
end
set_option maxHeartbeats 8000000 in
set_option maxRecDepth 100000 in
theorem leftNode (k m u g ln t : Int) (A : Option Addr) (z : Nat) (l : List Int) (s : ByteArray) (B : Option Addr) (y : Nat) (es : List ES) (pa : Int) (b1 g1 c1 b2 g2 c2 : Nat) (w : World)
    (hr : Kd.C (Kd.int .u8) w A l.length l) (hc : l.length ≤ z) (hr' : Kd.C k58 w B es.length es) (hc' : es.length ≤ y)
    (ho1 : w.ownsRow b1 5 1 (.slice (some ⟨g1, 0, none⟩) (l.length + 1) c1) (l.length + 1) (bys (l ++ [77])))
    (ho2 : w.ownsRow b2 58 2 (.slice (some ⟨g2, 0, none⟩) (es.length + 1) c2) (es.length + 1) (ens (es ++ [spareE]))) :
    Calls Try.prog 15 #[.agg #[.int .u8 k, .int .i64 m, .int .i64 u, .int .i64 g, .int .i64 ln, .int .i64 t, .slice (some ⟨g1, 0, none⟩) l.length c1, .string s, .slice (some ⟨g2, 0, none⟩) es.length c2, .int .i64 pa], .agg #[.int .u8 k, .int .i64 m, .int .i64 u, .int .i64 g, .int .i64 ln, .int .i64 t, .slice A l.length z, .string s, .slice B es.length y, .int .i64 pa]] w fun e w' => e = .returned (.bool true) ∧ Below w.heap.size w w' := by
  have HR := Lib.hid hr
  have HE := Lib.hid hr'
  have HO1 := Lib.hid ho1
  have HO2 := Lib.hid ho2
  clear hr hr' ho1 ho2
  have hN : N2 w k m u g ln t A l.length z s B es.length y pa g1 c1 g2 c2 ((w.alloc (.cells #[.int .u8 k, .int .i64 m, .int .i64 u, .int .i64 g, .int .i64 ln, .int .i64 t, .slice (some ⟨g1, 0, none⟩) l.length c1, .string s, .slice (some ⟨g2, 0, none⟩) es.length c2, .int .i64 pa] 26)).alloc (.cells #[.int .u8 k, .int .i64 m, .int .i64 u, .int .i64 g, .int .i64 ln, .int .i64 t, .slice A l.length z, .string s, .slice B es.length y, .int .i64 pa] 26)) := by
    refine ⟨(Lib.alloc_old _ _ _ (by simp)).trans (World.alloc_heap_new w _), ?_, bal (bal (Below.refl _ _) _) _⟩
    have := World.alloc_heap_new (w.alloc (.cells #[.int .u8 k, .int .i64 m, .int .i64 u, .int .i64 g, .int .i64 ln, .int .i64 t, .slice (some ⟨g1, 0, none⟩) l.length c1, .string s, .slice (some ⟨g2, 0, none⟩) es.length c2, .int .i64 pa] 26)) (.cells #[.int .u8 k, .int .i64 m, .int .i64 u, .int .i64 g, .int .i64 ln, .int .i64 t, .slice A l.length z, .string s, .slice B es.length y, .int .i64 pa] 26)
    rw [World.size_alloc] at this
    exact this
  have HH := Lib.hid hN
  clear hN
  go_enter Try.func15, Try.ntmps15
  go_wp2_with fail
  obtain ⟨W2, hW2⟩ : ∃ W2, ((w.alloc (.cells #[.int .u8 k, .int .i64 m, .int .i64 u, .int .i64 g, .int .i64 ln, .int .i64 t, .slice (some ⟨g1, 0, none⟩) l.length c1, .string s, .slice (some ⟨g2, 0, none⟩) es.length c2, .int .i64 pa] 26)).alloc (.cells #[.int .u8 k, .int .i64 m, .int .i64 u, .int .i64 g, .int .i64 ln, .int .i64 t, .slice A l.length z, .string s, .slice B es.length y, .int .i64 pa] 26)) = W2 := ⟨_, rfl⟩
  rw [hW2] at HH ⊢
  clear hW2
  refine (leftBytes g1 c1 b1 A z l _ (Kd.C_below HR.out HH.out.low) hc (pw_own_below HO1.out HH.out.low)).mono ?_
  rintro e w3 ⟨rfl, hb3⟩
  have h3 := HH.out.on hb3
  have H3 := Lib.hid h3
  obtain ⟨_, ⟨a0, a1, a2, a3, a4, a5, a6, a7, a8, a9⟩, d0, d1, d2, d3, d4, d5, d6, d7, d8, d9⟩ := h3.all
  clear hb3 h3
  go_wp2_with fail
  refine (leftEntries g2 c2 b2 B y es _ (Kd.C_below HE.out H3.out.low) hc' (pw_own_below HO2.out H3.out.low)).mono ?_
  rintro e w4 ⟨rfl, hb4⟩
  have h4 := H3.out.on hb4
  have H4 := Lib.hid h4
  clear a0 a1 a2 a3 a4 a5 a6 a7 a8 a9 d0 d1 d2 d3 d4 d5 d6 d7 d8 d9
  obtain ⟨_, ⟨a0, a1, a2, a3, a4, a5, a6, a7, a8, a9⟩, d0, d1, d2, d3, d4, d5, d6, d7, d8, d9⟩ := h4.all
  clear hb4 h4
  go_wp2
  go_ret
  exact ⟨rfl, H4.out.low⟩
end Go.Proofs.Ytkgppbdelggncaa.H

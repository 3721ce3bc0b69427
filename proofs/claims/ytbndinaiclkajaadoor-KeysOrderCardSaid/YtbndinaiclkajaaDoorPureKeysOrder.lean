/- KeysOrder: walked by hand. -/
import Derived.Test.YtbndinaiclkajaaDoorKAlive
set_option linter.unusedVariables false
set_option linter.unusedSimpArgs false
namespace Go.Proofs.YtbndinaiclkajaaDoor.Pure
open Go.RowKit Go.Proofs.YtbndinaiclkajaaDoor.H Go.Proofs.YtbndinaiclkajaaDoorW.PrintWords Go.Proofs.YtbndinaiclkajaaDoor.K
structure Two (w : World) (g : Nat) (nu fo bl re : Bool) (f t : Int) (c : Int) (A B C : ByteArray) (W : World) : Prop where
  one : W.heap[g]? = some (.cells #[.bool nu, .bool fo, .bool bl, .bool re, .int .i64 f, .int .i64 t, .int .u8 c] 23 (0, 0))
  two : W.heap[g + 1]? = some (.cells #[.string A, .string B, .string C] 34 (0, 0))
  low : Below w.heap.size w W
theorem Two.on {w W W' : World} {g : Nat} {nu fo bl re : Bool} {f t : Int} {c : Int} {A B C : ByteArray} (h : Two w g nu fo bl re f t c A B C W) (k : Below W.heap.size W W') : Two w g nu fo bl re f t c A B C W' :=
  ⟨(k.block g (blk_lt h.one)).trans h.one, (k.block (g + 1) (blk_lt h.two)).trans h.two, bth h.low k⟩
theorem Two.cells {w W : World} {g : Nat} {nu fo bl re : Bool} {f t : Int} {c : Int} {A B C : ByteArray} (h : Two w g nu fo bl re f t c A B C W) :
    W.cell? ⟨g, 0, none⟩ = some (.bool nu) ∧ W.cell? ⟨g, 1, none⟩ = some (.bool fo) ∧ W.cell? ⟨g, 2, none⟩ = some (.bool bl) ∧ W.cell? ⟨g, 3, none⟩ = some (.bool re) ∧
    W.cell? ⟨g, 4, none⟩ = some (.int .i64 f) ∧ W.cell? ⟨g, 5, none⟩ = some (.int .i64 t) ∧ W.cell? ⟨g, 6, none⟩ = some (.int .u8 c) ∧
    W.cell? ⟨g + 1, 0, none⟩ = some (.string A) ∧ W.cell? ⟨g + 1, 1, none⟩ = some (.string B) ∧ W.cell? ⟨g + 1, 2, none⟩ = some (.string C) :=
  ⟨(blk_cell h.one 0).trans rfl, (blk_cell h.one 1).trans rfl, (blk_cell h.one 2).trans rfl, (blk_cell h.one 3).trans rfl, (blk_cell h.one 4).trans rfl, (blk_cell h.one 5).trans rfl, (blk_cell h.one 6).trans rfl,
    (blk_cell h.two 0).trans rfl, (blk_cell h.two 1).trans rfl, (blk_cell h.two 2).trans rfl⟩
set_option maxHeartbeats 4000000 in
set_option maxRecDepth 100000 in
theorem KeysOrder_walk (a0_0 : Bool) (a0_1 : Bool) (a0_2 : Bool) (a0_3 : Bool) (a0_4 : Int) (a0_5 : Int) (a0_6 : Int) (a1_0 : ByteArray) (a1_1 : ByteArray) (a1_2 : ByteArray) (W : World) (ok0_4 : (Lit.int .i64 a0_4).wf = true) (ok0_5 : (Lit.int .i64 a0_5).wf = true) (ok0_6 : (Lit.int .u8 a0_6).wf = true) (ok1_0 : a1_0.size ≤ 140737488351232) (ok1_1 : a1_1.size ≤ 140737488351232) (ok1_2 : a1_2.size ≤ 140737488351232) :
    Calls Tryd.prog 7 #[.agg #[.bool a0_0, .bool a0_1, .bool a0_2, .bool a0_3, .int .i64 a0_4, .int .i64 a0_5, .int .u8 a0_6], .agg #[.string a1_0, .string a1_1, .string a1_2]] W fun e W' => e = .returned (.bool true) ∧ Below W.heap.size W W' := by
  have hc := Lib.hid (byte_ok ok0_6)
  clear ok0_4 ok0_5 ok0_6
  have hw1 : wrap64 ((a1_0.size : Int) + (a1_1.size : Int)) = (a1_0.size : Int) + (a1_1.size : Int) := by unfold wrap64; omega
  have hw2 : wrap64 ((a1_0.size : Int) + (a1_1.size : Int) + (a1_2.size : Int)) = (a1_0.size : Int) + (a1_1.size : Int) + (a1_2.size : Int) := by unfold wrap64; omega
  have hO := Lib.hid (Ord.cmpO a0_0 a0_1 a0_2 a0_3 a0_4 a0_5 (Q.u8 a0_6))
  go_enter Tryd.func7, Tryd.ntmps7
  go_wp2_with fail
  refine (Q.toolchestlaw05_alive.calls 8 true _ alive8).mono ?_
  rintro e w1 ⟨rfl, hb1⟩
  have h1 : Two W W.heap.size a0_0 a0_1 a0_2 a0_3 a0_4 a0_5 a0_6 a1_0 a1_1 a1_2 w1 :=
    ⟨(hb1.block W.heap.size (by simp; omega)).trans ((Lib.alloc_old _ _ _ (by simp)).trans (World.alloc_heap_new W _)), by
      refine (hb1.block (W.heap.size + 1) (by simp)).trans ?_
      have := World.alloc_heap_new (W.alloc (.cells #[.bool a0_0, .bool a0_1, .bool a0_2, .bool a0_3, .int .i64 a0_4, .int .i64 a0_5, .int .u8 a0_6] 23)) (.cells #[.string a1_0, .string a1_1, .string a1_2] 34)
      rw [World.size_alloc] at this
      exact this, bth (bal (bal (Below.refl _ _) _) _) hb1⟩
  clear hb1
  have H1 := Lib.hid h1
  obtain ⟨d0, d1, d2, d3, d4, d5, d6, e0, e1, e2⟩ := h1.cells
  clear h1
  by_cases hbig : (a1_0.size : Int) + (a1_1.size : Int) + (a1_2.size : Int) > 50000
  · go_wp2_with fail
    refine (Q.toolchestlaw05_alive.calls 8 true _ alive8).mono ?_
    rintro e w2 ⟨rfl, hb2⟩
    have HB := Lib.hid (bth H1.out.low hb2)
    clear hb2
    go_wp2
    all_goals (go_ret; exact ⟨rfl, HB.out⟩)
  · have s0 : a1_0.size ≤ 4294967280 := by omega
    have s1 : a1_1.size ≤ 4294967280 := by omega
    have s2 : a1_2.size ≤ 4294967280 := by omega
    have hab := Lib.hid (comp_f (nu := a0_0) (fo := a0_1) (bl := a0_2) (re := a0_3) (f := a0_4) (t := a0_5) hc.out s0 s1)
    have hbc := Lib.hid (comp_f (nu := a0_0) (fo := a0_1) (bl := a0_2) (re := a0_3) (f := a0_4) (t := a0_5) hc.out s1 s2)
    have hac := Lib.hid (comp_f (nu := a0_0) (fo := a0_1) (bl := a0_2) (re := a0_3) (f := a0_4) (t := a0_5) hc.out s0 s2)
    have x1 := hO.out.one a1_0.data.toList a1_1.data.toList
    have x2 := hO.out.one a1_1.data.toList a1_2.data.toList
    have x3 := hO.out.one a1_0.data.toList a1_2.data.toList
    have y1 := hO.out.go a1_0.data.toList a1_1.data.toList a1_2.data.toList
    have y2 := hO.out.go a1_2.data.toList a1_1.data.toList a1_0.data.toList
    rw [hO.out.back a1_1.data.toList a1_2.data.toList, hO.out.back a1_0.data.toList a1_1.data.toList, hO.out.back a1_0.data.toList a1_2.data.toList] at y2
    have y3 := hO.out.alike (a := a1_0.data.toList) (b := a1_1.data.toList)
    have y4 := hO.out.alike (a := a1_1.data.toList) (b := a1_2.data.toList)
    have z3 : cmpO a0_0 a0_1 a0_2 a0_3 a0_4 a0_5 (Q.u8 a0_6) a1_0.data.toList a1_1.data.toList = 0 → cmpO a0_0 a0_1 a0_2 a0_3 a0_4 a0_5 (Q.u8 a0_6) a1_0.data.toList a1_2.data.toList = cmpO a0_0 a0_1 a0_2 a0_3 a0_4 a0_5 (Q.u8 a0_6) a1_1.data.toList a1_2.data.toList := fun e => (y3 e _).1
    have z4 : cmpO a0_0 a0_1 a0_2 a0_3 a0_4 a0_5 (Q.u8 a0_6) a1_1.data.toList a1_2.data.toList = 0 → cmpO a0_0 a0_1 a0_2 a0_3 a0_4 a0_5 (Q.u8 a0_6) a1_0.data.toList a1_1.data.toList = cmpO a0_0 a0_1 a0_2 a0_3 a0_4 a0_5 (Q.u8 a0_6) a1_0.data.toList a1_2.data.toList := fun e => (y4 e _).2
    clear y3 y4
    generalize cmpO a0_0 a0_1 a0_2 a0_3 a0_4 a0_5 (Q.u8 a0_6) a1_0.data.toList a1_1.data.toList = ab at hab x1 y1 y2 z3 z4
    generalize cmpO a0_0 a0_1 a0_2 a0_3 a0_4 a0_5 (Q.u8 a0_6) a1_1.data.toList a1_2.data.toList = bc at hbc x2 y1 y2 z3 z4
    generalize cmpO a0_0 a0_1 a0_2 a0_3 a0_4 a0_5 (Q.u8 a0_6) a1_0.data.toList a1_2.data.toList = ac at hac x3 y1 y2 z3 z4
    have HY := Lib.hid (And.intro x1 (And.intro x2 (And.intro x3 (And.intro y1 (And.intro y2 (And.intro z3 z4))))))
    clear x1 x2 x3 y1 y2 z3 z4
    go_wp2_with fail
    refine (Q.keys_Compare.calls a0_0 a0_1 a0_2 a0_3 a0_4 a0_5 a0_6 a1_0 a1_1 ab _ hab.out).mono ?_
    rintro e w2 ⟨rfl, hb2⟩
    have h2 := H1.out.on hb2
    have H2 := Lib.hid h2
    clear hb2 d0 d1 d2 d3 d4 d5 d6 e0 e1 e2
    obtain ⟨d0, d1, d2, d3, d4, d5, d6, e0, e1, e2⟩ := h2.cells
    clear h2
    go_wp2_with fail
    refine (Q.keys_Compare.calls a0_0 a0_1 a0_2 a0_3 a0_4 a0_5 a0_6 a1_1 a1_2 bc _ hbc.out).mono ?_
    rintro e w3 ⟨rfl, hb3⟩
    have h3 := H2.out.on hb3
    have H3 := Lib.hid h3
    clear hb3 d0 d1 d2 d3 d4 d5 d6 e0 e1 e2
    obtain ⟨d0, d1, d2, d3, d4, d5, d6, e0, e1, e2⟩ := h3.cells
    clear h3
    go_wp2_with fail
    refine (Q.keys_Compare.calls a0_0 a0_1 a0_2 a0_3 a0_4 a0_5 a0_6 a1_0 a1_2 ac _ hac.out).mono ?_
    rintro e w4 ⟨rfl, hb4⟩
    have HB := Lib.hid (bth H3.out.low hb4)
    clear hb4 d0 d1 d2 d3 d4 d5 d6 e0 e1 e2 hab hbc hac
    obtain ⟨x1, x2, x3, y⟩ := HY.out
    rcases x1 with rfl | rfl | rfl <;> rcases x2 with rfl | rfl | rfl <;> rcases x3 with rfl | rfl | rfl
    all_goals first
      | (exfalso; obtain ⟨y1, y2, z3, z4⟩ := y; clear hw1 hw2 hbig s0 s1 s2 ok1_0 ok1_1 ok1_2; simp at y1 y2 z3 z4; done)
      | (exfalso; obtain ⟨y1, y2, z3, z4⟩ := y; clear hw1 hw2 hbig s0 s1 s2 ok1_0 ok1_1 ok1_2; omega)
      | (clear y HY
         go_wp2
         all_goals (go_ret; exact ⟨rfl, HB.out⟩))
end Go.Proofs.YtbndinaiclkajaaDoor.Pure

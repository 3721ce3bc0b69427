/- keys.Compare: two lines by an order. -/
import Derived.Test.YtbndinaiclkajaaDoorKBy
set_option linter.unusedVariables false
set_option linter.unusedSimpArgs false
namespace Go.Proofs.YtbndinaiclkajaaDoor.K
open Go.RowKit Go.Proofs.YtbndinaiclkajaaDoor.H Go.Proofs.YtbndinaiclkajaaDoorW.PrintWords

theorem u8_of (c : UInt8) : Q.u8 (c.toNat : Int) = c := by unfold Q.u8; simp
/-- The order's block, its cells, and what lay below. -/
structure Held (w : World) (g : Nat) (nu fo bl re : Bool) (f t : Int) (c : UInt8) (w' : World) : Prop where
  at_ : w'.heap[g]? = some (ordObj nu fo bl re f t c)
  low : Below w.heap.size w w'
theorem Held.cells {w w' : World} {g : Nat} {nu fo bl re : Bool} {f t : Int} {c : UInt8} (h : Held w g nu fo bl re f t c w') :
    w'.cell? ⟨g, 0, none⟩ = some (.bool nu) ∧ w'.cell? ⟨g, 1, none⟩ = some (.bool fo) ∧ w'.cell? ⟨g, 2, none⟩ = some (.bool bl) ∧ w'.cell? ⟨g, 3, none⟩ = some (.bool re) ∧
    w'.cell? ⟨g, 4, none⟩ = some (.int .i64 f) ∧ w'.cell? ⟨g, 5, none⟩ = some (.int .i64 t) ∧ w'.cell? ⟨g, 6, none⟩ = some (.int .u8 (c.toNat : Int)) := by
  obtain ⟨h0, h1, h2, h3⟩ := ord_cells7 h.at_
  obtain ⟨h4, h5, h6⟩ := ord_cells h.at_
  exact ⟨h0, h1, h2, h3, h4, h5, h6⟩
theorem Held.all {w w' : World} {g : Nat} {nu fo bl re : Bool} {f t : Int} {c : UInt8} (h : Held w g nu fo bl re f t c w') :
    Held w g nu fo bl re f t c w' ∧ w'.cell? ⟨g, 0, none⟩ = some (.bool nu) ∧ w'.cell? ⟨g, 1, none⟩ = some (.bool fo) ∧ w'.cell? ⟨g, 2, none⟩ = some (.bool bl) ∧ w'.cell? ⟨g, 3, none⟩ = some (.bool re) ∧
    w'.cell? ⟨g, 4, none⟩ = some (.int .i64 f) ∧ w'.cell? ⟨g, 5, none⟩ = some (.int .i64 t) ∧ w'.cell? ⟨g, 6, none⟩ = some (.int .u8 (c.toNat : Int)) := ⟨h, h.cells⟩
theorem Held.on {w w1 w2 : World} {g : Nat} {nu fo bl re : Bool} {f t : Int} {c : UInt8} (h : Held w g nu fo bl re f t c w1) (k : Below w1.heap.size w1 w2) : Held w g nu fo bl re f t c w2 :=
  ⟨(k.block g (Array.getElem?_eq_some_iff.1 h.at_).1).trans h.at_, bth h.low k⟩
theorem Held.heap {w w1 : World} {g : Nat} {nu fo bl re : Bool} {f t : Int} {c : UInt8} (h : Held w g nu fo bl re f t c w1) : w1.heap[g]? = some (ordObj nu fo bl re f t c) := h.at_
theorem Held.drew {w w1 : World} {g : Nat} {nu fo bl re : Bool} {f t : Int} {c : UInt8} (h : Held w g nu fo bl re f t c w1) : Held w g nu fo bl re f t c w1.drew := ⟨h.at_, bdr h.low⟩
theorem Held.keep {w w1 w2 : World} {g : Nat} {nu fo bl re : Bool} {f t : Int} {c : UInt8} (h : Held w g nu fo bl re f t c w1 ∧ w1.cell? ⟨g, 0, none⟩ = some (.bool nu) ∧ w1.cell? ⟨g, 1, none⟩ = some (.bool fo) ∧ w1.cell? ⟨g, 2, none⟩ = some (.bool bl) ∧ w1.cell? ⟨g, 3, none⟩ = some (.bool re) ∧ w1.cell? ⟨g, 4, none⟩ = some (.int .i64 f) ∧ w1.cell? ⟨g, 5, none⟩ = some (.int .i64 t) ∧ w1.cell? ⟨g, 6, none⟩ = some (.int .u8 (c.toNat : Int))) (k : Below w1.heap.size w1 w2) :
    Held w g nu fo bl re f t c w2 ∧ w2.cell? ⟨g, 0, none⟩ = some (.bool nu) ∧ w2.cell? ⟨g, 1, none⟩ = some (.bool fo) ∧ w2.cell? ⟨g, 2, none⟩ = some (.bool bl) ∧ w2.cell? ⟨g, 3, none⟩ = some (.bool re) ∧ w2.cell? ⟨g, 4, none⟩ = some (.int .i64 f) ∧ w2.cell? ⟨g, 5, none⟩ = some (.int .i64 t) ∧ w2.cell? ⟨g, 6, none⟩ = some (.int .u8 (c.toNat : Int)) := (h.1.on k).all
theorem Held.keepD {w w1 w2 : World} {g : Nat} {nu fo bl re : Bool} {f t : Int} {c : UInt8} (h : Held w g nu fo bl re f t c w1 ∧ w1.cell? ⟨g, 0, none⟩ = some (.bool nu) ∧ w1.cell? ⟨g, 1, none⟩ = some (.bool fo) ∧ w1.cell? ⟨g, 2, none⟩ = some (.bool bl) ∧ w1.cell? ⟨g, 3, none⟩ = some (.bool re) ∧ w1.cell? ⟨g, 4, none⟩ = some (.int .i64 f) ∧ w1.cell? ⟨g, 5, none⟩ = some (.int .i64 t) ∧ w1.cell? ⟨g, 6, none⟩ = some (.int .u8 (c.toNat : Int))) :
    Held w g nu fo bl re f t c w1.drew ∧ w1.drew.cell? ⟨g, 0, none⟩ = some (.bool nu) ∧ w1.drew.cell? ⟨g, 1, none⟩ = some (.bool fo) ∧ w1.drew.cell? ⟨g, 2, none⟩ = some (.bool bl) ∧ w1.drew.cell? ⟨g, 3, none⟩ = some (.bool re) ∧ w1.drew.cell? ⟨g, 4, none⟩ = some (.int .i64 f) ∧ w1.drew.cell? ⟨g, 5, none⟩ = some (.int .i64 t) ∧ w1.drew.cell? ⟨g, 6, none⟩ = some (.int .u8 (c.toNat : Int)) := h.1.drew.all
theorem byO_neg (nu fo bl : Bool) (x y : List UInt8) : wrap64 (- byO nu fo bl x y) = - byO nu fo bl x y := by
  rcases (Ord.byO nu fo bl).one x y with h | h | h <;> rw [h] <;> (unfold wrap64; omega)
theorem keyO_len (f t : Int) (c : UInt8) (l : List UInt8) : (keyO f t c l).length ≤ l.length := by
  unfold keyO
  split
  · split
    · exact Nat.le_refl _
    · unfold keyP cutL
      rw [List.length_take, List.length_drop]
      omega
  · exact Nat.zero_le _
set_option maxHeartbeats 4000000 in
set_option maxRecDepth 100000 in
theorem comp_walk (nu fo bl re : Bool) (f t : Int) (c : UInt8) (a b : ByteArray) (ha : a.size ≤ 4294967280) (hb : b.size ≤ 4294967280) (w : World) :
    Calls Tryd.prog 19 #[.agg #[.bool nu, .bool fo, .bool bl, .bool re, .int .i64 f, .int .i64 t, .int .u8 (c.toNat : Int)], .string a, .string b] w fun e w' => e = .returned (.int .i64 (cmpO nu fo bl re f t c a.data.toList b.data.toList)) ∧ Below w.heap.size w w' := by
  have hKa : Q.keys_Key.f nu fo bl re f t (c.toNat : Int) a = some (bs (keyO f t c a.data.toList)) := by
    unfold Q.keys_Key.f
    rw [if_pos ⟨⟨by omega, by have := c.toNat_lt; omega⟩, ha⟩, u8_of]
  have hKb : Q.keys_Key.f nu fo bl re f t (c.toNat : Int) b = some (bs (keyO f t c b.data.toList)) := by
    unfold Q.keys_Key.f
    rw [if_pos ⟨⟨by omega, by have := c.toNat_lt; omega⟩, hb⟩, u8_of]
  have hsa : (bs (keyO f t c a.data.toList)).size ≤ 4294967280 := by
    rw [bs_size]; have := keyO_len f t c a.data.toList; rw [← Lib.size_eq] at this; omega
  have hsb : (bs (keyO f t c b.data.toList)).size ≤ 4294967280 := by
    rw [bs_size]; have := keyO_len f t c b.data.toList; rw [← Lib.size_eq] at this; omega
  have hneg := Lib.hid (byO_neg nu fo bl (keyO f t c a.data.toList) (keyO f t c b.data.toList))
  have hcm : cmpO nu fo bl re f t c a.data.toList b.data.toList = if checkO f t c = true then (if re = true then - byO nu fo bl (keyO f t c a.data.toList) (keyO f t c b.data.toList) else byO nu fo bl (keyO f t c a.data.toList) (keyO f t c b.data.toList)) else 0 := rfl
  rw [hcm]
  have HKa := Lib.hid hKa
  have HKb := Lib.hid hKb
  clear hKa hKb hcm
  go_enter Tryd.func19, Tryd.ntmps19
  go_wp2_with fail
  refine (Q.keys_Check.calls 1 nu fo bl re f t (c.toNat : Int) _ _ (Q.check_f 0 nu fo bl re f t c)).mono ?_
  rintro e w1 ⟨rfl, hb1⟩
  have hh : Held w w.heap.size nu fo bl re f t c w1 := ⟨(hb1.block w.heap.size (by simp)).trans (World.alloc_heap_new w _), bth (bal (Below.refl _ _) _) hb1⟩
  clear hb1
  have HH := Lib.hid hh
  cases hck : checkO f t c
  · go_wp2
    all_goals (go_ret; exact ⟨rfl, HH.out.low⟩)
  · obtain ⟨d0, d1, d2, d3, d4, d5, d6⟩ := hh.cells
    have HH2 := HH.out.all
    clear hh
    cases nu
    · go_wp2_with fail
      go_region_held3 (fun w' => Held w w.heap.size false fo bl re f t c w' ∧ w'.cell? ⟨w.heap.size, 0, none⟩ = some (.bool false) ∧ w'.cell? ⟨w.heap.size, 1, none⟩ = some (.bool fo) ∧ w'.cell? ⟨w.heap.size, 2, none⟩ = some (.bool bl) ∧ w'.cell? ⟨w.heap.size, 3, none⟩ = some (.bool re) ∧ w'.cell? ⟨w.heap.size, 4, none⟩ = some (.int .i64 f) ∧ w'.cell? ⟨w.heap.size, 5, none⟩ = some (.int .i64 t) ∧ w'.cell? ⟨w.heap.size, 6, none⟩ = some (.int .u8 (c.toNat : Int))) (first | assumption | exact Held.keep (by assumption) hbq | exact Held.all (Held.drew HH.out) | exact Held.keepD (by assumption)) ((first | (go_at_call 12; with_reducible refine (Q.keys_Key.calls false fo bl re f t (c.toNat : Int) a _ _ HKa.out).mono ?_; rintro e w' ⟨rfl, hbq⟩) | (go_at_call 12; with_reducible refine (Q.keys_Key.calls false fo bl re f t (c.toNat : Int) b _ _ HKb.out).mono ?_; rintro e w' ⟨rfl, hbq⟩) | (go_at_call 34; with_reducible refine (by_walk false fo bl re f t c w.heap.size (bs (keyO f t c a.data.toList)) (bs (keyO f t c b.data.toList)) (by omega) (by omega) _ (Held.heap (And.left (by assumption)))).mono ?_; rintro e w' ⟨rfl, hbq⟩)))
      obtain ⟨hF, e0, e1, e2, e3, e4, e5, e6⟩ := (show Held w w.heap.size false fo bl re f t c _ ∧ _ from by assumption)
      have HF := Lib.hid hF.low
      have HE := Lib.hid e3
      clear hF e0 e1 e2 e4 e5 e6 e3
      rw [bs_toList, bs_toList]
      cases re
      · have e3 := HE.out
        go_wp2
        go_ret
        exact ⟨rfl, HF.out⟩
      · have e3 := HE.out
        go_wp2
        go_ret
        exact ⟨by rw [← hneg.out]; rfl, HF.out⟩
    · go_wp2_with fail
      go_region_held3 (fun w' => Held w w.heap.size true fo bl re f t c w' ∧ w'.cell? ⟨w.heap.size, 0, none⟩ = some (.bool true) ∧ w'.cell? ⟨w.heap.size, 1, none⟩ = some (.bool fo) ∧ w'.cell? ⟨w.heap.size, 2, none⟩ = some (.bool bl) ∧ w'.cell? ⟨w.heap.size, 3, none⟩ = some (.bool re) ∧ w'.cell? ⟨w.heap.size, 4, none⟩ = some (.int .i64 f) ∧ w'.cell? ⟨w.heap.size, 5, none⟩ = some (.int .i64 t) ∧ w'.cell? ⟨w.heap.size, 6, none⟩ = some (.int .u8 (c.toNat : Int))) (first | assumption | exact Held.keep (by assumption) hbq | exact Held.all (Held.drew HH.out) | exact Held.keepD (by assumption)) ((first | (go_at_call 12; with_reducible refine (Q.keys_Key.calls true fo bl re f t (c.toNat : Int) a _ _ HKa.out).mono ?_; rintro e w' ⟨rfl, hbq⟩) | (go_at_call 12; with_reducible refine (Q.keys_Key.calls true fo bl re f t (c.toNat : Int) b _ _ HKb.out).mono ?_; rintro e w' ⟨rfl, hbq⟩) | (go_at_call 15; with_reducible refine (Q.keys_Number.calls 4 (bs (keyO f t c a.data.toList)) (bs (keyO f t c b.data.toList)) _ _ (Q.number_f 0 _ _ (by omega) (by omega))).mono ?_; rintro e w' ⟨rfl, hbq⟩)))
      obtain ⟨hF, e0, e1, e2, e3, e4, e5, e6⟩ := (show Held w w.heap.size true fo bl re f t c _ ∧ _ from by assumption)
      have HF := Lib.hid hF.low
      have HE := Lib.hid e3
      clear hF e0 e1 e2 e4 e5 e6 e3
      rw [bs_toList, bs_toList]
      cases re
      · have e3 := HE.out
        go_wp2
        go_ret
        exact ⟨rfl, HF.out⟩
      · have e3 := HE.out
        go_wp2
        go_ret
        exact ⟨by rw [← hneg.out]; rfl, HF.out⟩
end Go.Proofs.YtbndinaiclkajaaDoor.K
namespace Go.Proofs.YtbndinaiclkajaaDoor.Q
open Go.RowKit Go.Proofs.YtbndinaiclkajaaDoor.H Go.Proofs.YtbndinaiclkajaaDoorW.PrintWords Go.Proofs.YtbndinaiclkajaaDoor.K
def keys_Compare.f (a0_0 : Bool) (a0_1 : Bool) (a0_2 : Bool) (a0_3 : Bool) (a0_4 : Int) (a0_5 : Int) (a0_6 : Int) (a1 : ByteArray) (a2 : ByteArray) : Option (Int) :=
  if (0 ≤ a0_6 ∧ a0_6 ≤ 255) ∧ a1.size ≤ 4294967280 ∧ a2.size ≤ 4294967280 then some (cmpO a0_0 a0_1 a0_2 a0_3 a0_4 a0_5 (u8 a0_6) a1.data.toList a2.data.toList) else none
theorem keys_Compare.calls (a0_0 : Bool) (a0_1 : Bool) (a0_2 : Bool) (a0_3 : Bool) (a0_4 : Int) (a0_5 : Int) (a0_6 : Int) (a1 : ByteArray) (a2 : ByteArray) (r : Int) (w : World) (h : keys_Compare.f a0_0 a0_1 a0_2 a0_3 a0_4 a0_5 a0_6 a1 a2 = some r) :
    Calls Tryd.prog 19 #[.agg #[.bool a0_0, .bool a0_1, .bool a0_2, .bool a0_3, .int .i64 a0_4, .int .i64 a0_5, .int .u8 a0_6], .string a1, .string a2] w fun e w' => e = .returned (.int .i64 r) ∧ Below w.heap.size w w' := by
  unfold keys_Compare.f at h
  split at h
  · rename_i hl
    obtain rfl := Option.some.inj h
    have e6 := u8_nat hl.1
    generalize u8 a0_6 = c at e6 ⊢
    subst e6
    exact comp_walk a0_0 a0_1 a0_2 a0_3 a0_4 a0_5 c a1 a2 hl.2.1 hl.2.2 w
  · cases h
end Go.Proofs.YtbndinaiclkajaaDoor.Q

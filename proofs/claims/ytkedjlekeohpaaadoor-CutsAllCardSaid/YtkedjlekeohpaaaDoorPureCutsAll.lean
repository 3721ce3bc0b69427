/- CutsAll: with the places from 1 on a line is whole; with none it is empty: the walk of the law. -/
import Derived.Test.YtkedjlekeohpaaaDoorCAlive
set_option linter.unusedVariables false
set_option linter.unusedSimpArgs false
namespace Go.Proofs.YtkedjlekeohpaaaDoor.P
open Go.RowKit Go.Proofs Go.Proofs.YtkedjlekeohpaaaDoor.Q Go.Proofs.YtkedjlekeohpaaaDoor.H Go.Proofs.YtkedjlekeohpaaaDoor.C Go.Proofs.YtkedjlekeohpaaaDoor.S Go.Proofs.YtkedjlekeohpaaaDoorW.PrintWords Go.Proofs.YtkedjlekeohpaaaDoorW.PrintLast

theorem pick_all {α : Type} (p : Nat → Bool) : ∀ (l : List α) (i : Nat), (∀ j, i ≤ j → p j = true) → pickL p i l = l
  | [], _, _ => rfl
  | x :: l, i, h => by
    simp only [pickL]
    rw [if_pos (h i (Nat.le_refl _)), pick_all p l (i + 1) (fun j hj => h j (by omega))]
theorem pick_none {α : Type} (p : Nat → Bool) : ∀ (l : List α) (i : Nat), (∀ j, p j = false) → pickL p i l = []
  | [], _, _ => rfl
  | x :: l, i, h => by
    simp only [pickL]
    rw [if_neg (by rw [h i]; decide), pick_none p l (i + 1) h]
theorem has_all : ∀ j, 1 ≤ j → hasN [⟨1, 0⟩] j = true := fun j h => by
  show ((decide ((1 : Int) ≤ (j : Int)) && ((0 : Int) == 0 || decide ((j : Int) ≤ 0))) || false) = true
  rw [decide_eq_true (by omega)]
  rfl
theorem has_none : ∀ j, hasN [] j = false := fun j => rfl
theorem tail_join (c : UInt8) (L : List (List UInt8)) (h : L ≠ []) : Lib.joinTail [c] L = c :: Lib.join L [c] := by
  cases L with
  | nil => exact absurd rfl h
  | cons x m => rw [Lib.join_cons]; simp [Lib.joinTail]
theorem join_split (c : UInt8) (t : List UInt8) : Lib.join (splitL (· == c) t) [c] = t := by
  refine parts_ind (· == c) (C := fun t => Lib.join (splitL (· == c) t) [c] = t) ?_ ?_ t
  · intro l hl
    have e : splitL (· == c) l = [l] := by unfold splitL; rw [splitL_one _ l hl]; rfl
    rw [e]
    exact Lib.join_one l [c]
  · intro l d r hl hd ih
    obtain rfl : d = c := by simpa using hd
    have e : splitL (· == d) l = [l] := by unfold splitL; rw [splitL_one _ l hl]; rfl
    rw [splitL_app (· == d) l r d hd, e, List.singleton_append, Lib.join_cons]
    congr 1
    rw [tail_join _ _ (splitL_ne _ _), ih]
theorem all_fields (c : UInt8) (t : List UInt8) : fieldsE [⟨1, 0⟩] c false t = (t, true) := by
  unfold fieldsE
  split
  · rw [pick_all _ _ 1 has_all, join_split]
  · rfl
theorem no_fields (c : UInt8) (t : List UInt8) : (fieldsE [] c true t).1 = [] := by
  unfold fieldsE
  split
  · rw [pick_none _ _ 1 has_none]; rfl
  · rfl
theorem C_rnil (W : World) : Kd.C k34 W none 0 [] := ⟨rfl, by decide, fun h => absurd h (by decide)⟩
/-- A line in one block, a list of one range, and what lay. -/
structure LSt (w : World) (s : ByteArray) (c : Int) (bare : Bool) (g : Nat) (W : World) : Prop where
  x : W.heap[w.heap.size]? = some (.cells #[.string s, .int .u8 c, .bool bare] 23 (0, 0))
  r : Kd.C k34 W (some ⟨g, 0, none⟩) 1 [⟨1, 0⟩]
  low : Below w.heap.size w W
section
variable {w W W' w' : World} {s : ByteArray} {c : Int} {bare : Bool} {g : Nat}
theorem LSt.on (h : LSt w s c bare g W) (b : Below W.heap.size W W') : LSt w s c bare g W' := ⟨(b.block _ (blk_lt h.x)).trans h.x, Kd.C_below h.r b, bth h.low b⟩
theorem LSt.drew (h : LSt w s c bare g W) : LSt w s c bare g W.drew := h.on (bdr (Below.refl _ _))
theorem LSt.all (h : LSt w s c bare g w') : LSt w s c bare g w' ∧ (w'.cell? ⟨w.heap.size, 0, none⟩ = some (.string s)) := ⟨h, (blk_cell h.x 0).trans rfl⟩
end
set_option maxHeartbeats 4000000 in
set_option maxRecDepth 100000 in
theorem cutsAll (s : ByteArray) (c : UInt8) (bare : Bool) (w : World) (hE : EnvW w) (hs : s.size ≤ 140737488351232) :
    Calls Tryd.prog 4 #[.agg #[.string s, .int .u8 (c.toNat : Int), .bool bare]] w fun e w' => e = .returned (.bool true) ∧ Below w.heap.size w w' := by
  obtain ⟨kb, hkb⟩ := (beyond_one s.size (by omega)).at_
  have HE := Lib.hid hE
  obtain ⟨W1, hW1⟩ : ∃ W1, w.alloc (.cells #[.string s, .int .u8 (c.toNat : Int), .bool bare] 23) = W1 := ⟨_, rfl⟩
  have b1 : Below w.heap.size w W1 := by rw [← hW1]; exact bal (Below.refl _ _) _
  have x1 : W1.heap[w.heap.size]? = some (.cells #[.string s, .int .u8 (c.toNat : Int), .bool bare] 23 (0, 0)) := by rw [← hW1]; exact World.alloc_heap_new w _
  have HW1 := Lib.hid hW1
  have B1 := Lib.hid b1
  have X1 := Lib.hid x1
  clear hW1 b1 x1 hE
  go_enter Tryd.func4, Tryd.ntmps4
  go_upto_region 1 with (fail)
  rw [HW1.out]
  go_wp2_with fail
  refine (alive_calls _ (HE.out.below B1.out)).mono ?_
  rintro e w2 ⟨rfl, hb2⟩
  have x2 := (hb2.block _ (blk_lt X1.out)).trans X1.out
  have X2 := Lib.hid x2
  have B2 := Lib.hid (bth B1.out hb2)
  have q0 : w2.cell? ⟨w.heap.size, 0, none⟩ = some (.string s) := (blk_cell x2 0).trans rfl
  clear hb2 x2
  by_cases hbig : s.size > 1048576
  · have hkb2 : toolchestlaw01_Beyond.f kb [(s.size : Int)] = some true := by rw [hkb, decide_eq_true hbig]
    have KB := Lib.hid hkb2
    clear hkb hkb2 hbig
    go_wp2_with fail
    refine (toolchestlaw01_Beyond.calls kb (some ⟨w2.heap.size, 0, none⟩) 1 [(s.size : Int)] true _ (C_ints w2 .i64 3 [(s.size : Int)] (by simp)) (Nat.le_refl _) KB.out).mono ?_
    first | (rintro e w3 rfl hb3) | (rintro e w3 ⟨rfl, hb3⟩)
    have B3 := Lib.hid (bth B2.out (bth (bal (Below.refl _ _) _) hb3.below))
    clear hb3
    go_wp2_with fail
    refine (alive_calls _ (HE.out.below B3.out)).mono ?_
    rintro e w4 ⟨rfl, hb4⟩
    have B4 := Lib.hid (bth B3.out hb4)
    clear hb4
    go_wp2
    go_ret
    exact ⟨rfl, B4.out⟩
  · have hkb2 : toolchestlaw01_Beyond.f kb [(s.size : Int)] = some false := by rw [hkb, decide_eq_false hbig]
    have KB := Lib.hid hkb2
    have hf1 := fun (A : Option Addr) (z : Nat) (w : World) h1 h2 h3 => fields_calls s (by omega) A z [⟨1, 0⟩] c false w h1 h2 h3
    rw [all_fields] at hf1
    have hf2 := fun (A : Option Addr) (z : Nat) (w : World) h1 h2 h3 => fields_calls s (by omega) A z [] c true w h1 h2 h3
    obtain ⟨R, hR⟩ : ∃ R, fieldsE [] c true s.data.toList = R := ⟨_, rfl⟩
    have hR1 := no_fields c s.data.toList
    rw [hR] at hf2 hR1
    obtain ⟨r1, r2⟩ := R
    obtain rfl : r1 = [] := hR1
    have hg1 := fun (A : Option Addr) (z : Nat) (w : World) h1 h2 => bytes_calls s (by omega) A z [⟨1, 0⟩] w h1 h2
    have hg2 := fun (A : Option Addr) (z : Nat) (w : World) h1 h2 => bytes_calls s (by omega) A z [] w h1 h2
    rw [pick_all _ s.data.toList 1 has_all] at hg1
    rw [pick_none _ s.data.toList 1 has_none] at hg2
    have hsb : (⟨s.data.toList.toArray⟩ : ByteArray) = s := bs_of s
    rw [hsb] at hg1
    have hf1' : ∀ (A : Option Addr) (z : Nat) (w : World), w.ShapedOpen Tryd.prog → Kd.C k34 w A 1 [⟨1, 0⟩] → 1 ≤ z → Calls Tryd.prog 12 #[.string s, .slice A 1 z, .int .u8 (c.toNat : Int), .bool false] w fun e w' => e = .returned (.tuple #[.string s, .bool true]) ∧ Below w.heap.size w w' := fun A z w a b d => by
      have := hf1 A z w a b d
      rw [hsb] at this
      exact this
    have F1 := Lib.hid hf1'
    have F2 := Lib.hid hf2
    have hg1' : ∀ (A : Option Addr) (z : Nat) (w : World), Kd.C k34 w A 1 [⟨1, 0⟩] → 1 ≤ z → Calls Tryd.prog 17 #[.string s, .slice A 1 z] w fun e w' => e = .returned (.string s) ∧ Below w.heap.size w w' := hg1
    have hg2' : ∀ (w : World), Calls Tryd.prog 17 #[.string s, .slice none 0 0] w fun e w' => e = .returned (.string ⟨#[]⟩) ∧ Below w.heap.size w w' := fun w => hg2 none 0 w (C_rnil w) (by simp)
    have G1 := Lib.hid hg1'
    have G2 := Lib.hid hg2'
    clear hkb hkb2 hbig hf1 hf1' hf2 hR hg1 hg2 hg1' hg2' hsb
    go_wp2_with fail
    refine (toolchestlaw01_Beyond.calls kb (some ⟨w2.heap.size, 0, none⟩) 1 [(s.size : Int)] false _ (C_ints w2 .i64 3 [(s.size : Int)] (by simp)) (Nat.le_refl _) KB.out).mono ?_
    first | (rintro e w3 rfl hb3) | (rintro e w3 ⟨rfl, hb3⟩)
    have b23 := bth (bal (Below.refl w2.heap.size w2) (Obj.cells #[.int .i64 (s.size : Int)] 3)) hb3.below
    have B3 := Lib.hid (bth B2.out b23)
    have x3 := (b23.block _ (blk_lt X2.out)).trans X2.out
    clear hb3 b23 q0
    obtain ⟨W4, hW4⟩ : ∃ W4, w3.alloc (.cells #[.int .i64 1, .int .i64 0] 34) = W4 := ⟨_, rfl⟩
    have b34 : Below w3.heap.size w3 W4 := by rw [← hW4]; exact bal (Below.refl _ _) _
    have R4 : Hid (Kd.C k34 W4 (some ⟨w3.heap.size, 0, none⟩) 1 [⟨1, 0⟩]) := Lib.hid (by rw [← hW4]; exact C_rlit w3 [⟨1, 0⟩] 1 rfl _ rfl (by decide))
    have x4 := (b34.block _ (blk_lt x3)).trans x3
    have X4 := Lib.hid x4
    have B4 := Lib.hid (bth B3.out b34)
    have HW4 := Lib.hid hW4
    have q0 : W4.cell? ⟨w.heap.size, 0, none⟩ = some (.string s) := (blk_cell x4 0).trans rfl
    have q1 : W4.cell? ⟨w.heap.size, 1, none⟩ = some (.int .u8 (c.toNat : Int)) := (blk_cell x4 1).trans rfl
    clear hW4 b34 x3 x4
    go_upto_region 4 with (fail)
    rw [HW4.out]
    go_wp2_with fail
    refine (F1.out _ _ _ (HE.out.below B4.out).shape R4.out (by omega)).mono ?_
    rintro e w5 ⟨rfl, hb5⟩
    have B5 := Lib.hid (bth B4.out hb5)
    have R5 := Lib.hid (Kd.C_below R4.out hb5)
    have x5 := (hb5.block _ (blk_lt X4.out)).trans X4.out
    have X5 := Lib.hid x5
    clear q0 q1
    have q0 : w5.cell? ⟨w.heap.size, 0, none⟩ = some (.string s) := (blk_cell x5 0).trans rfl
    have q1 : w5.cell? ⟨w.heap.size, 1, none⟩ = some (.int .u8 (c.toNat : Int)) := (blk_cell x5 1).trans rfl
    clear hb5 x5
    go_wp2_with fail
    refine (F2.out _ _ _ (HE.out.below B5.out).shape (C_rnil w5) (by simp)).mono ?_
    rintro e w6 ⟨rfl, hb6⟩
    have HH : Hid (LSt w s (c.toNat : Int) bare w3.heap.size w6) := Lib.hid ⟨(hb6.block _ (blk_lt X5.out)).trans X5.out, Kd.C_below R5.out hb6, bth B5.out hb6⟩
    clear q0 q1 hb6
    have q0 := HH.out.all.2
    go_wp2_with fail
    go_region_held3 (fun w' => LSt w s (c.toNat : Int) bare w3.heap.size w' ∧ (w'.cell? ⟨w.heap.size, 0, none⟩ = some (.string s))) (with_reducible first | assumption | exact LSt.all (LSt.on (show LSt w s _ bare w3.heap.size _ ∧ _ from by assumption).1 hbq) | exact LSt.all ((HH.out.drew).on hbq) | exact LSt.all (HH.out.on hbq) | exact LSt.all HH.out.drew | exact LSt.all HH.out) ((first
      | (go_at_call 17; with_reducible refine (G1.out _ _ _ (by first | exact (show LSt w s _ bare w3.heap.size _ ∧ _ from by assumption).1.r | exact HH.out.drew.r | exact HH.out.r) (by omega)).mono ?_; rintro e w' ⟨rfl, hbq⟩)
      | (go_at_call 17; with_reducible refine (G2.out _).mono ?_; rintro e w' ⟨rfl, hbq⟩)))
    all_goals go_wp2
    all_goals go_ret
    all_goals exact ⟨rfl, (show LSt w s _ bare w3.heap.size _ ∧ _ from by assumption).1.low⟩
theorem byteA_of (x : Int) (h : (Lit.int .u8 x).wf = true) : ∃ c : UInt8, x = (c.toNat : Int) := by
  have h' : 0 ≤ x ∧ x ≤ 255 := by simpa [Lit.wf, IntKind.min, IntKind.max, IntKind.signed, IntKind.bits] using h
  exact ⟨UInt8.ofNat x.toNat, by simp [UInt8.toNat_ofNat']; omega⟩
theorem CutsAll_walk (a0_0 : ByteArray) (a0_1 : Int) (a0_2 : Bool) (W : World) (hE : EnvW W) (ok0_0 : a0_0.size ≤ 140737488351232) (ok0_1 : (Lit.int .u8 a0_1).wf = true) :
    Calls Tryd.prog 4 #[.agg #[.string a0_0, .int .u8 a0_1, .bool a0_2]] W fun e W' => e = .returned (.bool true) ∧ Below W.heap.size W W' := by
  obtain ⟨c, rfl⟩ := byteA_of a0_1 ok0_1
  exact cutsAll a0_0 c a0_2 W hE ok0_0
end Go.Proofs.YtkedjlekeohpaaaDoor.P

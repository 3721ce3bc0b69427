/- Bytes of a text, turned one by one: upper, and a key as it is compared. -/
import Derived.Test.YtlicjpbmlmongaaGreatDoorKGiven
import Derived.Test.YtlicjpbmlmongaaGreatDoorConv
import Derived.Laws.IdiomStrings
import Derived.Deep.QuietTactic
import Derived.BigQuiet
set_option linter.unusedVariables false
set_option linter.unusedSimpArgs false
namespace Go.Proofs.YtlicjpbmlmongaaGreatDoor.K
open Go.RowKit Go.Proofs.YtlicjpbmlmongaaGreatDoor.H Go.Proofs.YtlicjpbmlmongaaGreatDoorW.PrintWords
/-- Block g bears the bytes l, and they may be written. -/
def RowB (W : World) (g : Nat) (l : List UInt8) : Prop := ∀ j (hj : j < l.length), W.cell? ⟨g, j, none⟩ = some (.int .u8 (l[j].toNat : Int)) ∧ W.frozen? ⟨g, j, none⟩ = false
theorem RowB.set {W : World} {g : Nat} {l : List UInt8} (h : RowB W g l) (k : Nat) (hk : k < l.length) (c : UInt8) : RowB (W.setCell ⟨g, k, none⟩ (.int .u8 (c.toNat : Int))) g (l.set k c) := by
 intro j hj
 rw [List.length_set] at hj
 refine ⟨?_, by rw [World.frozen?_setCell]; exact (h j hj).2⟩
 rw [List.getElem_set]
 by_cases e : k = j
 ·subst e
  rw [if_pos rfl]
  exact World.cell?_setCell_same' _ _ _ (by rw [(h k hj).1]; rfl)
 ·rw [if_neg e]
  rw [World.cell?_setCell_other (h := fun e' => e (by injection e'))]
  exact (h j hj).1
theorem rowB_bytes (W : World) (e : TypeId) (s : ByteArray) : RowB (Lib.bytesWorld W e s) W.heap.size s.data.toList := by
 intro j hj
 have hjs : j < s.size := by rw [Array.length_toList] at hj; exact hj
 refine ⟨?_, ?_⟩
 ·rw [Lib.bytesWorld_cell W e s j hjs]
  congr 3
  rw [List.getD_eq_getElem?_getD, List.getElem?_eq_getElem hj]; rfl
 ·have h1 := Lib.bytesWorld_at_new W e s
  have h2 : s.size ≤ (Lib.bytesCells W e s).size := by unfold Lib.bytesCells; rw [Array.size_append, Array.size_map]; exact Nat.le_add_right _ _
  unfold World.frozen?
  rw [h1]
  simp
  omega
theorem rowB_bytes_at (W : World) (e : TypeId) (s : ByteArray) (g : Nat) (hg : W.heap.size = g) : RowB (Lib.bytesWorld W e s) g s.data.toList := hg ▸ rowB_bytes W e s
def foldC (fo : Bool) (c : UInt8) : UInt8 := if fo = true then upC c else c
/-- The bytes of which the first k are turned. -/
def turned (f : UInt8 → UInt8) (l : List UInt8) (k : Nat) : List UInt8 := (l.take k).map f ++ l.drop k
theorem turned_zero (f : UInt8 → UInt8) (l : List UInt8) : turned f l 0 = l := by simp [turned]
theorem turned_len (f : UInt8 → UInt8) (l : List UInt8) (k : Nat) : (turned f l k).length = l.length := by simp [turned]; omega
theorem turned_all (f : UInt8 → UInt8) (l : List UInt8) : turned f l l.length = l.map f := by simp [turned]
theorem turned_at (f : UInt8 → UInt8) (l : List UInt8) (k : Nat) (h : k < l.length) : (turned f l k)[k]'(by rw [turned_len]; exact h) = l[k] := by
 unfold turned
 rw [List.getElem_append_right (by simp; omega)]
 simp
 congr 1
 omega
theorem turned_set (f : UInt8 → UInt8) (l : List UInt8) (k : Nat) (h : k < l.length) : (turned f l k).set k (f l[k]) = turned f l (k + 1) := by
 unfold turned
 have h1 : ((l.take k).map f).length = k := by simp; omega
 rw [List.set_append_right _ _ (by omega), h1, Nat.sub_self, List.drop_eq_getElem_cons h, List.set_cons_zero, List.take_succ_eq_append_getElem h, List.map_append, List.append_assoc]
 rfl
theorem turned_same (f : UInt8 → UInt8) (l : List UInt8) (k : Nat) (h : k < l.length) (e : f l[k] = l[k]) : turned f l (k + 1) = turned f l k := by
 unfold turned
 rw [List.take_succ_eq_append_getElem h, List.map_append, List.append_assoc]
 conv => rhs; rw [List.drop_eq_getElem_cons h]
 simp [e]
theorem upC_small (c : UInt8) (h : (97 : Int) ≤ (c.toNat : Int) ∧ (c.toNat : Int) ≤ 122) : ((upC c).toNat : Int) = (c.toNat : Int) - 32 := by
 have h1 : 97 ≤ c ∧ c ≤ 122 := ⟨UInt8.le_iff_toNat_le.2 (by show 97 ≤ c.toNat; omega), UInt8.le_iff_toNat_le.2 (by show c.toNat ≤ 122; omega)⟩
 unfold upC
 rw [if_pos h1, UInt8.toNat_sub_of_le _ _ (UInt8.le_iff_toNat_le.2 (by show 32 ≤ c.toNat; omega))]
 show ((c.toNat - 32 : Nat) : Int) = _
 omega
theorem upC_other (c : UInt8) (h : ¬ ((97 : Int) ≤ (c.toNat : Int) ∧ (c.toNat : Int) ≤ 122)) : upC c = c := by
 unfold upC
 rw [if_neg]
 rintro ⟨a, b⟩
 have h1 := UInt8.le_iff_toNat_le.1 a
 have h2 := UInt8.le_iff_toNat_le.1 b
 apply h
 have h3 : 97 ≤ c.toNat := h1
 have h4 : c.toNat ≤ 122 := h2
 omega
set_option maxHeartbeats 1000000 in
theorem blank_yes (c : UInt8) (w : World) (h : blankC c = true) : Calls Tryz.prog 142 #[.int .u8 (c.toNat : Int)] w fun e w' => e = .returned (.bool true) ∧ w' = w := by
 unfold blankC at h
 rw [Bool.or_eq_true, beq_iff_eq, beq_iff_eq] at h
 rcases h with rfl | rfl
 ·go_enter Tryz.func142, Tryz.ntmps142
  go_wp2
  go_ret
  exact ⟨rfl, rfl⟩
 ·go_enter Tryz.func142, Tryz.ntmps142
  go_wp2
  go_ret
  exact ⟨rfl, rfl⟩
set_option maxHeartbeats 1000000 in
theorem blank_no (c : UInt8) (w : World) (h : blankC c = false) : Calls Tryz.prog 142 #[.int .u8 (c.toNat : Int)] w fun e w' => e = .returned (.bool false) ∧ w' = w := by
 unfold blankC at h
 rw [Bool.or_eq_false_iff, beq_eq_false_iff_ne, beq_eq_false_iff_ne] at h
 have h1 : ((c.toNat : Int) == 32) = false := beq_eq_false_iff_ne.2 (fun e => h.1 (UInt8.toNat_inj.1 (by show c.toNat = 32; omega)))
 have h2 : ((c.toNat : Int) == 9) = false := beq_eq_false_iff_ne.2 (fun e => h.2 (UInt8.toNat_inj.1 (by show c.toNat = 9; omega)))
 clear h
 go_enter Tryz.func142, Tryz.ntmps142
 go_wp2
 go_ret
 exact ⟨rfl, rfl⟩
theorem dropWhile_at (p : UInt8 → Bool) (l : List UInt8) (k : Nat) (h : ∀ c ∈ l.take k, p c = true) (hn : ∀ c, (l.drop k).head? = some c → p c = false) : l.dropWhile p = l.drop k := by
 have h1 : l = l.take k ++ l.drop k := (List.take_append_drop k l).symm
 conv => lhs; rw [h1]
 have : ∀ (x r : List UInt8), (∀ c ∈ x, p c = true) → (∀ c, r.head? = some c → p c = false) → (x ++ r).dropWhile p = r := by
  intro x r hx hr
  induction x with
  | nil =>
   cases r with
   | nil => rfl
   | cons c r => rw [List.nil_append, List.dropWhile_cons_of_neg]; rw [hr c rfl]; decide
  | cons a x ih => rw [List.cons_append, List.dropWhile_cons_of_pos (hx a (by simp))]; exact ih (fun c hc => hx c (by simp [hc]))
 exact this _ _ h hn
set_option maxHeartbeats 4000000 in
set_option maxRecDepth 100000 in
theorem fit_walk (nu fo bl re : Bool) (f t : Int) (c6 : Int) (s : ByteArray) (w : World) (hs : s.size ≤ 140737488351232) :
  Calls Tryz.prog 97 #[.agg #[.bool nu, .bool fo, .bool bl, .bool re, .int .i64 f, .int .i64 t, .int .u8 c6], .string s] w fun e w' => e = .returned (.string (bs (fitL bl fo s.data.toList))) ∧ Below w.heap.size w w' := by
 have HL := Lib.hid (show s.data.toList.length = s.size from (Lib.size_eq s).symm)
 obtain ⟨y, hy⟩ : ∃ y, (if bl = true then s.data.toList.dropWhile blankC else s.data.toList) = y := ⟨_, rfl⟩
 have HY := Lib.hid hy
 have HF := Lib.hid (show fitL bl fo s.data.toList = if fo = true then upL y else y by unfold fitL; rw [hy])
 clear hy
 go_enter Tryz.func97, Tryz.ntmps97
 go_wp2
 go_loop [5] (fun i => ∃ k : Nat, k ≤ s.size ∧ i = .int .i64 k ∧ (bl = false → k = 0) ∧ Hid (∀ c ∈ s.data.toList.take k, blankC c = true)) (fun i => s.size - (intOf i).toNat)
 case atStart => exact ⟨0, Nat.zero_le _, rfl, fun _ => rfl, Lib.hid (by simp)⟩
 case round =>
  obtain ⟨k, hk, rfl, hb0, hbl⟩ := hrel
  cases bl
  case' false =>
   have hx := Lib.hid (show s.data.toList.drop k = y by rw [hb0 rfl]; exact HY.out)
   clear hb0 hbl
   go_wp2
  case' true =>
   clear hb0
   by_cases hlt : k < s.size
   case' pos =>
    have hkl : k < s.data.toList.length := by rw [HL.out]; exact hlt
    cases hc : blankC s[k]
    case true =>
     have hcall := fun W => blank_yes s[k] W hc
     have hbl2 := Lib.hid (show ∀ c ∈ s.data.toList.take (k + 1), blankC c = true by
      rw [List.take_succ_eq_append_getElem hkl]
      intro c hm
      rcases List.mem_append.1 hm with h | h
      ·exact hbl.out c h
      ·simp at h; rw [h]; exact hc)
     clear hc
     go_wp2_with (go_at_call 142; refine (hcall _).mono ?_; rintro e w' ⟨rfl, hw⟩; rw [hw]; clear hw)
     go_round
     case rel => exact ⟨k + 1, by omega, by go_num, fun h => (by cases h), hbl2⟩
     case measure => simp [intOf]; omega
    case' false =>
     have hcall := fun W => blank_no s[k] W hc
     have hx := Lib.hid (show s.data.toList.drop k = y by
      rw [← HY.out, if_pos rfl]
      refine (dropWhile_at _ _ _ hbl.out ?_).symm
      intro c h
      rw [List.drop_eq_getElem_cons hkl] at h
      simp at h
      rw [← h]; exact hc)
     clear hc hbl
     go_wp2_with (go_at_call 142; refine (hcall _).mono ?_; rintro e w' ⟨rfl, hw⟩; rw [hw]; clear hw)
     clear hcall
   case' neg =>
    have hx := Lib.hid (show s.data.toList.drop k = y by
     rw [← HY.out, if_pos rfl]
     refine (dropWhile_at _ _ _ hbl.out ?_).symm
     intro c h
     rw [List.drop_eq_nil_of_le (by rw [HL.out]; omega)] at h
     cases h)
    clear hbl
    go_wp2
    clear hlt
  all_goals
   have hyl := Lib.hid (show y.length = s.size - k by rw [← hx.out, List.length_drop, HL.out])
   go_loopw [7] (fun i wr => ∃ q : Nat, q ≤ s.size - k ∧ i = .int .i64 q ∧ Hid (RowB wr (w.heap.size + 1) (turned (foldC fo) y q)) ∧ Hid (wr.cell? ⟨w.heap.size, 1, none⟩ = some (.bool fo)) ∧ Hid (Below w.heap.size w wr)) (fun i _ => s.size - k - (intOf i).toNat)
   case atStart =>
    refine ⟨0, Nat.zero_le _, rfl, Lib.hid ?_, Lib.hid ?_, Lib.hid ?_⟩
    ·rw [turned_zero, ← hx.out, ← extract_drop s k]
     exact rowB_bytes_at _ _ _ _ (by simp)
    ·rw [Lib.bytesWorld_old _ _ _ _ (by simp)]
     exact (Lib.cell_of_heap (World.alloc_heap_new w _) 1).trans rfl
    ·exact bby (bal (Below.refl _ _) _) _ _
   case round =>
    obtain ⟨q, hq, rfl, hr, hco, hb⟩ := hrel
    have hcf := hco.out
    by_cases hlq : q < s.size - k
    ·have hkl : q < y.length := by rw [hyl.out]; exact hlq
     obtain ⟨hc0, hf0⟩ := hr.out q (by rw [turned_len]; exact hkl)
     rw [turned_at _ y q hkl] at hc0
     have hts := Lib.hid (turned_set (foldC fo) y q hkl)
     have htt := Lib.hid (turned_same (foldC fo) y q hkl)
     have hset := Lib.hid (fun (c : UInt8) => hr.out.set q (by rw [turned_len]; exact hkl) c)
     generalize y[q] = c at hc0 hts htt
     cases fo
     ·have hu := Lib.hid (show foldC false c = c from rfl)
      go_wp2
      go_roundw
      case rel => exact ⟨q + 1, by omega, by go_num, Lib.hid (by rw [htt.out hu.out]; exact hr.out), hco, hb⟩
      case measure => simp [intOf]; omega
     ·by_cases h97 : (97 : Int) ≤ (c.toNat : Int)
      ·by_cases h122 : (c.toNat : Int) ≤ 122
       ·have hu := Lib.hid (upC_small c ⟨h97, h122⟩)
        go_wp2
        go_roundw
        case rel =>
         refine ⟨q + 1, by omega, by go_num, Lib.hid ?_, Lib.hid ?_, Lib.hid (hb.out.setCell (p := ⟨w.heap.size + 1, q, none⟩) (Nat.le_succ _) _)⟩
         ·have h1 := hset.out (upC c)
          have h2 : (c.toNat : Int) - 32 = ((upC c).toNat : Int) := hu.out.symm
          have h3 := hts.out
          rw [h2, ← h3]
          exact h1
         ·rw [World.cell?_setCell_other (h := fun e' => by have := congrArg Addr.block e'; simp at this)]
          exact hco.out
        case measure => simp [intOf]; omega
       ·have hu := Lib.hid (show foldC true c = c from upC_other c (fun e => h122 e.2))
        have h122' : decide ((c.toNat : Int) ≤ 122) = false := decide_eq_false h122
        go_wp2
        go_roundw
        case rel => exact ⟨q + 1, by omega, by go_num, Lib.hid (by rw [htt.out hu.out]; exact hr.out), hco, hb⟩
        case measure => simp [intOf]; omega
      ·have hu := Lib.hid (show foldC true c = c from upC_other c (fun e => h97 e.1))
       have h97' : decide ((97 : Int) ≤ (c.toNat : Int)) = false := decide_eq_false h97
       go_wp2
       go_roundw
       case rel => exact ⟨q + 1, by omega, by go_num, Lib.hid (by rw [htt.out hu.out]; exact hr.out), hco, hb⟩
       case measure => simp [intOf]; omega
    ·obtain rfl : q = s.size - k := by omega
     have hfin := hr.out
     rw [← hyl.out, turned_all] at hfin
     have hz : (y.map (foldC fo)).length = s.size - k := by rw [List.length_map, hyl.out]
     have hcv := fun (cap : Nat) => run_convert_bytes_back (P := Tryz.prog) wr 89 9 5 ⟨w.heap.size + 1, 0, none⟩ cap (y.map (foldC fo)) Tryz.underlying89 Tryz.underlying5 Tryz.underlying9 (fun j hj => by
      have := (hfin j hj).1
      rw [add_plain]; simpa using this)
     rw [hz] at hcv
     clear hfin hz
     have hout := Lib.hid (show bs (y.map (foldC fo)) = bs (if fo = true then upL y else y) by
      congr 1
      cases fo
      ·exact List.map_id' y
      ·rfl)
     generalize y.map (foldC fo) = z at hcv hout
     go_wp2
     go_ret
     exact ⟨by rw [HF.out, ← hout.out]; rfl, hb.out⟩
end Go.Proofs.YtlicjpbmlmongaaGreatDoor.K
namespace Go.Proofs.YtlicjpbmlmongaaGreatDoor.Q
open Go.RowKit Go.Proofs.YtlicjpbmlmongaaGreatDoor.H Go.Proofs.YtlicjpbmlmongaaGreatDoorW.PrintWords Go.Proofs.YtlicjpbmlmongaaGreatDoor.K
def toolchestref05_fit.f (a0_0 : Bool) (a0_1 : Bool) (a0_2 : Bool) (a0_3 : Bool) (a0_4 : Int) (a0_5 : Int) (a0_6 : Int) (a1 : ByteArray) : Option (ByteArray) := if a1.size ≤ 140737488351232 then some (K.bs (fitL a0_2 a0_1 a1.data.toList)) else none
theorem toolchestref05_fit.calls (a0_0 : Bool) (a0_1 : Bool) (a0_2 : Bool) (a0_3 : Bool) (a0_4 : Int) (a0_5 : Int) (a0_6 : Int) (a1 : ByteArray) (r : ByteArray) (w : World) (h : toolchestref05_fit.f a0_0 a0_1 a0_2 a0_3 a0_4 a0_5 a0_6 a1 = some r) :
  Calls Tryz.prog 97 #[.agg #[.bool a0_0, .bool a0_1, .bool a0_2, .bool a0_3, .int .i64 a0_4, .int .i64 a0_5, .int .u8 a0_6], .string a1] w fun e w' => e = .returned (.string r) ∧ Below w.heap.size w w' := by
 unfold toolchestref05_fit.f at h
 split at h
 ·rename_i hl
  obtain rfl := Option.some.inj h
  exact fit_walk a0_0 a0_1 a0_2 a0_3 a0_4 a0_5 a0_6 a1 w hl
 ·cases h
end Go.Proofs.YtlicjpbmlmongaaGreatDoor.Q

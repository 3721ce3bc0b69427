/- strings.IndexRune at " \t" and a rune that is no ASCII one; strings.IndexAny at " \t" and any text. -/
import Derived.Test.YtlicjpbmlmongaaGreatDoorShelf
import Derived.Test.YtlicjpbmlmongaaGreatDoorKPlain
import Derived.Test.YtlicjpbmlmongaaGreatDoorHelp
import Derived.Laws.Runes
import Derived.Laws.RangeAny
import Derived.Below
import Derived.WalkKit
import Derived.Lib.Hide
import Derived.Outline
import Derived.Lib.OthersKept
import Derived.Deep.LoopGhost
import Derived.Deep.QuietTactic
import Derived.BigQuiet
import Derived.KernelRfl
set_option linter.unusedVariables false
set_option linter.unusedSimpArgs false
namespace Go.Proofs.YtlicjpbmlmongaaGreatDoor.K
open Go.RowKit
theorem quiet_add_same {P : Program} {f : FuncId} {args : Array Value} {w : World} {a n : Nat} {v : Value}
  (h : Calls P f args (w.drewN (a + n)) fun e w' => e = .returned v ∧ w' = w.drewN (a + n)) :
  Calls P f args (w.drewN (a + n)) fun e w'' => e = .returned v ∧ ∃ m, w'' = w.drewN (a + m) :=
 h.mono fun _ _ ⟨he, hm⟩ => ⟨he, n, hm⟩
set_option maxHeartbeats 2000000 in
set_option maxRecDepth 100000 in
theorem indexRune_err (w : World) :
  Calls Tryz.prog 175 #[.string ⟨#[32, 9]⟩, .int .i32 65533] w fun e w' => e = .returned (.int .i64 (-1)) ∧ Below w.heap.size w w' := by
 go_enter Tryz.func175, Tryz.ntmps175
 go_wp2_with fail
 go_loopg [5, 6] 2 (fun g _ _ wx => ∃ i : Nat, i + g = 2 ∧ wx = w.iter ⟨#[32, 9]⟩ i)
 case atStart => exact ⟨0, rfl, rfl⟩
 case round =>
  obtain ⟨i, hig, rfl⟩ := hrel
  cases gk with
  | zero =>
   obtain rfl : i = 2 := by omega
   have hnx := run_next_end (P := Tryz.prog) w ⟨#[32, 9]⟩ 2
   go_wp2
   go_ret
   exact ⟨rfl, (Below.refl _ _).alloc (Nat.le_refl _) _⟩
  | succ g =>
   rcases (show i = 0 ∨ i = 1 by omega) with rfl | rfl
   ·have hnx := fun ty => run_next_ascii (P := Tryz.prog) w ⟨#[32, 9]⟩ 0 ty (by decide) (by decide)
    go_wp2
    go_roundg g
    case measure => omega
    case rel => exact ⟨1, by omega, rfl⟩
   ·have hnx := fun ty => run_next_ascii (P := Tryz.prog) w ⟨#[32, 9]⟩ 1 ty (by decide) (by decide)
    go_wp2
    go_roundg g
    case measure => omega
    case rel => exact ⟨2, by omega, rfl⟩
theorem valid_of (r : Int) (h : Lib.validRune r = true) : Utf8.valid r = true := by
 rw [validRune_eq]
 unfold Lib.validRune at h
 unfold validRune
 simpa using h
set_option maxHeartbeats 4000000 in
set_option maxRecDepth 100000 in
theorem indexRune_high (r : Int) (w : World) (h0 : 128 ≤ r) (h1 : r ≤ 2147483647) :
  Calls Tryz.prog 175 #[.string ⟨#[32, 9]⟩, .int .i32 r] w fun e w' => e = .returned (.int .i64 (-1)) ∧ Below w.heap.size w w' := by
 by_cases he : r = 65533
 ·subst he; exact indexRune_err w
 ·have hne : (r == 65533) = false := beq_eq_false_iff_ne.2 he
  clear he
  cases hv : Lib.validRune r with
  | false =>
   have HV := Lib.hid hv
   clear hv
   go_enter Tryz.func175, Tryz.ntmps175
   go_wp2_with fail
   refine (Tryz.utf8_ValidRune r _).mono ?_
   rintro e w' ⟨rfl, rfl⟩
   rw [HV.out]
   go_wp2
   go_ret
   exact ⟨rfl, Below.refl _ _⟩
  | true =>
   obtain ⟨e1, e2, e3⟩ := encode_facts r (valid_of r hv) h0
   have HV := Lib.hid hv
   clear hv
   go_enter Tryz.func175, Tryz.ntmps175
   go_wp2_with fail
   refine (Tryz.utf8_ValidRune r _).mono ?_
   rintro e w' ⟨rfl, rfl⟩
   rw [HV.out]
   have hcv := fun (W : World) => run_convert_int_string (P := Tryz.prog) W 21 9 .i32 r (by rw [Tryz.underlying21]; rfl) Tryz.underlying9
   generalize Utf8.encode r = E at e1 e2 e3 hcv
   go_wp2
   go_step3
   go_wp2
   go_loop [9] (fun i => i = .int .i64 ((E.size : Int) - 1)) (fun _ => 0)
   case atStart => rfl
   case round =>
    obtain rfl := hrel
    by_cases hz : E.size = 2
    ·have hb1 : 128 ≤ (E[1]'(by omega)).toNat := by
      have := e3 (by omega)
      simpa [hz] using this
     have hl1 : (1 : Int) < (E.size : Int) := by omega
     have hne9 : ((((⟨#[32, 9]⟩ : ByteArray)[1]'(by decide)).toNat : Int) != ((E[1]'(by omega)).toNat : Int)) = true := by
      rw [bne_iff_ne]
      show (9 : Int) ≠ _
      omega
     clear e3 e1 e2
     go_wp2
     go_step3
     go_wp2
     go_quiet (fail)
     go_wp2
     go_quiet ((go_at_call 159; exact quiet_add_same (Tryz.strings_IndexByte _ _ _)))
     rename_i hcont
     refine hcont _ _ ?_
     have hneg : Lib.indexByte ByteArray.empty.data.toList (((E[1]'(by omega)).toNat : Int)).toNat.toUInt8 < 0 := by
      show (-1 : Int) < 0
      decide
     go_wp2
     simp only [Exit.noGoto_ret]
     go_wp2
     simp only [Exit.noGoto_ret]
     go_wp2
     try (simp only [Exit.noGoto_ret]; go_wp2)
     go_ret
     exact ⟨rfl, Go.Proofs.YtlicjpbmlmongaaGreatDoor.H.bdn (Below.refl _ _) _⟩
    ·have hge : ¬ (E.size : Int) - 1 < 2 := by omega
     go_wp2
     go_ret
     exact ⟨rfl, Below.refl _ _⟩
theorem below_iterAt {n : Nat} {w W : World} (h : Below n w W) (hn : n ≤ W.heap.size) (k : Nat) (hk : n ≤ k) (s : ByteArray) (p : Nat) : Below n w (W.iterAt k s p) :=
 ⟨h.os, h.tape, h.output, by have := h.size; simp [World.iterAt]; omega, fun i hi => by rw [Lib.iterAt_other _ _ _ _ _ (by omega)]; exact h.block i hi⟩
set_option maxHeartbeats 4000000 in
set_option maxRecDepth 100000 in
theorem indexAny_short (s : ByteArray) (w : World) (h8 : s.size ≤ 8) :
  Calls Tryz.prog 160 #[.string s, .string ⟨#[32, 9]⟩] w fun e w' => e = .returned (.int .i64 (Lib.indexAny s.data.toList [32, 9])) ∧ Below w.heap.size w w' := by
 have h8z : decide ((8 : Int) < (s.size : Int)) = false := decide_eq_false (by omega)
 have H8 := Lib.hid h8z
 clear h8z
 go_enter Tryz.func160, Tryz.ntmps160
 go_wp2_with (go_at_call 176; refine (Tryz.strings_shouldUseASCIISet _ _).mono ?_; rintro e w' ⟨rfl, hw⟩; rw [hw, H8.out]; clear hw)
 have hk0 : (w.iter s 0).heap[w.heap.size]? = some (.stringIter s 0) := World.iter_heap _ _ _
 go_loopg [9, 10] s.size (fun g _ _ wx => ∃ i : Nat, i + g = s.size ∧ Hid (wx.heap[w.heap.size]? = some (.stringIter s i)) ∧ Hid (Below w.heap.size w wx) ∧ Hid (Lib.NoAny s.data.toList [32, 9] i))
 case atStart => exact ⟨0, by omega, Lib.hid hk0, Lib.hid ((Below.refl _ _).alloc (Nat.le_refl _) _), Lib.hid (Lib.NoAny.zero _ _)⟩
 case round =>
  clear hk0
  obtain ⟨i, hig, hk, hb, hno⟩ := hrel
  have hz := Go.Proofs.YtlicjpbmlmongaaGreatDoor.H.bsize hb.out
  cases gk with
  | zero =>
   obtain rfl : i = s.size := by omega
   have hnx := fun ty => Lib.run_next_end_at (P := Tryz.prog) wr w.heap.size s s.size ty hk.out (by omega)
   go_wp2
   go_ret
   exact ⟨by rw [Lib.indexAny_none (by rw [← Lib.size_eq]; exact hno.out)]; rfl, hb.out⟩
  | succ g =>
   have hi : i < s.size := by omega
   obtain ⟨x, hx⟩ : ∃ x : UInt8, s[i]'hi = x := ⟨_, rfl⟩
   have Hx := Lib.hid (show s.data.toList[i]? = some x by rw [← hx]; exact Lib.data_getElem? s i hi)
   have hcon := Lib.contains_iff_indexByte [32, 9] x
   have hback : ((x.toNat : Int)).toNat.toUInt8 = x := by simp
   have HK := Lib.hid hback
   by_cases h128 : x.toNat < 128
   ·have hnx := fun ty => Lib.run_next_ascii_at (P := Tryz.prog) wr w.heap.size s i ty hk.out hi (by rw [hx]; exact h128)
    rw [hx] at hnx
    have hk2 := Lib.hid (Lib.iterAt_heap wr w.heap.size s i (i + 1) hk.out)
    have hb2 := Lib.hid (below_iterAt hb.out hz w.heap.size (Nat.le_refl _) s (i + 1))
    have HX := Lib.hid hx
    clear hx hback
    cases hin : ([32, 9] : List UInt8).contains x
    ·rw [hin] at hcon
     have hlt : ¬ ((0 : Int) ≤ Lib.indexByte [32, 9] x) := of_decide_eq_false hcon.symm
     have HI := Lib.hid hin
     clear hcon hin
     go_wp2_with (go_at_call 175; refine (Tryz.strings_IndexRune_ascii _ _ _ (by omega) (by omega)).mono ?_; rintro e w' ⟨rfl, hw⟩; rw [hw, HK.out]; clear hw)
     go_roundg g
     case measure => omega
     case rel => exact ⟨i + 1, by omega, hk2, hb2, Lib.hid (hno.out.succ Hx.out HI.out)⟩
    ·rw [hin] at hcon
     have hge : (0 : Int) ≤ Lib.indexByte [32, 9] x := of_decide_eq_true hcon.symm
     have HI := Lib.hid hin
     clear hcon hin
     go_wp2_with (go_at_call 175; refine (Tryz.strings_IndexRune_ascii _ _ _ (by omega) (by omega)).mono ?_; rintro e w' ⟨rfl, hw⟩; rw [hw, HK.out]; clear hw)
     go_ret
     exact ⟨by rw [Lib.indexAny_hit hno.out Hx.out HI.out]; rfl, hb2.out⟩
   ·have ha : 128 ≤ (s[i]'hi).toNat := by rw [hx]; omega
    obtain ⟨d1, d2⟩ := decode_high s i hi ha
    have d3 := decode_le s i
    have d4 := (decode_bytes s i hi ha).1
    have hnx := fun ty => Lib.run_next_any_at (P := Tryz.prog) wr w.heap.size s i ty hk.out hi
    have hno2 := Lib.hid (noAny_rune s [32, 9] (by decide) i hi ha hno.out)
    have hk2 := Lib.hid (Lib.iterAt_heap wr w.heap.size s i (i + (Utf8.decode s i).2) hk.out)
    have hb2 := Lib.hid (below_iterAt hb.out hz w.heap.size (Nat.le_refl _) s (i + (Utf8.decode s i).2))
    clear hx hback hcon ha h128 Hx HK
    generalize Utf8.decode s i = dd at *
    obtain ⟨rr, sz⟩ := dd
    simp only at d1 d2 d3 d4 hnx hno2 hk2 hb2
    have hlt : w.heap.size < (wr.iterAt w.heap.size s (i + sz)).heap.size := (Array.getElem?_eq_some_iff.1 hk2.out).1
    go_wp2_with (go_at_call 175; refine (indexRune_high _ _ (by omega) (by omega)).mono ?_; rintro e w' ⟨rfl, hbw⟩)
    have hk3 := Lib.hid ((hbw.block w.heap.size hlt).trans hk2.out)
    have hb3 := Lib.hid (Go.Proofs.YtlicjpbmlmongaaGreatDoor.H.bth hb2.out hbw)
    clear hbw
    go_wp2
    go_roundg (g + 1 - sz)
    case measure => omega
    case rel => exact ⟨i + sz, by omega, hk3, hb3, hno2⟩
theorem zeroSet : (Tryz.prog.info? 214).map (fun i => (i.zero, i.size)) = some (some (.agg (Array.replicate 256 (.bool false))), 256) := by kernel_rfl
theorem indexAny_blank (s : ByteArray) (w : World) (hs : s.size < 4294967281) :
  Calls Tryz.prog 160 #[.string s, .string ⟨#[32, 9]⟩] w fun e w' => e = .returned (.int .i64 (Lib.indexAny s.data.toList [32, 9])) ∧ Below w.heap.size w w' := by
 by_cases h8 : s.size ≤ 8
 ·exact indexAny_short s w h8
 ·refine (Tryz.strings_IndexAny_long (zero_of_info zeroSet).1 s ⟨#[32, 9]⟩ w (by decide) (by omega) hs (by decide) (fun j b h => ?_)).mono fun e w' ⟨h1, h2⟩ => ⟨h1, ?_⟩
  ·have hm := List.mem_of_getElem? h
   simp at hm
   rcases hm with rfl | rfl <;> decide
  ·rw [h2]
   exact ((Below.refl _ _).alloc (Nat.le_refl _) _).alloc (by simp) _
theorem str_gtr (t : TypeId) (a b : ByteArray) : binOp .gtr t (.string a) (.string b) = pure (.bool !(Op.bytesLess a.toList b.toList || a.toList == b.toList)) := by simp [binOp, Op.stringOp]
attribute [local go_sem] str_gtr
set_option maxHeartbeats 1000000 in
theorem compareS_walk (a b : ByteArray) (w : World) :
  Calls Tryz.prog 86 #[.string a, .string b] w fun e w' => e = .returned (.int .i64 (cmpB a.data.toList b.data.toList)) ∧ w' = w := by
 have hs : ∀ x : ByteArray, (!(x.toList == x.toList)) = false := by intro x; simp
 unfold cmpB
 rw [← Lib.toList_data, ← Lib.toList_data]
 cases h1 : Op.bytesLess a.toList b.toList with
 | true =>
  go_enter Tryz.func86, Tryz.ntmps86
  go_wp2
  go_ret
  exact ⟨rfl, rfl⟩
 | false =>
  cases h2 : Op.bytesLess b.toList a.toList with
  | true =>
   have h3 : (a.toList == b.toList) = false := by
    rw [beq_eq_false_iff_ne]
    intro e
    rw [e, less_irrefl] at h2; cases h2
   go_enter Tryz.func86, Tryz.ntmps86
   go_wp2
   go_ret
   exact ⟨rfl, rfl⟩
  | false =>
   have h3 : (a.toList == b.toList) = true := by
    rw [beq_iff_eq]
    exact less_total _ _ h1 h2
   go_enter Tryz.func86, Tryz.ntmps86
   go_wp2
   go_ret
   exact ⟨rfl, rfl⟩
end Go.Proofs.YtlicjpbmlmongaaGreatDoor.K

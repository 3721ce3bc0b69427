import Derived.Test.YtlicjpbmlmongaaGreatDoorKFit
import Derived.Test.YtlicjpbmlmongaaGreatDoorKNum
import Derived.Laws.EntriesVeiled
import Derived.Deep.RegionHeld3
import Derived.Maps.AppendAt
set_option linter.unusedVariables false
set_option linter.unusedSimpArgs false
/- keys.Compare: two lines by an order. -/
namespace Go.Proofs.YtlicjpbmlmongaaGreatDoor.K
open Go.RowKit Go.Proofs.YtlicjpbmlmongaaGreatDoor.H Go.Proofs.YtlicjpbmlmongaaGreatDoorW.PrintWords
theorem andNot_up (n : Nat) (h1 : 97 ≤ n) (h2 : n ≤ 122) : bits BinOp.andNot IntKind.u8 (n : Int) 32 = (n : Int) - 32 := by
 have h : ∀ i : Fin 26, bits BinOp.andNot IntKind.u8 ((i.val + 97 : Nat) : Int) 32 = ((i.val + 65 : Nat) : Int) := by decide
 have := h ⟨n - 97, by omega⟩
 simp only at this
 rw [show n - 97 + 97 = n by omega] at this
 rw [this]
 omega
set_option maxHeartbeats 2000000 in
set_option maxRecDepth 100000 in
theorem kupper_walk (s : ByteArray) (w : World) (hs : s.size ≤ 140737488351232) :
  Calls Tryz.prog 136 #[.string s] w fun e w' => e = .returned (.string (bs (upL s.data.toList))) ∧ Below w.heap.size w w' := by
 have HL := Lib.hid (show s.data.toList.length = s.size from (Lib.size_eq s).symm)
 have hrow := Lib.hid (rowB_bytes w 5 s)
 have hbel := Lib.hid (bby (Below.refl w.heap.size w) 5 s)
 go_enter Tryz.func136, Tryz.ntmps136
 go_wp2
 go_loopw [4, 5, 10] (fun _ _ i wr => ∃ k : Nat, k ≤ s.size ∧ i = .int .i64 k ∧ Hid (RowB wr w.heap.size (turned upC s.data.toList k)) ∧ Hid (Below w.heap.size w wr)) (fun _ _ i _ => s.size - (intOf i).toNat)
 case atStart => exact ⟨0, Nat.zero_le _, rfl, Lib.hid (by rw [turned_zero]; exact hrow.out), hbel⟩
 case round =>
  obtain ⟨k, hk, rfl, hr, hb⟩ := hrel
  by_cases hlt : k < s.size
  ·have hkl : k < s.data.toList.length := by rw [HL.out]; exact hlt
   obtain ⟨hc0, hf0⟩ := hr.out k (by rw [turned_len]; exact hkl)
   rw [turned_at upC _ k hkl] at hc0
   have hts := Lib.hid (turned_set upC s.data.toList k hkl)
   have htt := Lib.hid (turned_same upC s.data.toList k hkl)
   generalize s.data.toList[k] = c at hc0 hts htt
   by_cases h97 : (97 : Int) ≤ (c.toNat : Int)
   ·by_cases h122 : (c.toNat : Int) ≤ 122
    ·have hu := Lib.hid (upC_small c ⟨h97, h122⟩)
     have hset := Lib.hid (hr.out.set k (by rw [turned_len]; exact hkl) (upC c))
     have hv := Lib.hid (show bits BinOp.andNot IntKind.u8 (c.toNat : Int) 32 = ((upC c).toNat : Int) by rw [andNot_up c.toNat (by omega) (by omega), hu.out])
     go_wp2
     go_roundw
     case rel => exact ⟨k + 1, by omega, by go_num, Lib.hid (by rw [← hts.out, hv.out]; exact hset.out), Lib.hid (hb.out.setCell (p := ⟨w.heap.size, k, none⟩) (Nat.le_refl _) _)⟩
     case measure => simp [intOf]; omega
    ·have hu := Lib.hid (upC_other c (fun e => h122 e.2))
     have h122' : decide ((c.toNat : Int) ≤ 122) = false := decide_eq_false h122
     go_wp2
     go_roundw
     case rel => exact ⟨k + 1, by omega, by go_num, Lib.hid (by rw [htt.out hu.out]; exact hr.out), hb⟩
     case measure => simp [intOf]; omega
   ·have hu := Lib.hid (upC_other c (fun e => h97 e.1))
    have h97' : decide ((97 : Int) ≤ (c.toNat : Int)) = false := decide_eq_false h97
    go_wp2
    go_roundw
    case rel => exact ⟨k + 1, by omega, by go_num, Lib.hid (by rw [htt.out hu.out]; exact hr.out), hb⟩
    case measure => simp [intOf]; omega
  ·obtain rfl : k = s.size := by omega
   have hfin := hr.out
   rw [← HL.out, turned_all] at hfin
   change RowB wr w.heap.size (upL s.data.toList) at hfin
   have hcv := run_convert_bytes_back (P := Tryz.prog) wr 89 9 5 ⟨w.heap.size, 0, none⟩ (grownCap w s.size 0 5) (upL s.data.toList) Tryz.underlying89 Tryz.underlying5 Tryz.underlying9 (fun j hj => by
    have := (hfin j hj).1
    rw [add_plain]; simpa using this)
   rw [upL_len, HL.out] at hcv
   clear hfin
   go_wp2
   go_ret
   exact ⟨rfl, hb.out⟩
set_option maxHeartbeats 1000000 in
theorem fits1_walk (s : ByteArray) (w : World) :
  Calls Tryz.prog 134 #[.string s] w fun e w' => e = .returned (.string (bs (s.data.toList.dropWhile blankC))) ∧ Below w.heap.size w w' := by
 go_enter Tryz.func134, Tryz.ntmps134
 go_wp2_with (go_at_call 135; refine (Q.trimLeft_blanks _ _).mono ?_; rintro e w' ⟨rfl, hb⟩)
 go_ret
 exact ⟨rfl, hb⟩
/-- The functions that make keys fit. -/
def fitsV (bl fo : Bool) : List Value := (if bl = true then [.func (.func 134) #[] #[]] else []) ++ (if fo = true then [.func (.func 136) #[] #[]] else [])
theorem infoF : (Tryz.prog.info? 95).map (fun i => (i.zero, i.size, i.bytes)) = some (some .nilFunc, 1, 8) := by kernel_rfl
theorem own_nilF (W : World) (base : Nat) : W.ownsRow base 95 1 (.slice none 0 0) 0 [] := ⟨rfl, .inl ⟨rfl, rfl⟩⟩
theorem sliceF {w : World} {base e size n : Nat} {v : Value} {xs : List Value} (h : w.ownsRow base e size v n xs) : ∃ a m c, v = .slice a m c := by
 rcases h.2 with ⟨rfl, _⟩ | ⟨g, cap, cur, rfl, _⟩
 ·exact ⟨_, _, _, rfl⟩
 ·exact ⟨_, _, _, rfl⟩
set_option maxHeartbeats 2000000 in
set_option maxRecDepth 100000 in
theorem fits_walk (nu fo bl re : Bool) (f t : Int) (c6 : Int) (w : World) :
  Calls Tryz.prog 88 #[.agg #[.bool nu, .bool fo, .bool bl, .bool re, .int .i64 f, .int .i64 t, .int .u8 c6]] w fun e w' => ∃ v, e = .returned v ∧ w'.ownsRow w.heap.size 95 1 v (fitsV bl fo).length (fitsV bl fo) ∧ Below w.heap.size w w' := by
 obtain ⟨i0, hi, hz0, hz1, hz2⟩ := info_parts infoF
 cases bl <;> cases fo
 ·go_enter Tryz.func88, Tryz.ntmps88
  go_wp2
  go_ret
  exact ⟨_, rfl, own_nilF _ _, bal (Below.refl _ _) _⟩
 ·go_enter Tryz.func88, Tryz.ntmps88
  go_wp2_with (at_builtin; refine wpList_append_own _ rfl _ _ 93 rfl w.heap.size 95 i0 .nilFunc 1 8 Tryz.underlying93 hi hz0 hz1 hz2 rfl (by decide) _ _ _ rfl ((own_nilF _ _).alloc _) ⟨w.heap.size + 1, 0, none⟩ 1 1 [.func (.func 136) #[] #[]] rfl rfl ?c1 ?c2 ?c3 ?c4 ?c5 ?_)
  case c1 => have := cell_one_new (w.alloc (.cells #[.bool nu, .bool true, .bool false, .bool re, .int .i64 f, .int .i64 t, .int .u8 c6] 23)) (.func (.func 136) #[] #[]) 95; rw [World.size_alloc] at this; exact this
  case c2 => intro u hu; simp at hu; subst hu; rfl
  case c3 => unfold maxLen; simp
  case c4 => simp
  case c5 => simp; omega
  intro v1 w1 hown1 hg1 _
  have hB := Lib.hid (b_own (bal (bal (Below.refl _ _) _) _) ((own_nilF _ _).alloc _) hg1)
  have hO := Lib.hid hown1
  clear hown1 hg1
  go_wp2
  go_ret
  exact ⟨_, rfl, hO.out, hB.out⟩
 ·go_enter Tryz.func88, Tryz.ntmps88
  go_wp2_with (at_builtin; refine wpList_append_own _ rfl _ _ 93 rfl w.heap.size 95 i0 .nilFunc 1 8 Tryz.underlying93 hi hz0 hz1 hz2 rfl (by decide) _ _ _ rfl ((own_nilF _ _).alloc _) ⟨w.heap.size + 1, 0, none⟩ 1 1 [.func (.func 134) #[] #[]] rfl rfl ?c1 ?c2 ?c3 ?c4 ?c5 ?_)
  case c1 => have := cell_one_new (w.alloc (.cells #[.bool nu, .bool false, .bool true, .bool re, .int .i64 f, .int .i64 t, .int .u8 c6] 23)) (.func (.func 134) #[] #[]) 95; rw [World.size_alloc] at this; exact this
  case c2 => intro u hu; simp at hu; subst hu; rfl
  case c3 => unfold maxLen; simp
  case c4 => simp
  case c5 => simp; omega
  intro v1 w1 hown1 hg1 _
  have hB := Lib.hid (b_own (bal (bal (Below.refl _ _) _) _) ((own_nilF _ _).alloc _) hg1)
  have hO := Lib.hid hown1
  have hco : w1.cell? ⟨w.heap.size, 1, none⟩ = some (.bool false) := by
   have h1 := hg1.block w.heap.size (by simp; omega) (by simp [Value.ownBlock])
   rw [Lib.alloc_old _ _ _ (by simp)] at h1
   exact (Lib.cell_of_heap (h1.trans (World.alloc_heap_new w _)) 1).trans rfl
  clear hown1 hg1
  go_wp2
  go_ret
  exact ⟨_, rfl, hO.out, hB.out⟩
 ·go_enter Tryz.func88, Tryz.ntmps88
  go_wp2_with (at_builtin; refine wpList_append_own _ rfl _ _ 93 rfl w.heap.size 95 i0 .nilFunc 1 8 Tryz.underlying93 hi hz0 hz1 hz2 rfl (by decide) _ _ _ rfl ((own_nilF _ _).alloc _) ⟨w.heap.size + 1, 0, none⟩ 1 1 [.func (.func 134) #[] #[]] rfl rfl ?c1 ?c2 ?c3 ?c4 ?c5 ?_)
  case c1 => have := cell_one_new (w.alloc (.cells #[.bool nu, .bool true, .bool true, .bool re, .int .i64 f, .int .i64 t, .int .u8 c6] 23)) (.func (.func 134) #[] #[]) 95; rw [World.size_alloc] at this; exact this
  case c2 => intro u hu; simp at hu; subst hu; rfl
  case c3 => unfold maxLen; simp
  case c4 => simp
  case c5 => simp; omega
  intro v1 w1 hown1 hg1 _
  have hB := Lib.hid (b_own (bal (bal (Below.refl _ _) _) _) ((own_nilF _ _).alloc _) hg1)
  have hO := Lib.hid hown1
  have hco : w1.cell? ⟨w.heap.size, 1, none⟩ = some (.bool true) := by
   have h1 := hg1.block w.heap.size (by simp; omega) (by simp [Value.ownBlock])
   rw [Lib.alloc_old _ _ _ (by simp)] at h1
   exact (Lib.cell_of_heap (h1.trans (World.alloc_heap_new w _)) 1).trans rfl
  clear hown1 hg1
  obtain ⟨a1, m1, cp1, rfl⟩ := sliceF hO.out
  have hz := bsize hB.out
  go_wp2_with (at_builtin; refine wpList_append_own _ rfl _ _ 93 rfl w.heap.size 95 i0 .nilFunc 1 8 Tryz.underlying93 hi hz0 hz1 hz2 rfl (by decide) _ _ _ rfl (hO.out.alloc _) ⟨w1.heap.size, 0, none⟩ 1 1 [.func (.func 136) #[] #[]] rfl rfl ?d1 ?d2 ?d3 ?d4 ?d5 ?_)
  case d1 => exact cell_one_new _ _ _
  case d2 => intro u hu; simp at hu; subst hu; rfl
  case d3 => unfold maxLen; simp
  case d4 => simp
  case d5 => simp; omega
  intro v2 w2 hown2 hg2 _
  have hB2 := Lib.hid (b_own (bal hB.out _) (hO.out.alloc _) hg2)
  have hO2 := Lib.hid hown2
  clear hown2 hg2
  go_wp2
  go_ret
  exact ⟨_, rfl, hO2.out, hB2.out⟩
theorem rowF_cells {W : World} {base n : Nat} {v : Value} {l : List Value} (h : W.ownsRow base 95 1 v n l) (hn : n = l.length) :
  ∃ a cap, v = .slice a n cap ∧ ∀ k x, l[k]? = some x → ∃ g, a = some ⟨g, 0, none⟩ ∧ W.cell? ⟨g, k, none⟩ = some x ∧ g < W.heap.size := by
 rcases h.2 with ⟨h1, h2⟩ | ⟨g, cap, cur, h1, _, h3, _⟩
 ·exact ⟨none, 0, by rw [h1, h2], fun k x hk => by rw [List.eq_nil_of_length_eq_zero (by omega : l.length = 0)] at hk; cases hk⟩
 ·subst h1
  refine ⟨_, cap, rfl, fun k x hk => ⟨g, rfl, ?_, (Array.getElem?_eq_some_iff.1 h3).1⟩⟩
  have := h.cells (g := g) rfl k x (by simpa using hk)
  simpa [add_plain] using this
theorem ord_cells7 {W : World} {b : Nat} {nu fo bl re : Bool} {f t : Int} {c : UInt8} (h : W.heap[b]? = some (ordObj nu fo bl re f t c)) :
  W.cell? ⟨b, 0, none⟩ = some (.bool nu) ∧ W.cell? ⟨b, 1, none⟩ = some (.bool fo) ∧ W.cell? ⟨b, 2, none⟩ = some (.bool bl) ∧ W.cell? ⟨b, 3, none⟩ = some (.bool re) := by
 unfold ordObj at h
 exact ⟨by rw [Lib.cell_of_heap h]; rfl, by rw [Lib.cell_of_heap h]; rfl, by rw [Lib.cell_of_heap h]; rfl, by rw [Lib.cell_of_heap h]; rfl⟩
theorem bs_le_drop (s : ByteArray) : (bs (s.data.toList.dropWhile blankC)).size ≤ s.size := by
 rw [bs_size, Lib.size_eq]; exact (List.dropWhile_sublist _).length_le
set_option maxHeartbeats 4000000 in
set_option maxRecDepth 100000 in
theorem by_walk (nu fo bl re : Bool) (f t : Int) (c : UInt8) (Bo : Nat) (a b : ByteArray) (ha : a.size ≤ 140737488351232) (hb : b.size ≤ 140737488351232) (w : World) (hob : w.heap[Bo]? = some (ordObj nu fo bl re f t c)) :
  Calls Tryz.prog 87 #[.string a, .string b, .pointer (some ⟨Bo, 0, none⟩)] w fun e w' => e = .returned (.int .i64 (cmpB (fitL bl fo a.data.toList) (fitL bl fo b.data.toList))) ∧ Below w.heap.size w w' := by
 obtain ⟨d0, d1, d2, d3⟩ := ord_cells7 hob
 obtain ⟨d4, d5, d6⟩ := ord_cells hob
 clear hob
 have hda := bs_le_drop a
 have hdb := bs_le_drop b
 cases bl <;> cases fo
 ·go_enter Tryz.func87, Tryz.ntmps87
  go_wp2_with fail
  refine (fits_walk nu false false re f t (c.toNat : Int) _).mono ?_
  rintro e w1 ⟨v, rfl, hown, hb1⟩
  obtain ⟨sa, cap, rfl, hcl⟩ := rowF_cells hown rfl
  have HB := Lib.hid hb1
  clear hown hcl hb1 d0 d1 d2 d3 d4 d5 d6
  go_wp2
  go_loopw [0, 1, 7, 11] (fun x y _ i wr => i = .int .i64 0 ∧ x = .string a ∧ y = .string b ∧ Hid (Below w.heap.size w wr)) (fun _ _ _ _ _ => 0)
  case atStart => exact ⟨rfl, rfl, rfl, HB⟩
  case round =>
   obtain ⟨rfl, rfl, rfl, hbr⟩ := hrel
   go_wp2_with (go_at_call 86; refine (compareS_walk _ _ _).mono ?_; rintro e w' ⟨rfl, rfl⟩)
   go_ret
   exact ⟨rfl, hbr.out⟩
 ·go_enter Tryz.func87, Tryz.ntmps87
  go_wp2_with fail
  refine (fits_walk nu true false re f t (c.toNat : Int) _).mono ?_
  rintro e w1 ⟨v, rfl, hown, hb1⟩
  obtain ⟨sa, cap, rfl, hcl⟩ := rowF_cells hown rfl
  obtain ⟨g, rfl, hce, hgl⟩ := hcl 0 _ rfl
  have HB := Lib.hid hb1
  have HCE := Lib.hid (And.intro hce hgl)
  clear hown hcl hb1 hce hgl d0 d1 d2 d3 d4 d5 d6
  go_wp2
  go_loopw [0, 1, 7, 11] (fun x y _ i wr => ∃ k : Nat, k ≤ 1 ∧ i = .int .i64 k ∧ x = .string (if k = 0 then a else bs (upL a.data.toList)) ∧ y = .string (if k = 0 then b else bs (upL b.data.toList)) ∧ Hid (Below w1.heap.size w1 wr)) (fun _ _ _ i _ => 1 - (intOf i).toNat)
  case atStart => exact ⟨0, Nat.zero_le _, rfl, rfl, rfl, Lib.hid (Below.refl _ _)⟩
  case round =>
   obtain ⟨k, hk, rfl, rfl, rfl, hbr⟩ := hrel
   rcases (show k = 0 ∨ k = 1 by omega) with rfl | rfl
   ·have hce : wr.cell? ⟨g, 0, none⟩ = _ := (hbr.out.cell (p := ⟨g, 0, none⟩) HCE.out.2).trans HCE.out.1
    simp only [if_true]
    go_wp2_with fail
    refine (kupper_walk a _ (by omega)).mono ?_
    rintro e w2 ⟨rfl, hb2⟩
    have hb2' := Lib.hid (bth hbr.out hb2)
    have hce2 : w2.cell? ⟨g, 0, none⟩ = _ := (hb2.cell (p := ⟨g, 0, none⟩) (Nat.lt_of_lt_of_le HCE.out.2 hbr.out.size)).trans hce
    clear hb2
    go_wp2_with fail
    refine (kupper_walk b _ (by omega)).mono ?_
    rintro e w3 ⟨rfl, hb3⟩
    have hb3' := Lib.hid (bth hb2'.out hb3)
    clear hb3 hce hce2
    go_wp2
    go_roundw
    case rel => exact ⟨1, Nat.le_refl _, by go_num, rfl, rfl, hb3'⟩
    case measure => simp [intOf]
   ·simp only [if_neg Nat.one_ne_zero]
    go_wp2_with (go_at_call 86; refine (compareS_walk _ _ _).mono ?_; rintro e w' ⟨rfl, rfl⟩)
    go_ret
    exact ⟨by rw [bs_toList, bs_toList]; rfl, bth HB.out hbr.out⟩
 ·go_enter Tryz.func87, Tryz.ntmps87
  go_wp2_with fail
  refine (fits_walk nu false true re f t (c.toNat : Int) _).mono ?_
  rintro e w1 ⟨v, rfl, hown, hb1⟩
  obtain ⟨sa, cap, rfl, hcl⟩ := rowF_cells hown rfl
  obtain ⟨g, rfl, hce, hgl⟩ := hcl 0 _ rfl
  have HB := Lib.hid hb1
  have HCE := Lib.hid (And.intro hce hgl)
  clear hown hcl hb1 hce hgl d0 d1 d2 d3 d4 d5 d6
  go_wp2
  go_loopw [0, 1, 7, 11] (fun x y _ i wr => ∃ k : Nat, k ≤ 1 ∧ i = .int .i64 k ∧ x = .string (if k = 0 then a else bs (List.dropWhile blankC a.data.toList)) ∧ y = .string (if k = 0 then b else bs (List.dropWhile blankC b.data.toList)) ∧ Hid (Below w1.heap.size w1 wr)) (fun _ _ _ i _ => 1 - (intOf i).toNat)
  case atStart => exact ⟨0, Nat.zero_le _, rfl, rfl, rfl, Lib.hid (Below.refl _ _)⟩
  case round =>
   obtain ⟨k, hk, rfl, rfl, rfl, hbr⟩ := hrel
   rcases (show k = 0 ∨ k = 1 by omega) with rfl | rfl
   ·have hce : wr.cell? ⟨g, 0, none⟩ = _ := (hbr.out.cell (p := ⟨g, 0, none⟩) HCE.out.2).trans HCE.out.1
    simp only [if_true]
    go_wp2_with fail
    refine (fits1_walk a _).mono ?_
    rintro e w2 ⟨rfl, hb2⟩
    have hb2' := Lib.hid (bth hbr.out hb2)
    have hce2 : w2.cell? ⟨g, 0, none⟩ = _ := (hb2.cell (p := ⟨g, 0, none⟩) (Nat.lt_of_lt_of_le HCE.out.2 hbr.out.size)).trans hce
    clear hb2
    go_wp2_with fail
    refine (fits1_walk b _).mono ?_
    rintro e w3 ⟨rfl, hb3⟩
    have hb3' := Lib.hid (bth hb2'.out hb3)
    clear hb3 hce hce2
    go_wp2
    go_roundw
    case rel => exact ⟨1, Nat.le_refl _, by go_num, rfl, rfl, hb3'⟩
    case measure => simp [intOf]
   ·simp only [if_neg Nat.one_ne_zero]
    go_wp2_with (go_at_call 86; refine (compareS_walk _ _ _).mono ?_; rintro e w' ⟨rfl, rfl⟩)
    go_ret
    exact ⟨by rw [bs_toList, bs_toList]; rfl, bth HB.out hbr.out⟩
 ·go_enter Tryz.func87, Tryz.ntmps87
  go_wp2_with fail
  refine (fits_walk nu true true re f t (c.toNat : Int) _).mono ?_
  rintro e w1 ⟨v, rfl, hown, hb1⟩
  obtain ⟨sa, cap, rfl, hcl⟩ := rowF_cells hown rfl
  obtain ⟨g, rfl, hce, hgl⟩ := hcl 0 _ rfl
  obtain ⟨g', hg', hcf, _⟩ := hcl 1 _ rfl
  obtain rfl : g = g' := by injection hg' with h; injection h
  have HB := Lib.hid hb1
  have HCE := Lib.hid (And.intro hce hgl)
  have HCF := Lib.hid hcf
  clear hown hcl hb1 hce hgl hcf hg' d0 d1 d2 d3 d4 d5 d6
  go_wp2
  go_loopw [0, 1, 7, 11] (fun x y _ i wr => ∃ k : Nat, k ≤ 2 ∧ i = .int .i64 k ∧ x = .string (if k = 0 then a else if k = 1 then bs (List.dropWhile blankC a.data.toList) else bs (upL (List.dropWhile blankC a.data.toList))) ∧ y = .string (if k = 0 then b else if k = 1 then bs (List.dropWhile blankC b.data.toList) else bs (upL (List.dropWhile blankC b.data.toList))) ∧ Hid (Below w1.heap.size w1 wr)) (fun _ _ _ i _ => 2 - (intOf i).toNat)
  case atStart => exact ⟨0, Nat.zero_le _, rfl, rfl, rfl, Lib.hid (Below.refl _ _)⟩
  case round =>
   obtain ⟨k, hk, rfl, rfl, rfl, hbr⟩ := hrel
   rcases (show k = 0 ∨ k = 1 ∨ k = 2 by omega) with rfl | rfl | rfl
   ·have hce : wr.cell? ⟨g, 0, none⟩ = _ := (hbr.out.cell (p := ⟨g, 0, none⟩) HCE.out.2).trans HCE.out.1
    simp only [if_true]
    go_wp2_with fail
    refine (fits1_walk a _).mono ?_
    rintro e w2 ⟨rfl, hb2⟩
    have hb2' := Lib.hid (bth hbr.out hb2)
    have hce2 : w2.cell? ⟨g, 0, none⟩ = _ := (hb2.cell (p := ⟨g, 0, none⟩) (Nat.lt_of_lt_of_le HCE.out.2 hbr.out.size)).trans hce
    clear hb2
    go_wp2_with fail
    refine (fits1_walk b _).mono ?_
    rintro e w3 ⟨rfl, hb3⟩
    have hb3' := Lib.hid (bth hb2'.out hb3)
    clear hb3 hce hce2
    go_wp2
    go_roundw
    case rel => exact ⟨1, by omega, by go_num, rfl, rfl, hb3'⟩
    case measure => simp [intOf]
   ·have hce : wr.cell? ⟨g, 1, none⟩ = _ := (hbr.out.cell (p := ⟨g, 1, none⟩) HCE.out.2).trans HCF.out
    simp only [if_neg Nat.one_ne_zero, if_true]
    go_wp2_with fail
    refine (kupper_walk (bs (List.dropWhile blankC a.data.toList)) _ (by omega)).mono ?_
    rintro e w2 ⟨rfl, hb2⟩
    have hb2' := Lib.hid (bth hbr.out hb2)
    have hce2 : w2.cell? ⟨g, 1, none⟩ = _ := (hb2.cell (p := ⟨g, 1, none⟩) (Nat.lt_of_lt_of_le HCE.out.2 hbr.out.size)).trans hce
    clear hb2
    go_wp2_with fail
    refine (kupper_walk (bs (List.dropWhile blankC b.data.toList)) _ (by omega)).mono ?_
    rintro e w3 ⟨rfl, hb3⟩
    have hb3' := Lib.hid (bth hb2'.out hb3)
    clear hb3 hce hce2
    rw [bs_toList, bs_toList]
    go_wp2
    go_roundw
    case rel => exact ⟨2, by omega, by go_num, rfl, rfl, hb3'⟩
    case measure => simp [intOf]
   ·simp only [if_neg (show ¬ (2 : Nat) = 0 by decide), if_neg (show ¬ (2 : Nat) = 1 by decide)]
    go_wp2_with (go_at_call 86; refine (compareS_walk _ _ _).mono ?_; rintro e w' ⟨rfl, rfl⟩)
    go_ret
    exact ⟨by rw [bs_toList, bs_toList]; rfl, bth HB.out hbr.out⟩
end Go.Proofs.YtlicjpbmlmongaaGreatDoor.K
/- keys.Compare: two lines by an order. -/
namespace Go.Proofs.YtlicjpbmlmongaaGreatDoor.K
open Go.RowKit Go.Proofs.YtlicjpbmlmongaaGreatDoor.H Go.Proofs.YtlicjpbmlmongaaGreatDoorW.PrintWords
theorem u8_of (c : UInt8) : Q.u8 (c.toNat : Int) = c := by unfold Q.u8; simp
/-- The order's block, its cells, and what lay below. -/
structure Held (w : World) (g : Nat) (nu fo bl re : Bool) (f t : Int) (c : UInt8) (w' : World) : Prop where
 at_ : w'.heap[g]? = some (ordObj nu fo bl re f t c)
 low : Below w.heap.size w w'
theorem Held.cells {w w' : World} {g : Nat} {nu fo bl re : Bool} {f t : Int} {c : UInt8} (h : Held w g nu fo bl re f t c w') :
  w'.cell? ⟨g, 0, none⟩ = some (.bool nu) ∧ w'.cell? ⟨g, 1, none⟩ = some (.bool fo) ∧ w'.cell? ⟨g, 2, none⟩ = some (.bool bl) ∧ w'.cell? ⟨g, 3, none⟩ = some (.bool re) ∧
  w'.cell? ⟨g, 4, none⟩ = some (.int .i64 f) ∧ w'.cell? ⟨g, 5, none⟩ = some (.int .i64 t) ∧ w'.cell? ⟨g, 6, none⟩ = some (.int .u8 (c.toNat : Int)) := by
 obtain ⟨h0, h1, h2, h3⟩ := ord_cells7 h.at_
 obtain ⟨h4, h5, h6⟩ := ord_cells h.at_
 exact ⟨h0, h1, h2, h3, h4, h5, h6⟩
theorem Held.all {w w' : World} {g : Nat} {nu fo bl re : Bool} {f t : Int} {c : UInt8} (h : Held w g nu fo bl re f t c w') :
  Held w g nu fo bl re f t c w' ∧ w'.cell? ⟨g, 0, none⟩ = some (.bool nu) ∧ w'.cell? ⟨g, 1, none⟩ = some (.bool fo) ∧ w'.cell? ⟨g, 2, none⟩ = some (.bool bl) ∧ w'.cell? ⟨g, 3, none⟩ = some (.bool re) ∧
  w'.cell? ⟨g, 4, none⟩ = some (.int .i64 f) ∧ w'.cell? ⟨g, 5, none⟩ = some (.int .i64 t) ∧ w'.cell? ⟨g, 6, none⟩ = some (.int .u8 (c.toNat : Int)) := ⟨h, h.cells⟩
theorem Held.on {w w1 w2 : World} {g : Nat} {nu fo bl re : Bool} {f t : Int} {c : UInt8} (h : Held w g nu fo bl re f t c w1) (k : Below w1.heap.size w1 w2) : Held w g nu fo bl re f t c w2 :=
 ⟨(k.block g (Array.getElem?_eq_some_iff.1 h.at_).1).trans h.at_, bth h.low k⟩
theorem Held.heap {w w1 : World} {g : Nat} {nu fo bl re : Bool} {f t : Int} {c : UInt8} (h : Held w g nu fo bl re f t c w1) : w1.heap[g]? = some (ordObj nu fo bl re f t c) := h.at_
theorem Held.drew {w w1 : World} {g : Nat} {nu fo bl re : Bool} {f t : Int} {c : UInt8} (h : Held w g nu fo bl re f t c w1) : Held w g nu fo bl re f t c w1.drew := ⟨h.at_, bdr h.low⟩
theorem Held.keep {w w1 w2 : World} {g : Nat} {nu fo bl re : Bool} {f t : Int} {c : UInt8} (h : Held w g nu fo bl re f t c w1 ∧ w1.cell? ⟨g, 0, none⟩ = some (.bool nu) ∧ w1.cell? ⟨g, 1, none⟩ = some (.bool fo) ∧ w1.cell? ⟨g, 2, none⟩ = some (.bool bl) ∧ w1.cell? ⟨g, 3, none⟩ = some (.bool re) ∧ w1.cell? ⟨g, 4, none⟩ = some (.int .i64 f) ∧ w1.cell? ⟨g, 5, none⟩ = some (.int .i64 t) ∧ w1.cell? ⟨g, 6, none⟩ = some (.int .u8 (c.toNat : Int))) (k : Below w1.heap.size w1 w2) :
  Held w g nu fo bl re f t c w2 ∧ w2.cell? ⟨g, 0, none⟩ = some (.bool nu) ∧ w2.cell? ⟨g, 1, none⟩ = some (.bool fo) ∧ w2.cell? ⟨g, 2, none⟩ = some (.bool bl) ∧ w2.cell? ⟨g, 3, none⟩ = some (.bool re) ∧ w2.cell? ⟨g, 4, none⟩ = some (.int .i64 f) ∧ w2.cell? ⟨g, 5, none⟩ = some (.int .i64 t) ∧ w2.cell? ⟨g, 6, none⟩ = some (.int .u8 (c.toNat : Int)) := (h.1.on k).all
theorem Held.keepD {w w1 w2 : World} {g : Nat} {nu fo bl re : Bool} {f t : Int} {c : UInt8} (h : Held w g nu fo bl re f t c w1 ∧ w1.cell? ⟨g, 0, none⟩ = some (.bool nu) ∧ w1.cell? ⟨g, 1, none⟩ = some (.bool fo) ∧ w1.cell? ⟨g, 2, none⟩ = some (.bool bl) ∧ w1.cell? ⟨g, 3, none⟩ = some (.bool re) ∧ w1.cell? ⟨g, 4, none⟩ = some (.int .i64 f) ∧ w1.cell? ⟨g, 5, none⟩ = some (.int .i64 t) ∧ w1.cell? ⟨g, 6, none⟩ = some (.int .u8 (c.toNat : Int))) :
  Held w g nu fo bl re f t c w1.drew ∧ w1.drew.cell? ⟨g, 0, none⟩ = some (.bool nu) ∧ w1.drew.cell? ⟨g, 1, none⟩ = some (.bool fo) ∧ w1.drew.cell? ⟨g, 2, none⟩ = some (.bool bl) ∧ w1.drew.cell? ⟨g, 3, none⟩ = some (.bool re) ∧ w1.drew.cell? ⟨g, 4, none⟩ = some (.int .i64 f) ∧ w1.drew.cell? ⟨g, 5, none⟩ = some (.int .i64 t) ∧ w1.drew.cell? ⟨g, 6, none⟩ = some (.int .u8 (c.toNat : Int)) := h.1.drew.all
theorem byO_neg (nu fo bl : Bool) (x y : List UInt8) : wrap64 (- byO nu fo bl x y) = - byO nu fo bl x y := by
 rcases (Ord.byO nu fo bl).one x y with h | h | h <;> rw [h] <;> (unfold wrap64; omega)
theorem keyO_len (f t : Int) (c : UInt8) (l : List UInt8) : (keyO f t c l).length ≤ l.length := by
 unfold keyO
 split
 ·split
  ·exact Nat.le_refl _
  ·unfold keyP cutL
   rw [List.length_take, List.length_drop]
   omega
 ·exact Nat.zero_le _
set_option maxHeartbeats 4000000 in
set_option maxRecDepth 100000 in
theorem comp_walk (nu fo bl re : Bool) (f t : Int) (c : UInt8) (a b : ByteArray) (ha : a.size ≤ 4294967280) (hb : b.size ≤ 4294967280) (w : World) :
  Calls Tryz.prog 25 #[.agg #[.bool nu, .bool fo, .bool bl, .bool re, .int .i64 f, .int .i64 t, .int .u8 (c.toNat : Int)], .string a, .string b] w fun e w' => e = .returned (.int .i64 (cmpO nu fo bl re f t c a.data.toList b.data.toList)) ∧ Below w.heap.size w w' := by
 have hKa : Q.keys_Key.f nu fo bl re f t (c.toNat : Int) a = some (bs (keyO f t c a.data.toList)) := by
  unfold Q.keys_Key.f
  rw [if_pos ⟨⟨by omega, by have := c.toNat_lt; omega⟩, ha⟩, u8_of]
 have hKb : Q.keys_Key.f nu fo bl re f t (c.toNat : Int) b = some (bs (keyO f t c b.data.toList)) := by
  unfold Q.keys_Key.f
  rw [if_pos ⟨⟨by omega, by have := c.toNat_lt; omega⟩, hb⟩, u8_of]
 have hsa : (bs (keyO f t c a.data.toList)).size ≤ 4294967280 := by
  rw [bs_size]; have := keyO_len f t c a.data.toList; rw [← Lib.size_eq] at this; omega
 have hsb : (bs (keyO f t c b.data.toList)).size ≤ 4294967280 := by
  rw [bs_size]; have := keyO_len f t c b.data.toList; rw [← Lib.size_eq] at this; omega
 have hneg := Lib.hid (byO_neg nu fo bl (keyO f t c a.data.toList) (keyO f t c b.data.toList))
 have hcm : cmpO nu fo bl re f t c a.data.toList b.data.toList = if checkO f t c = true then (if re = true then - byO nu fo bl (keyO f t c a.data.toList) (keyO f t c b.data.toList) else byO nu fo bl (keyO f t c a.data.toList) (keyO f t c b.data.toList)) else 0 := rfl
 rw [hcm]
 have HKa := Lib.hid hKa
 have HKb := Lib.hid hKb
 clear hKa hKb hcm
 go_enter Tryz.func25, Tryz.ntmps25
 go_wp2_with fail
 refine (Q.keys_Check.calls 1 nu fo bl re f t (c.toNat : Int) _ _ (Q.check_f 0 nu fo bl re f t c)).mono ?_
 rintro e w1 ⟨rfl, hb1⟩
 have hh : Held w w.heap.size nu fo bl re f t c w1 := ⟨(hb1.block w.heap.size (by simp)).trans (World.alloc_heap_new w _), bth (bal (Below.refl _ _) _) hb1⟩
 clear hb1
 have HH := Lib.hid hh
 cases hck : checkO f t c
 ·go_wp2
  all_goals (go_ret; exact ⟨rfl, HH.out.low⟩)
 ·obtain ⟨d0, d1, d2, d3, d4, d5, d6⟩ := hh.cells
  have HH2 := HH.out.all
  clear hh
  cases nu
  ·go_wp2_with fail
   go_region_held3 (fun w' => Held w w.heap.size false fo bl re f t c w' ∧ w'.cell? ⟨w.heap.size, 0, none⟩ = some (.bool false) ∧ w'.cell? ⟨w.heap.size, 1, none⟩ = some (.bool fo) ∧ w'.cell? ⟨w.heap.size, 2, none⟩ = some (.bool bl) ∧ w'.cell? ⟨w.heap.size, 3, none⟩ = some (.bool re) ∧ w'.cell? ⟨w.heap.size, 4, none⟩ = some (.int .i64 f) ∧ w'.cell? ⟨w.heap.size, 5, none⟩ = some (.int .i64 t) ∧ w'.cell? ⟨w.heap.size, 6, none⟩ = some (.int .u8 (c.toNat : Int))) (first | assumption | exact Held.keep (by assumption) hbq | exact Held.all (Held.drew HH.out) | exact Held.keepD (by assumption)) ((first | (go_at_call 90; with_reducible refine (Q.keys_Key.calls false fo bl re f t (c.toNat : Int) a _ _ HKa.out).mono ?_; rintro e w' ⟨rfl, hbq⟩) | (go_at_call 90; with_reducible refine (Q.keys_Key.calls false fo bl re f t (c.toNat : Int) b _ _ HKb.out).mono ?_; rintro e w' ⟨rfl, hbq⟩) | (go_at_call 87; with_reducible refine (by_walk false fo bl re f t c w.heap.size (bs (keyO f t c a.data.toList)) (bs (keyO f t c b.data.toList)) (by omega) (by omega) _ (Held.heap (And.left (by assumption)))).mono ?_; rintro e w' ⟨rfl, hbq⟩)))
   obtain ⟨hF, e0, e1, e2, e3, e4, e5, e6⟩ := (show Held w w.heap.size false fo bl re f t c _ ∧ _ from by assumption)
   have HF := Lib.hid hF.low
   have HE := Lib.hid e3
   clear hF e0 e1 e2 e4 e5 e6 e3
   rw [bs_toList, bs_toList]
   cases re
   ·have e3 := HE.out
    go_wp2
    go_ret
    exact ⟨rfl, HF.out⟩
   ·have e3 := HE.out
    go_wp2
    go_ret
    exact ⟨by rw [← hneg.out]; rfl, HF.out⟩
  ·go_wp2_with fail
   go_region_held3 (fun w' => Held w w.heap.size true fo bl re f t c w' ∧ w'.cell? ⟨w.heap.size, 0, none⟩ = some (.bool true) ∧ w'.cell? ⟨w.heap.size, 1, none⟩ = some (.bool fo) ∧ w'.cell? ⟨w.heap.size, 2, none⟩ = some (.bool bl) ∧ w'.cell? ⟨w.heap.size, 3, none⟩ = some (.bool re) ∧ w'.cell? ⟨w.heap.size, 4, none⟩ = some (.int .i64 f) ∧ w'.cell? ⟨w.heap.size, 5, none⟩ = some (.int .i64 t) ∧ w'.cell? ⟨w.heap.size, 6, none⟩ = some (.int .u8 (c.toNat : Int))) (first | assumption | exact Held.keep (by assumption) hbq | exact Held.all (Held.drew HH.out) | exact Held.keepD (by assumption)) ((first | (go_at_call 90; with_reducible refine (Q.keys_Key.calls true fo bl re f t (c.toNat : Int) a _ _ HKa.out).mono ?_; rintro e w' ⟨rfl, hbq⟩) | (go_at_call 90; with_reducible refine (Q.keys_Key.calls true fo bl re f t (c.toNat : Int) b _ _ HKb.out).mono ?_; rintro e w' ⟨rfl, hbq⟩) | (go_at_call 89; with_reducible refine (Q.keys_Number.calls 4 (bs (keyO f t c a.data.toList)) (bs (keyO f t c b.data.toList)) _ _ (Q.number_f 0 _ _ (by omega) (by omega))).mono ?_; rintro e w' ⟨rfl, hbq⟩)))
   obtain ⟨hF, e0, e1, e2, e3, e4, e5, e6⟩ := (show Held w w.heap.size true fo bl re f t c _ ∧ _ from by assumption)
   have HF := Lib.hid hF.low
   have HE := Lib.hid e3
   clear hF e0 e1 e2 e4 e5 e6 e3
   rw [bs_toList, bs_toList]
   cases re
   ·have e3 := HE.out
    go_wp2
    go_ret
    exact ⟨rfl, HF.out⟩
   ·have e3 := HE.out
    go_wp2
    go_ret
    exact ⟨by rw [← hneg.out]; rfl, HF.out⟩
end Go.Proofs.YtlicjpbmlmongaaGreatDoor.K
namespace Go.Proofs.YtlicjpbmlmongaaGreatDoor.Q
open Go.RowKit Go.Proofs.YtlicjpbmlmongaaGreatDoor.H Go.Proofs.YtlicjpbmlmongaaGreatDoorW.PrintWords Go.Proofs.YtlicjpbmlmongaaGreatDoor.K
def keys_Compare.f (a0_0 : Bool) (a0_1 : Bool) (a0_2 : Bool) (a0_3 : Bool) (a0_4 : Int) (a0_5 : Int) (a0_6 : Int) (a1 : ByteArray) (a2 : ByteArray) : Option (Int) :=
 if (0 ≤ a0_6 ∧ a0_6 ≤ 255) ∧ a1.size ≤ 4294967280 ∧ a2.size ≤ 4294967280 then some (cmpO a0_0 a0_1 a0_2 a0_3 a0_4 a0_5 (u8 a0_6) a1.data.toList a2.data.toList) else none
theorem keys_Compare.calls (a0_0 : Bool) (a0_1 : Bool) (a0_2 : Bool) (a0_3 : Bool) (a0_4 : Int) (a0_5 : Int) (a0_6 : Int) (a1 : ByteArray) (a2 : ByteArray) (r : Int) (w : World) (h : keys_Compare.f a0_0 a0_1 a0_2 a0_3 a0_4 a0_5 a0_6 a1 a2 = some r) :
  Calls Tryz.prog 25 #[.agg #[.bool a0_0, .bool a0_1, .bool a0_2, .bool a0_3, .int .i64 a0_4, .int .i64 a0_5, .int .u8 a0_6], .string a1, .string a2] w fun e w' => e = .returned (.int .i64 r) ∧ Below w.heap.size w w' := by
 unfold keys_Compare.f at h
 split at h
 ·rename_i hl
  obtain rfl := Option.some.inj h
  have e6 := u8_nat hl.1
  generalize u8 a0_6 = c at e6 ⊢
  subst e6
  exact comp_walk a0_0 a0_1 a0_2 a0_3 a0_4 a0_5 c a1 a2 hl.2.1 hl.2.2 w
 ·cases h
end Go.Proofs.YtlicjpbmlmongaaGreatDoor.Q
namespace Go.Proofs.YtlicjpbmlmongaaGreatDoor.K
open Go.RowKit Go.Proofs.YtlicjpbmlmongaaGreatDoor.H Go.Proofs.YtlicjpbmlmongaaGreatDoorW.PrintWords
theorem comp_f {nu fo bl re : Bool} {f t c : Int} {a b : ByteArray} (h : 0 ≤ c ∧ c ≤ 255) (ha : a.size ≤ 4294967280) (hb : b.size ≤ 4294967280) :
  Q.keys_Compare.f nu fo bl re f t c a b = some (cmpO nu fo bl re f t (Q.u8 c) a.data.toList b.data.toList) := by
 unfold Q.keys_Compare.f
 rw [if_pos ⟨h, ha, hb⟩]
theorem one_neg {n : Int} (h : n = -1 ∨ n = 0 ∨ n = 1) : wrap64 (-n) = -n := by
 rcases h with h | h | h <;> rw [h] <;> (unfold wrap64; omega)
end Go.Proofs.YtlicjpbmlmongaaGreatDoor.K

import Derived.Test.YtlicjpbmlmongaaGreatDoorKRune
import Derived.Shelf.Strings.SlTrimAscii
import Derived.RangeFuncNested
import Derived.RangeFuncBound
import Derived.RangeFuncCalls
import Derived.RangeFuncLeaves
import Derived.RangeFuncBox
import Derived.Shelf.Abstract
import Derived.Shelf.RegionOpen
import Derived.WalkKit
import Derived.OwnWalkIn
import Derived.TacticsInMore
import Derived.LoopNIn
import Derived.LoopIn
import Derived.RegionIn
import Derived.Sort.BigQuietIn
import Derived.Maps.AppendAt
import Derived.WalkLawsBesides
import Derived.WalkSpells
import Derived.Outline
set_option linter.unusedVariables false
set_option linter.unusedSimpArgs false
/- keys.ends: the places at which the fields of a line begin and end, one after the other. -/
namespace Go.Proofs.YtlicjpbmlmongaaGreatDoor.K
open Go.RowKit Go.Shelf Go.BigFrame Go.Proofs.YtlicjpbmlmongaaGreatDoor.H
attribute [local go_sem] Oper.semAt_some
/-- Two blocks lie as they lay. -/
def Keep2 (a b : Nat) (A B : World) : Prop := B.heap[a]? = A.heap[a]? ∧ B.heap[b]? = A.heap[b]?
theorem Keep2.refl (a b : Nat) (A : World) : Keep2 a b A A := ⟨rfl, rfl⟩
theorem Keep2.trans {a b : Nat} {A B C : World} (h : Keep2 a b A B) (k : Keep2 a b B C) : Keep2 a b A C := ⟨k.1.trans h.1, k.2.trans h.2⟩
theorem Keep2.drewN {a b : Nat} {A B : World} (h : Keep2 a b A B) (n : Nat) : Keep2 a b A (B.drewN n) := h
theorem Keep2.below {a b : Nat} {A B C : World} (h : Keep2 a b A B) (ha : a < B.heap.size) (hb : b < B.heap.size) (k : Below B.heap.size B C) : Keep2 a b A C := ⟨(k.block a ha).trans h.1, (k.block b hb).trans h.2⟩
theorem cell_same {A B : World} {b : Nat} (h : B.heap[b]? = A.heap[b]?) (o : Nat) : B.cell? ⟨b, o, none⟩ = A.cell? ⟨b, o, none⟩ := by simp [World.cell?, h]
theorem lt_of_cell {W : World} {b o : Nat} {v : Value} (h : W.cell? ⟨b, o, none⟩ = some v) : b < W.heap.size := by
 rcases Nat.lt_or_ge b W.heap.size with h' | h'
 ·exact h'
 ·simp [World.cell?, Array.getElem?_eq_none h'] at h
theorem grown_of_below {W W' : World} (h : Below W.heap.size W W') : W.grownBy W' none := ⟨h.os, h.tape, h.output, h.size, fun k hk _ => h.block k hk⟩
theorem grown_drewN (W : World) (m : Nat) : W.grownBy (W.drewN m) none := ⟨rfl, rfl, rfl, Nat.le_refl _, fun _ _ _ => rfl⟩
def bs (l : List UInt8) : ByteArray := ⟨l.toArray⟩
theorem bs_toList (l : List UInt8) : (bs l).data.toList = l := by simp [bs]
theorem bs_size (l : List UInt8) : (bs l).size = l.length := by rw [Lib.size_eq, bs_toList]
theorem bs_of (s : ByteArray) : bs s.data.toList = s := by unfold bs; rw [Array.toArray_toList]
theorem ext_bytes {a b : ByteArray} (h : a.data.toList = b.data.toList) : a = b := by rw [← bs_of a, ← bs_of b, h]
theorem extract_bs (s : ByteArray) (a b : Nat) : s.extract a b = bs ((s.data.toList.drop a).take (b - a)) := by
 apply ext_bytes
 rw [bs_toList, ← Lib.toList_data, Lib.extract_toList]
theorem extract_drop (s : ByteArray) (k : Nat) : (s.extract k s.size).data.toList = s.data.toList.drop k := by
 rw [extract_bs, bs_toList, Lib.size_eq, ← List.length_drop, List.take_length]
theorem sep_ne (c : UInt8) : ∀ (l : List UInt8) (a p : Nat), endsSep c l a p ≠ []
 | [], a, p => by simp [endsSep]
 | x :: r, a, p => by
  simp only [endsSep]
  split
  ·simp
  ·exact sep_ne c r _ _
set_option maxHeartbeats 4000000 in
set_option maxRecDepth 100000 in
theorem ends1_in (F : Fence) (n : Nat) (h37 : F.fn 158) (h38 : F.fn 159) (h39 : F.fn 135) (h40 : F.fn 160) (hro : F.round = none) (hn : 1 ≤ n) (l Bc Bs : Nat) (s : ByteArray) (c : UInt8) (hs : s.size ≤ 4294967280)
  (hIB : ∀ x w, CallsIn F (n - 1) Tryz.prog 159 #[.string x, .int .u8 (c.toNat : Int)] w fun e w' => e = .returned (.int .i64 (Lib.indexByte x.data.toList c)) ∧ w' = w)
  (hTL : ∀ x w, CallsIn F (n - 1) Tryz.prog 135 #[.string x, .string ⟨#[32, 9]⟩] w fun e w' => e = .returned (.string (bs (x.data.toList.dropWhile blankC))) ∧ Below w.heap.size w w')
  (hIA : ∀ x w, x.size ≤ 4294967280 → CallsIn F (n - 1) Tryz.prog 160 #[.string x, .string ⟨#[32, 9]⟩] w fun e w' => e = .returned (.int .i64 (Lib.indexAny x.data.toList [32, 9])) ∧ Below w.heap.size w w')
  (J Jx : List (Nat × Nat) → World → Prop)
  (hJ : ∀ pre A B, J pre A → A.grownBy B none → J pre B)
  (hY : ∀ pre (x : Nat × Nat) W, J pre W → pre.length < s.size + 1 → YieldAt F (n - 1) Tryz.prog l #[.int .i64 (x.1 : Int), .int .i64 (x.2 : Int)] W fun e W' =>
   (e = .returned (.bool true) ∧ J (pre ++ [x]) W' ∧ Keep2 Bc Bs W W') ∨ (e = .returned (.bool false) ∧ Jx (pre ++ [x]) W'))
  (W : World) (hc : W.cell? ⟨Bc, 0, none⟩ = some (.int .u8 (c.toNat : Int))) (hsc : W.cell? ⟨Bs, 0, none⟩ = some (.string s)) (h0 : J [] W) :
  CallsIn F n Tryz.prog 158 #[.func (.yield l) #[] #[], .pointer (some ⟨Bc, 0, none⟩), .pointer (some ⟨Bs, 0, none⟩)] W fun e W' => (∃ v, e = .returned v) ∧
   ((∃ ys, ys = endsOf c s.data.toList ∧ J ys W') ∨ (∃ pre, pre <+: endsOf c s.data.toList ∧ Jx pre W')) := by
 have hlen : s.data.toList.length = s.size := (Lib.size_eq s).symm
 have HL := Lib.hid hlen
 clear hlen
 refine callsIn_of_wp Tryz.func158 rfl h37 ?_ hro
 simp only [Tryz.ntmps158, List.size_toArray, List.length_cons, List.length_nil, Nat.reduceAdd, Nat.reduceSub, Array.replicate_succ, Array.replicate_zero, List.push_toArray, List.append_toArray, List.nil_append, List.cons_append]
 have hmx : Tryz.prog.follows .mixedOrders = true := by kernel_rfl
 by_cases hz : c = 0
 ·have hcz : ((c.toNat : Int) != 0) = false := by rw [hz]; rfl
  have HE := Lib.hid (show endsOf c s.data.toList = endsBl s.data.toList 0 0 false by unfold endsOf; rw [if_pos hz])
  clear hz
  gi_wp2
  gi_loopw [4, 5] (fun i _ wr => i = .int .i64 0 ∧ Hid (J [] wr) ∧ Hid (Keep2 Bc Bs W wr)) (fun _ _ _ => 0)
  case atStart => exact ⟨rfl, Lib.hid h0, Lib.hid (Keep2.refl _ _ _)⟩
  case round =>
   obtain ⟨rfl, hj0, hb0⟩ := hrel
   have cc : wr.cell? ⟨Bc, 0, none⟩ = some (.int .u8 (c.toNat : Int)) := (cell_same hb0.out.1 0).trans hc
   gi_wp2
   gi_loopw [6, 7, 8, 9] (fun i _ _ _ wr => ∃ (k : Nat) (pre : List (Nat × Nat)), k ≤ s.size ∧ i = .int .i64 k ∧ Hid (pre ++ endsBl (s.data.toList.drop k) k k false = endsOf c s.data.toList) ∧ Hid (J pre wr) ∧ Hid (Keep2 Bc Bs W wr)) (fun i _ _ _ _ => s.size - (intOf i).toNat)
   case atStart => exact ⟨0, [], Nat.zero_le _, rfl, Lib.hid (by rw [HE.out]; rfl), hj0, hb0⟩
   case round =>
    clear cc hj0 hb0
    obtain ⟨k, pre, hk, rfl, hp, hj, hb⟩ := hrel
    have cs : wr.cell? ⟨Bs, 0, none⟩ = some (.string s) := (cell_same hb.out.2 0).trans hsc
    have cc : wr.cell? ⟨Bc, 0, none⟩ = some (.int .u8 (c.toNat : Int)) := (cell_same hb.out.1 0).trans hc
    have hlk : (s.data.toList.drop k).length = s.size - k := by rw [List.length_drop, HL.out]
    have HLK := Lib.hid hlk
    clear hlk
    by_cases hlt : k < s.size
    ·have hne : s.data.toList.drop k ≠ [] := by intro e; have := congrArg List.length e; rw [HLK.out] at this; simp at this; omega
     have hpl : pre.length < s.size + 1 := by
      have h1 := congrArg List.length hp.out
      have h2 := ends_len c s.data.toList
      have h3 := congrArg List.length (bl_step _ hne k).1
      rw [List.length_append] at h1
      rw [HL.out] at h2
      simp only [List.length_cons] at h3
      omega
     obtain ⟨s1, s2, s3⟩ := bl_step _ hne k
     rw [HLK.out] at s3
     have HS := Lib.hid s1
     clear s1 hne
     gi_wp2_with fail
     refine (hTL _ _).mono ?_
     rintro e w1 ⟨rfl, hb1⟩
     rw [extract_drop]
     have hcs1 : w1.cell? ⟨Bs, 0, none⟩ = some (.string s) := hb1.cell (p := ⟨Bs, 0, none⟩) (lt_of_cell cs) |>.trans cs
     have hlc := lt_of_cell cc
     have hls := lt_of_cell cs
     have hj1 := Lib.hid (hJ _ _ _ hj.out (grown_of_below hb1))
     have hk1 := Lib.hid (hb.out.below hlc hls hb1)
     have hz1 := hb1.size
     clear hb1
     have hyl : ((s.data.toList.drop k).dropWhile blankC).length ≤ s.size - k := by rw [← HLK.out]; exact (List.dropWhile_sublist _).length_le
     have hstep := Lib.hid (show stepB (s.data.toList.drop k) = (s.size - k - ((s.data.toList.drop k).dropWhile blankC).length) + (if Lib.indexAny ((s.data.toList.drop k).dropWhile blankC) [32, 9] < 0 then ((s.data.toList.drop k).dropWhile blankC).length else (Lib.indexAny ((s.data.toList.drop k).dropWhile blankC) [32, 9]).toNat) by unfold stepB; rw [HLK.out])
     generalize (s.data.toList.drop k).dropWhile blankC = y at hyl hstep ⊢
     have hys := bs_size y
     gi_wp2_with fail
     refine (hIA _ _ (by omega)).mono ?_
     rintro e w2 ⟨rfl, hb2⟩
     rw [bs_toList]
     have hcs2 : w2.cell? ⟨Bs, 0, none⟩ = some (.string s) := hb2.cell (p := ⟨Bs, 0, none⟩) (show Bs < w1.heap.size by omega) |>.trans hcs1
     have hj2 := Lib.hid (hJ _ _ _ hj1.out (grown_of_below hb2))
     have hk2 := Lib.hid (hk1.out.below (by omega) (by omega) hb2)
     clear hb2 hcs1 hj1 hk1
     have hge := Lib.indexAny_ge [32, 9] y
     by_cases hneg : Lib.indexAny y [32, 9] < 0
     ·have hst := hstep.out
      rw [if_pos hneg] at hst
      generalize Lib.indexAny y [32, 9] = v at hneg hge ⊢
      clear hstep
      generalize stepB (s.data.toList.drop k) = d at hst s2 s3 HS
      have hto : ((k + d : Nat) : Int) = (s.size : Int) := by omega
      have hTo := Lib.hid hto
      have hkd : k + d ≤ s.size := by omega
      obtain ⟨fn, tmps, assign, body, hy, hR⟩ := hY pre (k, k + d) w2 hj2.out hpl
      have hend := Lib.hid (show (pre ++ [(k, k + d)]) ++ endsBl (s.data.toList.drop (k + d)) (k + d) (k + d) false = endsOf c s.data.toList by rw [← hp.out, HS.out, List.drop_drop, List.append_assoc]; rfl)
      dsimp only at hy
      rw [hTo.out] at hy
      clear hto hst
      gi_wp2
      refine hR.mono ?_
      rintro e W3 (⟨rfl, hJ3, hk3⟩ | ⟨rfl, hJx3⟩)
      ·have HJ3 := Lib.hid hJ3
       have HK3 := Lib.hid (hk2.out.trans hk3)
       clear hJ3 hk3 hR hy
       gi_wp2
       go_roundw
       case rel => exact ⟨k + d, _, hkd, by rw [hTo.out], hend, HJ3, HK3⟩
       case measure => simp [intOf]; omega
      ·have HJ3 := Lib.hid hJx3
       clear hJx3 hR hy
       gi_wp2
       refine bodyPost_ret (results_none rfl _ _ _) rfl ?_
       exact ⟨⟨_, rfl⟩, .inr ⟨_, ⟨_, hend.out⟩, HJ3.out⟩⟩
     ·have hst := hstep.out
      rw [if_neg hneg] at hst
      obtain ⟨m, hm⟩ : ∃ m : Nat, Lib.indexAny y [32, 9] = (m : Int) := ⟨(Lib.indexAny y [32, 9]).toNat, by omega⟩
      rw [hm, Int.toNat_natCast] at hst
      rw [hm]
      clear hstep hm hge hneg
      generalize stepB (s.data.toList.drop k) = d at hst s2 s3 HS
      have hto : ((k + d : Nat) : Int) = (s.size : Int) - (y.length : Int) + (m : Int) := by omega
      have hTo := Lib.hid hto
      have hkd : k + d ≤ s.size := by omega
      have hm2 : (s.size : Int) - (y.length : Int) + (m : Int) ≤ (s.size : Int) := by omega
      obtain ⟨fn, tmps, assign, body, hy, hR⟩ := hY pre (k, k + d) w2 hj2.out hpl
      have hend := Lib.hid (show (pre ++ [(k, k + d)]) ++ endsBl (s.data.toList.drop (k + d)) (k + d) (k + d) false = endsOf c s.data.toList by rw [← hp.out, HS.out, List.drop_drop, List.append_assoc]; rfl)
      dsimp only at hy
      rw [hTo.out] at hy
      clear hto hst
      gi_wp2
      refine hR.mono ?_
      rintro e W3 (⟨rfl, hJ3, hk3⟩ | ⟨rfl, hJx3⟩)
      ·have HJ3 := Lib.hid hJ3
       have HK3 := Lib.hid (hk2.out.trans hk3)
       clear hJ3 hk3 hR hy
       gi_wp2
       go_roundw
       case rel => exact ⟨k + d, _, hkd, by rw [hTo.out], hend, HJ3, HK3⟩
       case measure => have := hTo.out; simp [intOf]; omega
      ·have HJ3 := Lib.hid hJx3
       clear hJx3 hR hy
       gi_wp2
       refine bodyPost_ret (results_none rfl _ _ _) rfl ?_
       exact ⟨⟨_, rfl⟩, .inr ⟨_, ⟨_, hend.out⟩, HJ3.out⟩⟩
    ·obtain rfl : k = s.size := by omega
     have hend := Lib.hid (show pre = endsOf c s.data.toList by
      rw [← hp.out, List.drop_eq_nil_of_le (by rw [HL.out]; exact Nat.le_refl _)]
      simp [endsBl])
     gi_wp2
     go_end0
     exact ⟨⟨_, rfl⟩, .inl ⟨_, hend.out, hj.out⟩⟩
 ·have hcz : ((c.toNat : Int) != 0) = true := by
   rw [bne_iff_ne]
   intro e
   exact hz (UInt8.toNat_inj.1 (by show c.toNat = 0; omega))
  have HE := Lib.hid (show endsOf c s.data.toList = endsSep c s.data.toList 0 0 by unfold endsOf; rw [if_neg hz])
  clear hz
  gi_wp2
  gi_loopw [4, 5] (fun i _ wr => ∃ (k : Nat) (pre : List (Nat × Nat)), k ≤ s.size ∧ i = .int .i64 k ∧ Hid (pre ++ endsSep c (s.data.toList.drop k) k k = endsOf c s.data.toList) ∧ Hid (J pre wr) ∧ Hid (Keep2 Bc Bs W wr)) (fun i _ _ => s.size + 1 - (intOf i).toNat)
  case atStart => exact ⟨0, [], Nat.zero_le _, rfl, Lib.hid (by rw [HE.out]; rfl), Lib.hid h0, Lib.hid (Keep2.refl _ _ _)⟩
  case round =>
   obtain ⟨k, pre, hk, rfl, hp, hj, hb⟩ := hrel
   have cc : wr.cell? ⟨Bc, 0, none⟩ = some (.int .u8 (c.toNat : Int)) := (cell_same hb.out.1 0).trans hc
   have cs : wr.cell? ⟨Bs, 0, none⟩ = some (.string s) := (cell_same hb.out.2 0).trans hsc
   have hcall := fun (m : Nat) => hIB (s.extract k s.size) (wr.drewN m)
   simp only [extract_drop] at hcall
   have hpl : pre.length < s.size + 1 := by
    have h1 := congrArg List.length hp.out
    have h2 := ends_len c s.data.toList
    have h3 : 0 < (endsSep c (s.data.toList.drop k) k k).length := List.length_pos_iff.2 (sep_ne c _ _ _)
    rw [List.length_append] at h1
    rw [HL.out] at h2
    omega
   have hlk : (s.data.toList.drop k).length = s.size - k := by rw [List.length_drop, HL.out]
   have HLK := Lib.hid hlk
   clear hlk
   by_cases hneg : Lib.indexByte (s.data.toList.drop k) c < 0
   ·have hst := Lib.hid (sep_last (s.data.toList.drop k) c hneg k)
    generalize Lib.indexByte (s.data.toList.drop k) c = v at hcall hneg
    gi_wp2
    refine wpIn_region_quiet_lit hro (by kernel_rfl) (by kernel_rfl) ?_
    repeat (gi_big_quiet_step ((gi_at_call 159; exact CallsIn.quiet_of_same (hcall _))))
    refine wpQuietIn_nil ?_
    intro _ hw'
    obtain ⟨nq, hw''⟩ := hw'
    subst hw''
    clear hcall
    obtain ⟨fn, tmps, assign, body, hy, hR⟩ := hY pre (k, s.size) (wr.drewN nq) (hJ _ _ _ hj.out (grown_drewN _ _)) hpl
    have hend := Lib.hid (show pre ++ [(k, s.size)] = endsOf c s.data.toList by rw [← hp.out, hst.out, HLK.out]; congr 3; omega)
    dsimp only at hy
    gi_wp2
    refine hR.mono ?_
    rintro e W3 (⟨rfl, hJ3, hk3⟩ | ⟨rfl, hJx3⟩)
    ·have HJ3 := Lib.hid hJ3
     clear hJ3 hk3 hR hy
     gi_wp2
     refine bodyPost_ret (results_none rfl _ _ _) rfl ?_
     exact ⟨⟨_, rfl⟩, .inl ⟨_, hend.out, HJ3.out⟩⟩
    ·have HJ3 := Lib.hid hJx3
     clear hJx3 hR hy
     gi_wp2
     refine bodyPost_ret (results_none rfl _ _ _) rfl ?_
     exact ⟨⟨_, rfl⟩, .inr ⟨_, by rw [hend.out]; exact List.prefix_refl _, HJ3.out⟩⟩
   ·obtain ⟨m, hm⟩ : ∃ m : Nat, Lib.indexByte (s.data.toList.drop k) c = (m : Int) := ⟨(Lib.indexByte (s.data.toList.drop k) c).toNat, by omega⟩
    obtain ⟨hst0, hmlt0⟩ := sep_next (s.data.toList.drop k) c m hm k
    have hst := Lib.hid hst0
    have hmlt : k + m < s.size := by rw [HLK.out] at hmlt0; omega
    rw [hm] at hcall
    clear hst0 hmlt0 hneg hm
    gi_wp2
    refine wpIn_region_quiet_lit hro (by kernel_rfl) (by kernel_rfl) ?_
    repeat (gi_big_quiet_step ((gi_at_call 159; exact CallsIn.quiet_of_same (hcall _))))
    refine wpQuietIn_nil ?_
    intro _ hw'
    obtain ⟨nq, hw''⟩ := hw'
    subst hw''
    clear hcall
    obtain ⟨fn, tmps, assign, body, hy, hR⟩ := hY pre (k, k + m) (wr.drewN nq) (hJ _ _ _ hj.out (grown_drewN _ _)) hpl
    have hend := Lib.hid (show (pre ++ [(k, k + m)]) ++ endsSep c (s.data.toList.drop (k + (m + 1))) (k + (m + 1)) (k + (m + 1)) = endsOf c s.data.toList by rw [← hp.out, hst.out, List.drop_drop, List.append_assoc]; rfl)
    dsimp only at hy
    rw [Int.natCast_add] at hy
    gi_wp2
    refine hR.mono ?_
    rintro e W3 (⟨rfl, hJ3, hk3⟩ | ⟨rfl, hJx3⟩)
    ·have HJ3 := Lib.hid hJ3
     have HK3 := Lib.hid ((Keep2.drewN hb.out nq).trans hk3)
     clear hJ3 hk3 hR hy
     gi_wp2
     go_roundw
     case rel => exact ⟨k + (m + 1), _, by omega, by go_num, hend, HJ3, HK3⟩
     case measure => simp [intOf]; omega
    ·have HJ3 := Lib.hid hJx3
     clear hJx3 hR hy
     gi_wp2
     refine bodyPost_ret (results_none rfl _ _ _) rfl ?_
     exact ⟨⟨_, rfl⟩, .inr ⟨_, ⟨_, hend.out⟩, HJ3.out⟩⟩
theorem ends_stops (F : Fence) (n : Nat) (h37 : F.fn 158) (h38 : F.fn 159) (h39 : F.fn 135) (h40 : F.fn 160) (hro : F.round = none) (hn : 1 ≤ n) (Bc Bs : Nat) (s : ByteArray) (c : UInt8) (hs : s.size ≤ 4294967280)
  (hIB : ∀ x w, CallsIn F (n - 1) Tryz.prog 159 #[.string x, .int .u8 (c.toNat : Int)] w fun e w' => e = .returned (.int .i64 (Lib.indexByte x.data.toList c)) ∧ w' = w)
  (hTL : ∀ x w, CallsIn F (n - 1) Tryz.prog 135 #[.string x, .string ⟨#[32, 9]⟩] w fun e w' => e = .returned (.string (bs (x.data.toList.dropWhile blankC))) ∧ Below w.heap.size w w')
  (hIA : ∀ x w, x.size ≤ 4294967280 → CallsIn F (n - 1) Tryz.prog 160 #[.string x, .string ⟨#[32, 9]⟩] w fun e w' => e = .returned (.int .i64 (Lib.indexAny x.data.toList [32, 9])) ∧ Below w.heap.size w w')
  (w : World) (hc : w.cell? ⟨Bc, 0, none⟩ = some (.int .u8 (c.toNat : Int))) (hsc : w.cell? ⟨Bs, 0, none⟩ = some (.string s)) :
  SeqStopsK F n Tryz.prog 158 #[.pointer (some ⟨Bc, 0, none⟩), .pointer (some ⟨Bs, 0, none⟩)] (fun x : Nat × Nat => #[Value.int .i64 (x.1 : Int), Value.int .i64 (x.2 : Int)]) (Keep2 Bc Bs) (fun ys => ys = endsOf c s.data.toList) (fun pre => pre <+: endsOf c s.data.toList) (s.size + 1) w := fun l J Jx W hW hJ _ hY h0 =>
 ends1_in F n h37 h38 h39 h40 hro hn l Bc Bs s c hs hIB hTL hIA J Jx (fun pre A B hj hg => hJ _ _ _ none hj hg (fun r e => by cases e)) hY W ((hW.cell (p := ⟨Bc, 0, none⟩) (lt_of_cell hc)).trans hc) ((hW.cell (p := ⟨Bs, 0, none⟩) (lt_of_cell hsc)).trans hsc) h0
set_option maxHeartbeats 1000000 in
theorem ends_in (F : Fence) (n : Nat) (h25 : F.fn 138) (hro : F.round = none) (s : ByteArray) (c : Int) (w : World) :
  CallsIn F n Tryz.prog 138 #[.string s, .int .u8 c] w fun e w' => e = .returned (.func (.func 158) #[] #[.pointer (some ⟨w.heap.size + 1, 0, none⟩), .pointer (some ⟨w.heap.size, 0, none⟩)]) ∧
   w' = (w.alloc (.cells #[.string s] 9)).alloc (.cells #[.int .u8 c] 5) := by
 refine callsIn_of_wp Tryz.func138 rfl h25 ?_ hro
 simp only [Tryz.ntmps138, List.size_toArray, List.length_cons, List.length_nil, Nat.reduceAdd, Nat.reduceSub, Array.replicate_succ, Array.replicate_zero, List.push_toArray, List.append_toArray, List.nil_append, List.cons_append]
 gi_wp2
 go_ret
 exact ⟨rfl, rfl⟩
end Go.Proofs.YtlicjpbmlmongaaGreatDoor.K
/- keys.Key: the part of a line by which it compares. -/
namespace Go.Proofs.YtlicjpbmlmongaaGreatDoor.K
open Go.RowKit Go.Shelf Go.BigFrame Go.Proofs.YtlicjpbmlmongaaGreatDoor.H
attribute [local go_sem] Oper.semAt_some
theorem beginOf_snoc (pre : List (Nat × Nat)) (x : Nat × Nat) (f : Int) (z : Nat) (hf : 1 ≤ f) : beginOf (pre ++ [x]) f z = if f = (pre.length : Int) + 1 then x.1 else beginOf pre f z := by
 unfold beginOf nth
 rw [if_pos hf]
 split
 ·rename_i h
  rw [show (f - 1).toNat = pre.length by omega, List.getElem?_append_right (Nat.le_refl _), Nat.sub_self]; rfl
 ·rename_i h
  by_cases hk : (f - 1).toNat < pre.length
  ·rw [List.getElem?_append_left hk]
  ·rw [List.getElem?_eq_none (by simp; omega), List.getElem?_eq_none (by omega)]
theorem nth_prefix {pre all : List (Nat × Nat)} (h : pre <+: all) (k : Int) (hk : k ≤ pre.length) : nth all k = nth pre k := by
 unfold nth
 split
 ·obtain ⟨r, rfl⟩ := h
  rw [List.getElem?_append_left (by omega)]
 ·rfl
theorem endOf_none (ps : List (Nat × Nat)) (t : Int) (z : Nat) (h : t < 1 ∨ (ps.length : Int) < t) : endOf ps t z = z := by
 unfold endOf nth
 split
 ·rw [List.getElem?_eq_none (by omega)]; rfl
 ·rfl
theorem endOf_last (pre : List (Nat × Nat)) (x : Nat × Nat) (t : Int) (z : Nat) (h : t = (pre.length : Int) + 1) : endOf (pre ++ [x]) t z = x.2 := by
 unfold endOf nth
 rw [if_pos (by omega), show (t - 1).toNat = pre.length by omega, List.getElem?_append_right (Nat.le_refl _), Nat.sub_self]; rfl
theorem ends_bound (c : UInt8) (l : List UInt8) : ∀ q ∈ endsOf c l, q.1 ≤ l.length ∧ q.2 ≤ l.length := by
 have sep : ∀ (l : List UInt8) a p, a ≤ p → ∀ q ∈ endsSep c l a p, q.1 ≤ p + l.length ∧ q.2 ≤ p + l.length := by
  intro l
  induction l with
  | nil => intro a p h q hq; simp [endsSep] at hq; subst hq; simp only [List.length_nil]; omega
  | cons x r ih =>
   intro a p h q hq
   simp only [endsSep] at hq
   simp only [List.length_cons]
   split at hq
   ·rcases List.mem_cons.1 hq with rfl | h'
    ·simp only; omega
    ·have := ih _ _ (Nat.le_refl _) q h'; omega
   ·have := ih _ _ (by omega) q hq; omega
 have bl : ∀ (l : List UInt8) a p b, a ≤ p → ∀ q ∈ endsBl l a p b, q.1 ≤ p + l.length ∧ q.2 ≤ p + l.length := by
  intro l
  induction l with
  | nil => intro a p b h q hq; simp only [endsBl] at hq; split at hq <;> simp at hq; subst hq; simp only [List.length_nil]; omega
  | cons x r ih =>
   intro a p b h q hq
   simp only [List.length_cons]
   cases b
   ·have := ih _ _ _ (by omega) q hq; omega
   ·simp only [endsBl] at hq
    split at hq
    ·rcases List.mem_cons.1 hq with rfl | h'
     ·simp only; omega
     ·have := ih _ _ _ (by omega) q h'; omega
    ·have := ih _ _ _ (by omega) q hq; omega
 intro q hq
 unfold endsOf at hq
 split at hq
 ·have := bl _ _ _ _ (Nat.le_refl _) q hq; omega
 ·have := sep _ _ _ (Nat.le_refl _) q hq; omega
theorem nth_mem {ps : List (Nat × Nat)} {k : Int} {q : Nat × Nat} (h : nth ps k = some q) : q ∈ ps := by
 unfold nth at h
 split at h
 ·exact List.mem_of_getElem? h
 ·cases h
theorem beginOf_le (c : UInt8) (l : List UInt8) (f : Int) : beginOf (endsOf c l) f l.length ≤ l.length := by
 unfold beginOf
 cases h : nth (endsOf c l) f with
 | none => exact Nat.le_refl _
 | some q => exact (ends_bound c l q (nth_mem h)).1
theorem endOf_le (c : UInt8) (l : List UInt8) (t : Int) : endOf (endsOf c l) t l.length ≤ l.length := by
 unfold endOf
 cases h : nth (endsOf c l) t with
 | none => exact Nat.le_refl _
 | some q => exact (ends_bound c l q (nth_mem h)).2
theorem extract_cut (s : ByteArray) (b e : Nat) : s.extract b (max b e) = bs (cutL b e s.data.toList) := by
 rw [extract_bs]; rfl
/-- An order, boxed. -/
def ordObj (nu fo bl re : Bool) (f t : Int) (c : UInt8) : Obj := .cells #[.bool nu, .bool fo, .bool bl, .bool re, .int .i64 f, .int .i64 t, .int .u8 (c.toNat : Int)] 23 (0, 0)
theorem ord_cells {W : World} {b : Nat} {nu fo bl re : Bool} {f t : Int} {c : UInt8} (h : W.heap[b]? = some (ordObj nu fo bl re f t c)) :
  W.cell? ⟨b, 4, none⟩ = some (.int .i64 f) ∧ W.cell? ⟨b, 5, none⟩ = some (.int .i64 t) ∧ W.cell? ⟨b, 6, none⟩ = some (.int .u8 (c.toNat : Int)) := by
 unfold ordObj at h
 exact ⟨by rw [Lib.cell_of_heap h]; rfl, by rw [Lib.cell_of_heap h]; rfl, by rw [Lib.cell_of_heap h]; rfl⟩
theorem ord_own {β : Type} (b : Nat) (nu fo bl re : Bool) (f t : Int) (c : UInt8) : Own (fun (_ : β) W => W.heap[b]? = some (ordObj nu fo bl re f t c)) := by
 intro q A B row h hg hr
 refine (hg.block b (Array.getElem?_eq_some_iff.1 h).1 (fun e => ?_)).trans h
 obtain ⟨o, ho, hc⟩ := hr _ e.symm
 rw [h] at ho
 cases ho
 cases hc
set_option maxHeartbeats 4000000 in
set_option maxRecDepth 100000 in
theorem key_in (F : Fence) (n : Nat) (h12 : F.fn 90) (h17 : F.fn 23) (h25 : F.fn 138) (h37 : F.fn 158) (h38 : F.fn 159) (h39 : F.fn 135) (h40 : F.fn 160) (hro : F.round = none) (hn : 4 ≤ n)
  (nu fo bl re : Bool) (f t : Int) (c : UInt8) (s : ByteArray) (hs : s.size ≤ 4294967280) (w : World)
  (hCk : ∀ m w, CallsIn F m Tryz.prog 23 #[.agg #[.bool nu, .bool fo, .bool bl, .bool re, .int .i64 f, .int .i64 t, .int .u8 (c.toNat : Int)]] w fun e w' => e = .returned (.bool (checkO f t c)) ∧ Below w.heap.size w w')
  (hIB : ∀ m x w, CallsIn F m Tryz.prog 159 #[.string x, .int .u8 (c.toNat : Int)] w fun e w' => e = .returned (.int .i64 (Lib.indexByte x.data.toList c)) ∧ w' = w)
  (hTL : ∀ m x w, CallsIn F m Tryz.prog 135 #[.string x, .string ⟨#[32, 9]⟩] w fun e w' => e = .returned (.string (bs (x.data.toList.dropWhile blankC))) ∧ Below w.heap.size w w')
  (hIA : ∀ m x w, x.size ≤ 4294967280 → CallsIn F m Tryz.prog 160 #[.string x, .string ⟨#[32, 9]⟩] w fun e w' => e = .returned (.int .i64 (Lib.indexAny x.data.toList [32, 9])) ∧ Below w.heap.size w w') :
  CallsIn F n Tryz.prog 90 #[.agg #[.bool nu, .bool fo, .bool bl, .bool re, .int .i64 f, .int .i64 t, .int .u8 (c.toNat : Int)], .string s] w fun e W' => e = .returned (.string (bs (keyO f t c s.data.toList))) ∧ Below w.heap.size w W' := by
 have h1 : 1 ≤ n := by omega
 have HLen := Lib.hid (show s.data.toList.length = s.size from (Lib.size_eq s).symm)
 refine callsIn_of_wp_marks Tryz.func90 rfl h12 ?_ hro
 simp only [Tryz.ntmps90, List.size_toArray, List.length_cons, List.length_nil, Nat.reduceAdd, Nat.reduceSub, Array.replicate_succ, Array.replicate_zero, List.push_toArray, List.append_toArray, List.nil_append, List.cons_append]
 gi_wp2_with fail
 refine (hCk _ _).mono ?_
 rintro e w1 ⟨rfl, hb1⟩
 cases hck : checkO f t c with
 | false =>
  have HK := Lib.hid (show bs (keyO f t c s.data.toList) = ⟨#[]⟩ by unfold keyO; rw [hck]; rfl)
  have HB := Lib.hid hb1
  clear hck hb1
  gi_wp2
  exact ⟨_, results_tmp rfl _ _ _, by rw [HK.out]; rfl, bth (bal (Below.refl _ _) _) HB.out⟩
 | true =>
  have hob : w1.heap[w.heap.size]? = some (ordObj nu fo bl re f t c) := (hb1.block w.heap.size (by simp)).trans (World.alloc_heap_new _ _)
  have HB := Lib.hid (bth (bal (Below.refl _ _) _) hb1)
  have hz1 := hb1.size
  rw [World.size_alloc] at hz1
  clear hb1
  obtain ⟨c4, c5, c6⟩ := ord_cells hob
  have hck2 := hck
  unfold checkO at hck2
  rw [decide_eq_true_eq] at hck2
  obtain ⟨q1, q2, q3, q4⟩ := hck2
  have Hck := Lib.hid hck
  clear hck
  by_cases hf0 : f = 0
  ·have HK := Lib.hid (show bs (keyO f t c s.data.toList) = s by unfold keyO; rw [if_pos Hck.out, if_pos hf0, bs_of])
   subst hf0
   gi_wp2
   exact ⟨_, results_tmp rfl _ _ _, by rw [HK.out]; rfl, HB.out⟩
  ·have hfz : (f == 0) = false := beq_eq_false_iff_ne.2 hf0
   have hf1 : 1 ≤ f := by omega
   have HK := Lib.hid (show bs (keyO f t c s.data.toList) = bs (keyP (endsOf c s.data.toList) f t s.data.toList) by unfold keyO; rw [if_pos Hck.out, if_neg hf0])
   have HT := Lib.hid (show t = 0 ∨ f ≤ t by omega)
   clear hf0 q4
   have hlw : w.heap.size < w1.heap.size := by omega
   obtain ⟨W3, hW3⟩ : ∃ W3, (((w1.alloc (Obj.cells #[Value.int IntKind.i64 0] 3)).alloc (Obj.cells #[Value.int IntKind.i64 (s.size : Int)] 3)).alloc (Obj.cells #[Value.int IntKind.i64 (s.size : Int)] 3)) = W3 := ⟨_, rfl⟩
   have hzW : W3.heap.size = w1.heap.size + 3 := by rw [← hW3]; simp
   have hob3 : W3.heap[w.heap.size]? = some (ordObj nu fo bl re f t c) := by rw [← hW3]; exact (Lib.alloc_old _ _ _ (by simp; omega)).trans ((Lib.alloc_old _ _ _ (by simp; omega)).trans ((Lib.alloc_old _ _ _ hlw).trans hob))
   have b0 : Boxed W3 w1.heap.size 3 (.int .i64 0) := by rw [← hW3]; exact (((Boxed.new w1 3 _).alloc _).alloc _)
   have b1 : Boxed W3 (w1.heap.size + 1) 3 (.int .i64 (s.size : Int)) := by
    rw [← hW3]
    have := Boxed.new (w1.alloc (Obj.cells #[Value.int IntKind.i64 0] 3)) 3 (.int .i64 (s.size : Int))
    rw [World.size_alloc] at this
    exact this.alloc _
   have b2 : Boxed W3 (w1.heap.size + 1 + 1) 3 (.int .i64 (s.size : Int)) := by
    rw [← hW3]
    have := Boxed.new ((w1.alloc (Obj.cells #[Value.int IntKind.i64 0] 3)).alloc (Obj.cells #[Value.int IntKind.i64 (s.size : Int)] 3)) 3 (.int .i64 (s.size : Int))
    rw [World.size_alloc, World.size_alloc] at this
    exact this
   have c6' : W3.cell? ⟨w.heap.size, 6, none⟩ = some (.int .u8 (c.toNat : Int)) := (ord_cells hob3).2.2
   have hB3 : Below w.heap.size w W3 := by rw [← hW3]; exact bal (bal (bal HB.out _) _) _
   have HX := Lib.hid (And.intro hob3 (And.intro b0 (And.intro b1 (And.intro b2 hB3))))
   clear hob3 b0 b1 b2 hB3 hob
   gi_wp2_with fail
   refine (ends_in F _ h25 hro _ _ _).mono ?_
   rintro e w2 ⟨rfl, rfl⟩
   clear c6' c6 c4 c5
   obtain ⟨hob3, b0, b1, b2, hB3⟩ := HX.out
   obtain ⟨W0, hW0⟩ : ∃ W0, ((W3.alloc (.cells #[.string s] 9)).alloc (.cells #[.int .u8 (c.toNat : Int)] 5)) = W0 := ⟨_, rfl⟩
   have hz0 : W0.heap.size = w1.heap.size + 5 := by rw [← hW0]; simp; omega
   have hob0 : W0.heap[w.heap.size]? = some (ordObj nu fo bl re f t c) := by rw [← hW0]; exact (Lib.alloc_old _ _ _ (by simp; omega)).trans ((Lib.alloc_old _ _ _ (by omega)).trans hob3)
   have b0' : Boxed W0 w1.heap.size 3 (.int .i64 0) := by rw [← hW0]; exact (b0.alloc _).alloc _
   have b1' : Boxed W0 (w1.heap.size + 1) 3 (.int .i64 (s.size : Int)) := by rw [← hW0]; exact (b1.alloc _).alloc _
   have b2' : Boxed W0 (w1.heap.size + 1 + 1) 3 (.int .i64 (s.size : Int)) := by rw [← hW0]; exact (b2.alloc _).alloc _
   have cS : W0.cell? ⟨W3.heap.size, 0, none⟩ = some (.string s) := by rw [← hW0]; exact ((Boxed.new W3 9 _).alloc _).cell
   have cC : W0.cell? ⟨W3.heap.size + 1, 0, none⟩ = some (.int .u8 (c.toNat : Int)) := by
    rw [← hW0]
    have := Boxed.new (W3.alloc (.cells #[.string s] 9)) 5 (.int .u8 (c.toNat : Int))
    rw [World.size_alloc] at this
    exact this.cell
   have hB0 : Below w.heap.size w W0 := by rw [← hW0]; exact bal (bal hB3 _) _
   rw [hW0]
   rw [hzW] at cS cC ⊢
   clear hob3 b0 b1 b2 hB3 HX hW0 hW3
   gi_wp2
   refine wpIn_rangeFunc_ownG hro h1 (gf := 158) (lb := #[.pointer (some ⟨w1.heap.size + 3 + 1, 0, none⟩), .pointer (some ⟨w1.heap.size + 3, 0, none⟩)]) rfl h37 (enters_of Tryz.func158 (by kernel_rfl) rfl)
    (ends_stops F (n - 1) h37 h38 h39 h40 hro (by omega) (w1.heap.size + 3 + 1) (w1.heap.size + 3) s c hs (hIB _) (hTL _) (hIA _) W0 cC cS) Keep2.trans (fun W l o o' hl _ _ _ => ⟨World.putObj_heap_other (by omega), World.putObj_heap_other (by omega)⟩) (Below.refl _ _) (fun _ => rfl)
    (fun pre W => (Boxed W w1.heap.size 3 (.int .i64 (pre.length : Int)) ∧ Boxed W (w1.heap.size + 1) 3 (.int .i64 (beginOf pre f s.size : Int)) ∧ Boxed W (w1.heap.size + 1 + 1) 3 (.int .i64 (s.size : Int))) ∧
     (W.heap[w.heap.size]? = some (ordObj nu fo bl re f t c) ∧ (t < 1 ∨ (pre.length : Int) < t)) ∧ (Below w.heap.size w W ∧ w1.heap.size + 5 ≤ W.heap.size))
    (fun cd pre W => cd = .exit 1 ∧ (Boxed W (w1.heap.size + 1) 3 (.int .i64 (beginOf pre f s.size : Int)) ∧ Boxed W (w1.heap.size + 1 + 1) 3 (.int .i64 (endOf pre t s.size : Int))) ∧ ((pre.length : Int) = t ∧ 1 ≤ t ∧ Below w.heap.size w W))
    ?hI ?hIx ⟨⟨b0', by simpa [beginOf, nth] using b1', b2'⟩, ⟨hob0, by have := HT.out; simp; omega⟩, hB0, by omega⟩
    (fun x => { tmps := #[.agg #[.bool nu, .bool fo, .bool bl, .bool re, .int .i64 f, .int .i64 t, .int .u8 (c.toNat : Int)], .string s, .pointer (some ⟨w.heap.size, 0, none⟩), undef, .string ⟨#[]⟩, .pointer (some ⟨w1.heap.size, 0, none⟩), .pointer (some ⟨w1.heap.size + 1, 0, none⟩), .pointer (some ⟨w1.heap.size + 1 + 1, 0, none⟩), .int .i64 (x.1 : Int), .int .i64 (x.2 : Int), .bool false,
     .agg #[.bool nu, .bool fo, .bool bl, .bool re, .int .i64 f, .int .i64 t, .int .u8 (c.toNat : Int)], .bool true, .bool false, .bool false, .pointer (some ⟨w.heap.size, 4, none⟩), .int .i64 f, .bool false, undef, .string s, .int .i64 (s.size : Int), .string s, .int .i64 (s.size : Int), .string s, .pointer (some ⟨w.heap.size, 6, none⟩), .int .u8 (c.toNat : Int),
     .func (.func 158) #[] #[.pointer (some ⟨w1.heap.size + 3 + 1, 0, none⟩), .pointer (some ⟨w1.heap.size + 3, 0, none⟩)], .int .i64 (x.1 : Int), .int .i64 (x.2 : Int), undef, undef, undef, undef, undef, undef, undef, undef, undef, undef, undef, undef, undef, undef, undef, undef, undef, undef], defers := [] }) ?assign ?body ?done ?stop
   case hI =>
    refine OwnFrom.and (OwnFrom.and (Own.from (boxed_own _ _ (fun pre : List (Nat × Nat) => Value.int .i64 (pre.length : Int))) _) (OwnFrom.and (Own.from (boxed_own _ _ (fun pre : List (Nat × Nat) => Value.int .i64 (beginOf pre f s.size : Int))) _) (Own.from (boxed_own _ _ (fun pre : List (Nat × Nat) => Value.int .i64 (s.size : Int))) _)))
     (OwnFrom.and (OwnFrom.and (Own.from (ord_own _ nu fo bl re f t c) _) (ownFrom_pure _ _)) (OwnFrom.and (ownFrom_below (Nat.le_refl _) (by omega)) ?_))
    exact fun q A B row hq hg _ => Nat.le_trans hq hg.size
   case hIx =>
    intro cd
    exact OwnFrom.and (ownFrom_pure _ _) (OwnFrom.and (OwnFrom.and (Own.from (boxed_own _ _ (fun pre : List (Nat × Nat) => Value.int .i64 (beginOf pre f s.size : Int))) _) (Own.from (boxed_own _ _ (fun pre : List (Nat × Nat) => Value.int .i64 (endOf pre t s.size : Int))) _))
     (OwnFrom.and (ownFrom_pure _ _) (OwnFrom.and (ownFrom_pure _ (fun _ => 1 ≤ t)) (ownFrom_below (Nat.le_refl _) (by omega)))))
   case assign =>
    intro l x W K hK
    gi_wp2
    exact hK
   case body =>
    rintro l pre x W ⟨⟨x0, x1, x2⟩, ⟨x3, x4⟩, x5, x6⟩ hlt
    have d0 := x0.cell; have d1 := x1.cell; have d2 := x2.cell
    have e0 := x0.frozen; have e1 := x1.frozen; have e2 := x2.frozen
    obtain ⟨d4, d5, _⟩ := ord_cells x3
    have hB1 : ∀ (V : World) (u : Value), Below w.heap.size w V → Below w.heap.size w (V.setCell ⟨w1.heap.size, 0, none⟩ u) := fun _ u h => h.setCell (p := ⟨w1.heap.size, 0, none⟩) (show w.heap.size ≤ w1.heap.size by omega) u
    have hB2 : ∀ (V : World) (u : Value), Below w.heap.size w V → Below w.heap.size w (V.setCell ⟨w1.heap.size + 1, 0, none⟩ u) := fun _ u h => h.setCell (p := ⟨w1.heap.size + 1, 0, none⟩) (show w.heap.size ≤ w1.heap.size + 1 by omega) u
    have hB3 : ∀ (V : World) (u : Value), Below w.heap.size w V → Below w.heap.size w (V.setCell ⟨w1.heap.size + 1 + 1, 0, none⟩ u) := fun _ u h => h.setCell (p := ⟨w1.heap.size + 1 + 1, 0, none⟩) (show w.heap.size ≤ w1.heap.size + 1 + 1 by omega) u
    have HB1 := Lib.hid hB1; have HB2 := Lib.hid hB2; have HB3 := Lib.hid hB3
    clear hB1 hB2 hB3
    have hpl : ((pre ++ [x]).length : Int) = (pre.length : Int) + 1 := by simp
    have HPL := Lib.hid hpl
    clear hpl
    have hbs := Lib.hid (beginOf_snoc pre x f s.size hf1)
    have hen := Lib.hid (endOf_last pre x t s.size)
    have HX2 := Lib.hid (And.intro x0 (And.intro x1 (And.intro x2 (And.intro x3 (And.intro x4 (And.intro x5 x6))))))
    clear x0 x1 x2 x3 x4 x5 x6
    by_cases hfe : f = (pre.length : Int) + 1
    ·have hfb : (((pre.length : Int) + 1) == f) = true := beq_iff_eq.2 hfe.symm
     have hbn := Lib.hid (show beginOf (pre ++ [x]) f s.size = x.1 by rw [hbs.out, if_pos hfe])
     by_cases hte : t = (pre.length : Int) + 1
     ·have htb : (((pre.length : Int) + 1) == t) = true := beq_iff_eq.2 hte.symm
      have hln := Lib.hid (show ((pre ++ [x]).length : Int) = t ∧ 1 ≤ t by rw [HPL.out]; omega)
      have hee := Lib.hid (hen.out hte)
      clear hfe hte
      gi_wp2
      obtain ⟨x0, x1, x2, x3, x4, x5, x6⟩ := HX2.out
      refine ⟨(((KeepsOthers.setCell _ _ _).trans (KeepsOthers.setCell _ _ _)).trans (KeepsOthers.setCell _ _ _)).from _, rfl, ⟨?_, ?_⟩, hln.out.1, hln.out.2, HB3.out _ _ (HB2.out _ _ (HB1.out _ _ x5))⟩
      ·rw [hbn.out]; exact ((x1.other (by omega) _).set _).other (by omega) _
      ·rw [hee.out]; exact ((x2.other (by omega) _).other (by omega) _).set _
     ·have htb : (((pre.length : Int) + 1) == t) = false := beq_eq_false_iff_ne.2 (fun e => hte e.symm)
      have HTE := Lib.hid hte
      clear hfe hte
      gi_wp2
      obtain ⟨x0, x1, x2, x3, x4, x5, x6⟩ := HX2.out
      refine ⟨((KeepsOthers.setCell _ _ _).trans (KeepsOthers.setCell _ _ _)).from _, ⟨?_, ?_⟩, ⟨?_, ?_, ?_⟩, ⟨?_, ?_⟩, HB2.out _ _ (HB1.out _ _ x5), ?_⟩
      ·rw [Below.heap_setCell _ _ _ _ (show w1.heap.size + 3 + 1 ≠ w1.heap.size + 1 by omega), Below.heap_setCell _ _ _ _ (show w1.heap.size + 3 + 1 ≠ w1.heap.size by omega)]
      ·rw [Below.heap_setCell _ _ _ _ (show w1.heap.size + 3 ≠ w1.heap.size + 1 by omega), Below.heap_setCell _ _ _ _ (show w1.heap.size + 3 ≠ w1.heap.size by omega)]
      ·rw [HPL.out]; exact (x0.set _).other (by omega) _
      ·rw [hbn.out]; exact (x1.other (by omega) _).set _
      ·exact (x2.other (by omega) _).other (by omega) _
      ·rw [Below.heap_setCell _ _ _ _ (show w.heap.size ≠ w1.heap.size + 1 by omega), Below.heap_setCell _ _ _ _ (show w.heap.size ≠ w1.heap.size by omega)]; exact x3
      ·rw [HPL.out]; have := HTE.out; omega
      ·simpa using x6
    ·have hfb : (((pre.length : Int) + 1) == f) = false := beq_eq_false_iff_ne.2 (fun e => hfe e.symm)
     have hbn := Lib.hid (show beginOf (pre ++ [x]) f s.size = beginOf pre f s.size by rw [hbs.out, if_neg hfe])
     by_cases hte : t = (pre.length : Int) + 1
     ·have htb : (((pre.length : Int) + 1) == t) = true := beq_iff_eq.2 hte.symm
      have hln := Lib.hid (show ((pre ++ [x]).length : Int) = t ∧ 1 ≤ t by rw [HPL.out]; omega)
      have hee := Lib.hid (hen.out hte)
      clear hfe hte
      gi_wp2
      obtain ⟨x0, x1, x2, x3, x4, x5, x6⟩ := HX2.out
      refine ⟨((KeepsOthers.setCell _ _ _).trans (KeepsOthers.setCell _ _ _)).from _, rfl, ⟨?_, ?_⟩, hln.out.1, hln.out.2, HB3.out _ _ (HB1.out _ _ x5)⟩
      ·rw [hbn.out]; exact (x1.other (by omega) _).other (by omega) _
      ·rw [hee.out]; exact (x2.other (by omega) _).set _
     ·have htb : (((pre.length : Int) + 1) == t) = false := beq_eq_false_iff_ne.2 (fun e => hte e.symm)
      have HTE := Lib.hid hte
      clear hfe hte
      gi_wp2
      obtain ⟨x0, x1, x2, x3, x4, x5, x6⟩ := HX2.out
      refine ⟨(KeepsOthers.setCell _ _ _).from _, ⟨?_, ?_⟩, ⟨?_, ?_, ?_⟩, ⟨?_, ?_⟩, HB1.out _ _ x5, ?_⟩
      ·rw [Below.heap_setCell _ _ _ _ (show w1.heap.size + 3 + 1 ≠ w1.heap.size by omega)]
      ·rw [Below.heap_setCell _ _ _ _ (show w1.heap.size + 3 ≠ w1.heap.size by omega)]
      ·rw [HPL.out]; exact x0.set _
      ·rw [hbn.out]; exact x1.other (by omega) _
      ·exact x2.other (by omega) _
      ·rw [Below.heap_setCell _ _ _ _ (show w.heap.size ≠ w1.heap.size by omega)]; exact x3
      ·rw [HPL.out]; have := HTE.out; omega
      ·simpa using x6
   case done =>
    rintro D ys W hD rfl ⟨⟨x0, x1, x2⟩, ⟨x3, x4⟩, x5, x6⟩ hK
    have d1 := x1.cell; have d2 := x2.cell
    have hble := beginOf_le c s.data.toList f
    rw [HLen.out] at hble
    have hek : endOf (endsOf c s.data.toList) t s.size = s.size := endOf_none _ _ _ x4
    have hkey := Lib.hid (show s.extract (beginOf (endsOf c s.data.toList) f s.size) (max (beginOf (endsOf c s.data.toList) f s.size : Int) (s.size : Int)).toNat = bs (keyO f t c s.data.toList) by
     rw [HK.out]; unfold keyP; rw [HLen.out, hek, ← extract_cut]; congr 1; omega)
    have HX3 := Lib.hid (And.intro x5 hK)
    clear x0 x1 x2 x3 x4 x5 hK hek
    generalize beginOf (endsOf c s.data.toList) f s.size = b at *
    gi_wp2
    obtain ⟨x5, hK⟩ := HX3.out
    refine ⟨by simp, .inl ⟨_, _, rfl, run_takeDeferred hK, ?_⟩⟩
    exact ⟨_, results_tmp rfl _ _ _, by rw [← hkey.out]; rfl, x5.trans (belowK_b (w := w) (Nat.le_refl _) W D _ _ (by omega) hK rfl rfl)⟩
   case stop =>
    rintro D cd pre W hD hpre ⟨rfl, ⟨x1, x2⟩, hln, ht1, x5⟩ hK
    have d1 := x1.cell; have d2 := x2.cell
    have hble := beginOf_le c s.data.toList f
    have hele := endOf_le c s.data.toList t
    rw [HLen.out] at hble hele
    have hft : f ≤ (pre.length : Int) := by have := HT.out; omega
    have hbe : beginOf pre f s.size = beginOf (endsOf c s.data.toList) f s.size := by unfold beginOf; rw [nth_prefix hpre f hft]
    have hee : endOf pre t s.size = endOf (endsOf c s.data.toList) t s.size := by unfold endOf; rw [nth_prefix hpre t (by omega)]
    have hkey := Lib.hid (show s.extract (beginOf (endsOf c s.data.toList) f s.size) (max (beginOf (endsOf c s.data.toList) f s.size : Int) (endOf (endsOf c s.data.toList) t s.size : Int)).toNat = bs (keyO f t c s.data.toList) by
     rw [HK.out]; unfold keyP; rw [HLen.out, ← extract_cut]; congr 1; omega)
    rw [hbe] at d1
    rw [hee] at d2
    have HX3 := Lib.hid (And.intro x5 hK)
    clear x1 x2 x5 hK hbe hee hln
    generalize beginOf (endsOf c s.data.toList) f s.size = b at *
    generalize endOf (endsOf c s.data.toList) t s.size = e at *
    gi_wp2
    obtain ⟨x5, hK⟩ := HX3.out
    refine ⟨by simp, .inl ⟨_, _, rfl, run_takeDeferred hK, ?_⟩⟩
    exact ⟨_, results_tmp rfl _ _ _, by rw [← hkey.out]; rfl, x5.trans (belowK_b (w := w) (Nat.le_refl _) W D _ _ (by omega) hK rfl rfl)⟩
end Go.Proofs.YtlicjpbmlmongaaGreatDoor.K

/- keys.ends: the places at which the fields of a line begin and end, one after the other. -/
import Derived.Test.YtbndinaiclkajaaDoorKRune
import Derived.Shelf.Strings.SlTrimAscii
import Derived.RangeFuncNested
import Derived.RangeFuncBound
import Derived.RangeFuncCalls
import Derived.RangeFuncLeaves
import Derived.RangeFuncBox
import Derived.Shelf.Abstract
import Derived.Shelf.RegionOpen
import Derived.WalkKit
import Derived.OwnWalkIn
import Derived.TacticsInMore
import Derived.LoopNIn
import Derived.LoopIn
import Derived.RegionIn
import Derived.Sort.BigQuietIn
import Derived.Maps.AppendAt
import Derived.WalkLawsBesides
import Derived.WalkSpells
import Derived.Outline
set_option linter.unusedVariables false
set_option linter.unusedSimpArgs false
namespace Go.Proofs.YtbndinaiclkajaaDoor.K
open Go.RowKit Go.Shelf Go.BigFrame Go.Proofs.YtbndinaiclkajaaDoor.H

attribute [local go_sem] Oper.semAt_some

/-- Two blocks lie as they lay. -/
def Keep2 (a b : Nat) (A B : World) : Prop := B.heap[a]? = A.heap[a]? ∧ B.heap[b]? = A.heap[b]?
theorem Keep2.refl (a b : Nat) (A : World) : Keep2 a b A A := ⟨rfl, rfl⟩
theorem Keep2.trans {a b : Nat} {A B C : World} (h : Keep2 a b A B) (k : Keep2 a b B C) : Keep2 a b A C := ⟨k.1.trans h.1, k.2.trans h.2⟩
theorem Keep2.drewN {a b : Nat} {A B : World} (h : Keep2 a b A B) (n : Nat) : Keep2 a b A (B.drewN n) := h
theorem Keep2.below {a b : Nat} {A B C : World} (h : Keep2 a b A B) (ha : a < B.heap.size) (hb : b < B.heap.size) (k : Below B.heap.size B C) : Keep2 a b A C := ⟨(k.block a ha).trans h.1, (k.block b hb).trans h.2⟩
theorem cell_same {A B : World} {b : Nat} (h : B.heap[b]? = A.heap[b]?) (o : Nat) : B.cell? ⟨b, o, none⟩ = A.cell? ⟨b, o, none⟩ := by simp [World.cell?, h]
theorem lt_of_cell {W : World} {b o : Nat} {v : Value} (h : W.cell? ⟨b, o, none⟩ = some v) : b < W.heap.size := by
  rcases Nat.lt_or_ge b W.heap.size with h' | h'
  · exact h'
  · simp [World.cell?, Array.getElem?_eq_none h'] at h
theorem grown_of_below {W W' : World} (h : Below W.heap.size W W') : W.grownBy W' none := ⟨h.os, h.tape, h.output, h.size, fun k hk _ => h.block k hk⟩
theorem grown_drewN (W : World) (m : Nat) : W.grownBy (W.drewN m) none := ⟨rfl, rfl, rfl, Nat.le_refl _, fun _ _ _ => rfl⟩
def bs (l : List UInt8) : ByteArray := ⟨l.toArray⟩
theorem bs_toList (l : List UInt8) : (bs l).data.toList = l := by simp [bs]
theorem bs_size (l : List UInt8) : (bs l).size = l.length := by rw [Lib.size_eq, bs_toList]
theorem bs_of (s : ByteArray) : bs s.data.toList = s := by unfold bs; rw [Array.toArray_toList]
theorem ext_bytes {a b : ByteArray} (h : a.data.toList = b.data.toList) : a = b := by rw [← bs_of a, ← bs_of b, h]
theorem extract_bs (s : ByteArray) (a b : Nat) : s.extract a b = bs ((s.data.toList.drop a).take (b - a)) := by
  apply ext_bytes
  rw [bs_toList, ← Lib.toList_data, Lib.extract_toList]
theorem extract_drop (s : ByteArray) (k : Nat) : (s.extract k s.size).data.toList = s.data.toList.drop k := by
  rw [extract_bs, bs_toList, Lib.size_eq, ← List.length_drop, List.take_length]

theorem sep_ne (c : UInt8) : ∀ (l : List UInt8) (a p : Nat), endsSep c l a p ≠ []
  | [], a, p => by simp [endsSep]
  | x :: r, a, p => by
    simp only [endsSep]
    split
    · simp
    · exact sep_ne c r _ _
set_option maxHeartbeats 4000000 in
set_option maxRecDepth 100000 in
theorem ends1_in (F : Fence) (n : Nat) (h37 : F.fn 37) (h38 : F.fn 38) (h39 : F.fn 39) (h40 : F.fn 40) (hro : F.round = none) (hn : 1 ≤ n) (l Bc Bs : Nat) (s : ByteArray) (c : UInt8) (hs : s.size ≤ 4294967280)
    (hIB : ∀ x w, CallsIn F (n - 1) Tryd.prog 38 #[.string x, .int .u8 (c.toNat : Int)] w fun e w' => e = .returned (.int .i64 (Lib.indexByte x.data.toList c)) ∧ w' = w)
    (hTL : ∀ x w, CallsIn F (n - 1) Tryd.prog 39 #[.string x, .string ⟨#[32, 9]⟩] w fun e w' => e = .returned (.string (bs (x.data.toList.dropWhile blankC))) ∧ Below w.heap.size w w')
    (hIA : ∀ x w, x.size ≤ 4294967280 → CallsIn F (n - 1) Tryd.prog 40 #[.string x, .string ⟨#[32, 9]⟩] w fun e w' => e = .returned (.int .i64 (Lib.indexAny x.data.toList [32, 9])) ∧ Below w.heap.size w w')
    (J Jx : List (Nat × Nat) → World → Prop)
    (hJ : ∀ pre A B, J pre A → A.grownBy B none → J pre B)
    (hY : ∀ pre (x : Nat × Nat) W, J pre W → pre.length < s.size + 1 → YieldAt F (n - 1) Tryd.prog l #[.int .i64 (x.1 : Int), .int .i64 (x.2 : Int)] W fun e W' =>
      (e = .returned (.bool true) ∧ J (pre ++ [x]) W' ∧ Keep2 Bc Bs W W') ∨ (e = .returned (.bool false) ∧ Jx (pre ++ [x]) W'))
    (W : World) (hc : W.cell? ⟨Bc, 0, none⟩ = some (.int .u8 (c.toNat : Int))) (hsc : W.cell? ⟨Bs, 0, none⟩ = some (.string s)) (h0 : J [] W) :
    CallsIn F n Tryd.prog 37 #[.func (.yield l) #[] #[], .pointer (some ⟨Bc, 0, none⟩), .pointer (some ⟨Bs, 0, none⟩)] W fun e W' => (∃ v, e = .returned v) ∧
      ((∃ ys, ys = endsOf c s.data.toList ∧ J ys W') ∨ (∃ pre, pre <+: endsOf c s.data.toList ∧ Jx pre W')) := by
  have hlen : s.data.toList.length = s.size := (Lib.size_eq s).symm
  have HL := Lib.hid hlen
  clear hlen
  refine callsIn_of_wp Tryd.func37 rfl h37 ?_ hro
  simp only [Tryd.ntmps37, List.size_toArray, List.length_cons, List.length_nil, Nat.reduceAdd, Nat.reduceSub, Array.replicate_succ, Array.replicate_zero, List.push_toArray, List.append_toArray, List.nil_append, List.cons_append]
  have hmx : Tryd.prog.follows .mixedOrders = true := by kernel_rfl
  by_cases hz : c = 0
  · have hcz : ((c.toNat : Int) != 0) = false := by rw [hz]; rfl
    have HE := Lib.hid (show endsOf c s.data.toList = endsBl s.data.toList 0 0 false by unfold endsOf; rw [if_pos hz])
    clear hz
    gi_wp2
    gi_loopw [4, 5] (fun i _ wr => i = .int .i64 0 ∧ Hid (J [] wr) ∧ Hid (Keep2 Bc Bs W wr)) (fun _ _ _ => 0)
    case atStart => exact ⟨rfl, Lib.hid h0, Lib.hid (Keep2.refl _ _ _)⟩
    case round =>
      obtain ⟨rfl, hj0, hb0⟩ := hrel
      have cc : wr.cell? ⟨Bc, 0, none⟩ = some (.int .u8 (c.toNat : Int)) := (cell_same hb0.out.1 0).trans hc
      gi_wp2
      gi_loopw [6, 7, 8, 9] (fun i _ _ _ wr => ∃ (k : Nat) (pre : List (Nat × Nat)), k ≤ s.size ∧ i = .int .i64 k ∧ Hid (pre ++ endsBl (s.data.toList.drop k) k k false = endsOf c s.data.toList) ∧ Hid (J pre wr) ∧ Hid (Keep2 Bc Bs W wr)) (fun i _ _ _ _ => s.size - (intOf i).toNat)
      case atStart => exact ⟨0, [], Nat.zero_le _, rfl, Lib.hid (by rw [HE.out]; rfl), hj0, hb0⟩
      case round =>
        clear cc hj0 hb0
        obtain ⟨k, pre, hk, rfl, hp, hj, hb⟩ := hrel
        have cs : wr.cell? ⟨Bs, 0, none⟩ = some (.string s) := (cell_same hb.out.2 0).trans hsc
        have cc : wr.cell? ⟨Bc, 0, none⟩ = some (.int .u8 (c.toNat : Int)) := (cell_same hb.out.1 0).trans hc
        have hlk : (s.data.toList.drop k).length = s.size - k := by rw [List.length_drop, HL.out]
        have HLK := Lib.hid hlk
        clear hlk
        by_cases hlt : k < s.size
        · have hne : s.data.toList.drop k ≠ [] := by intro e; have := congrArg List.length e; rw [HLK.out] at this; simp at this; omega
          have hpl : pre.length < s.size + 1 := by
            have h1 := congrArg List.length hp.out
            have h2 := ends_len c s.data.toList
            have h3 := congrArg List.length (bl_step _ hne k).1
            rw [List.length_append] at h1
            rw [HL.out] at h2
            simp only [List.length_cons] at h3
            omega
          obtain ⟨s1, s2, s3⟩ := bl_step _ hne k
          rw [HLK.out] at s3
          have HS := Lib.hid s1
          clear s1 hne
          gi_wp2_with fail
          refine (hTL _ _).mono ?_
          rintro e w1 ⟨rfl, hb1⟩
          rw [extract_drop]
          have hcs1 : w1.cell? ⟨Bs, 0, none⟩ = some (.string s) := hb1.cell (p := ⟨Bs, 0, none⟩) (lt_of_cell cs) |>.trans cs
          have hlc := lt_of_cell cc
          have hls := lt_of_cell cs
          have hj1 := Lib.hid (hJ _ _ _ hj.out (grown_of_below hb1))
          have hk1 := Lib.hid (hb.out.below hlc hls hb1)
          have hz1 := hb1.size
          clear hb1
          have hyl : ((s.data.toList.drop k).dropWhile blankC).length ≤ s.size - k := by rw [← HLK.out]; exact (List.dropWhile_sublist _).length_le
          have hstep := Lib.hid (show stepB (s.data.toList.drop k) = (s.size - k - ((s.data.toList.drop k).dropWhile blankC).length) + (if Lib.indexAny ((s.data.toList.drop k).dropWhile blankC) [32, 9] < 0 then ((s.data.toList.drop k).dropWhile blankC).length else (Lib.indexAny ((s.data.toList.drop k).dropWhile blankC) [32, 9]).toNat) by unfold stepB; rw [HLK.out])
          generalize (s.data.toList.drop k).dropWhile blankC = y at hyl hstep ⊢
          have hys := bs_size y
          gi_wp2_with fail
          refine (hIA _ _ (by omega)).mono ?_
          rintro e w2 ⟨rfl, hb2⟩
          rw [bs_toList]
          have hcs2 : w2.cell? ⟨Bs, 0, none⟩ = some (.string s) := hb2.cell (p := ⟨Bs, 0, none⟩) (show Bs < w1.heap.size by omega) |>.trans hcs1
          have hj2 := Lib.hid (hJ _ _ _ hj1.out (grown_of_below hb2))
          have hk2 := Lib.hid (hk1.out.below (by omega) (by omega) hb2)
          clear hb2 hcs1 hj1 hk1
          have hge := Lib.indexAny_ge [32, 9] y
          by_cases hneg : Lib.indexAny y [32, 9] < 0
          · have hst := hstep.out
            rw [if_pos hneg] at hst
            generalize Lib.indexAny y [32, 9] = v at hneg hge ⊢
            clear hstep
            generalize stepB (s.data.toList.drop k) = d at hst s2 s3 HS
            have hto : ((k + d : Nat) : Int) = (s.size : Int) := by omega
            have hTo := Lib.hid hto
            have hkd : k + d ≤ s.size := by omega
            obtain ⟨fn, tmps, assign, body, hy, hR⟩ := hY pre (k, k + d) w2 hj2.out hpl
            have hend := Lib.hid (show (pre ++ [(k, k + d)]) ++ endsBl (s.data.toList.drop (k + d)) (k + d) (k + d) false = endsOf c s.data.toList by rw [← hp.out, HS.out, List.drop_drop, List.append_assoc]; rfl)
            dsimp only at hy
            rw [hTo.out] at hy
            clear hto hst
            gi_wp2
            refine hR.mono ?_
            rintro e W3 (⟨rfl, hJ3, hk3⟩ | ⟨rfl, hJx3⟩)
            · have HJ3 := Lib.hid hJ3
              have HK3 := Lib.hid (hk2.out.trans hk3)
              clear hJ3 hk3 hR hy
              gi_wp2
              go_roundw
              case rel => exact ⟨k + d, _, hkd, by rw [hTo.out], hend, HJ3, HK3⟩
              case measure => simp [intOf]; omega
            · have HJ3 := Lib.hid hJx3
              clear hJx3 hR hy
              gi_wp2
              refine bodyPost_ret (results_none rfl _ _ _) rfl ?_
              exact ⟨⟨_, rfl⟩, .inr ⟨_, ⟨_, hend.out⟩, HJ3.out⟩⟩
          · have hst := hstep.out
            rw [if_neg hneg] at hst
            obtain ⟨m, hm⟩ : ∃ m : Nat, Lib.indexAny y [32, 9] = (m : Int) := ⟨(Lib.indexAny y [32, 9]).toNat, by omega⟩
            rw [hm, Int.toNat_natCast] at hst
            rw [hm]
            clear hstep hm hge hneg
            generalize stepB (s.data.toList.drop k) = d at hst s2 s3 HS
            have hto : ((k + d : Nat) : Int) = (s.size : Int) - (y.length : Int) + (m : Int) := by omega
            have hTo := Lib.hid hto
            have hkd : k + d ≤ s.size := by omega
            have hm2 : (s.size : Int) - (y.length : Int) + (m : Int) ≤ (s.size : Int) := by omega
            obtain ⟨fn, tmps, assign, body, hy, hR⟩ := hY pre (k, k + d) w2 hj2.out hpl
            have hend := Lib.hid (show (pre ++ [(k, k + d)]) ++ endsBl (s.data.toList.drop (k + d)) (k + d) (k + d) false = endsOf c s.data.toList by rw [← hp.out, HS.out, List.drop_drop, List.append_assoc]; rfl)
            dsimp only at hy
            rw [hTo.out] at hy
            clear hto hst
            gi_wp2
            refine hR.mono ?_
            rintro e W3 (⟨rfl, hJ3, hk3⟩ | ⟨rfl, hJx3⟩)
            · have HJ3 := Lib.hid hJ3
              have HK3 := Lib.hid (hk2.out.trans hk3)
              clear hJ3 hk3 hR hy
              gi_wp2
              go_roundw
              case rel => exact ⟨k + d, _, hkd, by rw [hTo.out], hend, HJ3, HK3⟩
              case measure => have := hTo.out; simp [intOf]; omega
            · have HJ3 := Lib.hid hJx3
              clear hJx3 hR hy
              gi_wp2
              refine bodyPost_ret (results_none rfl _ _ _) rfl ?_
              exact ⟨⟨_, rfl⟩, .inr ⟨_, ⟨_, hend.out⟩, HJ3.out⟩⟩
        · obtain rfl : k = s.size := by omega
          have hend := Lib.hid (show pre = endsOf c s.data.toList by
            rw [← hp.out, List.drop_eq_nil_of_le (by rw [HL.out]; exact Nat.le_refl _)]
            simp [endsBl])
          gi_wp2
          go_end0
          exact ⟨⟨_, rfl⟩, .inl ⟨_, hend.out, hj.out⟩⟩
  · have hcz : ((c.toNat : Int) != 0) = true := by
      rw [bne_iff_ne]
      intro e
      exact hz (UInt8.toNat_inj.1 (by show c.toNat = 0; omega))
    have HE := Lib.hid (show endsOf c s.data.toList = endsSep c s.data.toList 0 0 by unfold endsOf; rw [if_neg hz])
    clear hz
    gi_wp2
    gi_loopw [4, 5] (fun i _ wr => ∃ (k : Nat) (pre : List (Nat × Nat)), k ≤ s.size ∧ i = .int .i64 k ∧ Hid (pre ++ endsSep c (s.data.toList.drop k) k k = endsOf c s.data.toList) ∧ Hid (J pre wr) ∧ Hid (Keep2 Bc Bs W wr)) (fun i _ _ => s.size + 1 - (intOf i).toNat)
    case atStart => exact ⟨0, [], Nat.zero_le _, rfl, Lib.hid (by rw [HE.out]; rfl), Lib.hid h0, Lib.hid (Keep2.refl _ _ _)⟩
    case round =>
      obtain ⟨k, pre, hk, rfl, hp, hj, hb⟩ := hrel
      have cc : wr.cell? ⟨Bc, 0, none⟩ = some (.int .u8 (c.toNat : Int)) := (cell_same hb.out.1 0).trans hc
      have cs : wr.cell? ⟨Bs, 0, none⟩ = some (.string s) := (cell_same hb.out.2 0).trans hsc
      have hcall := fun (m : Nat) => hIB (s.extract k s.size) (wr.drewN m)
      simp only [extract_drop] at hcall
      have hpl : pre.length < s.size + 1 := by
        have h1 := congrArg List.length hp.out
        have h2 := ends_len c s.data.toList
        have h3 : 0 < (endsSep c (s.data.toList.drop k) k k).length := List.length_pos_iff.2 (sep_ne c _ _ _)
        rw [List.length_append] at h1
        rw [HL.out] at h2
        omega
      have hlk : (s.data.toList.drop k).length = s.size - k := by rw [List.length_drop, HL.out]
      have HLK := Lib.hid hlk
      clear hlk
      by_cases hneg : Lib.indexByte (s.data.toList.drop k) c < 0
      · have hst := Lib.hid (sep_last (s.data.toList.drop k) c hneg k)
        generalize Lib.indexByte (s.data.toList.drop k) c = v at hcall hneg
        gi_wp2
        refine wpIn_region_quiet_lit hro (by kernel_rfl) (by kernel_rfl) ?_
        repeat (gi_big_quiet_step ((gi_at_call 38; exact CallsIn.quiet_of_same (hcall _))))
        refine wpQuietIn_nil ?_
        intro _ hw'
        obtain ⟨nq, hw''⟩ := hw'
        subst hw''
        clear hcall
        obtain ⟨fn, tmps, assign, body, hy, hR⟩ := hY pre (k, s.size) (wr.drewN nq) (hJ _ _ _ hj.out (grown_drewN _ _)) hpl
        have hend := Lib.hid (show pre ++ [(k, s.size)] = endsOf c s.data.toList by rw [← hp.out, hst.out, HLK.out]; congr 3; omega)
        dsimp only at hy
        gi_wp2
        refine hR.mono ?_
        rintro e W3 (⟨rfl, hJ3, hk3⟩ | ⟨rfl, hJx3⟩)
        · have HJ3 := Lib.hid hJ3
          clear hJ3 hk3 hR hy
          gi_wp2
          refine bodyPost_ret (results_none rfl _ _ _) rfl ?_
          exact ⟨⟨_, rfl⟩, .inl ⟨_, hend.out, HJ3.out⟩⟩
        · have HJ3 := Lib.hid hJx3
          clear hJx3 hR hy
          gi_wp2
          refine bodyPost_ret (results_none rfl _ _ _) rfl ?_
          exact ⟨⟨_, rfl⟩, .inr ⟨_, by rw [hend.out]; exact List.prefix_refl _, HJ3.out⟩⟩
      · obtain ⟨m, hm⟩ : ∃ m : Nat, Lib.indexByte (s.data.toList.drop k) c = (m : Int) := ⟨(Lib.indexByte (s.data.toList.drop k) c).toNat, by omega⟩
        obtain ⟨hst0, hmlt0⟩ := sep_next (s.data.toList.drop k) c m hm k
        have hst := Lib.hid hst0
        have hmlt : k + m < s.size := by rw [HLK.out] at hmlt0; omega
        rw [hm] at hcall
        clear hst0 hmlt0 hneg hm
        gi_wp2
        refine wpIn_region_quiet_lit hro (by kernel_rfl) (by kernel_rfl) ?_
        repeat (gi_big_quiet_step ((gi_at_call 38; exact CallsIn.quiet_of_same (hcall _))))
        refine wpQuietIn_nil ?_
        intro _ hw'
        obtain ⟨nq, hw''⟩ := hw'
        subst hw''
        clear hcall
        obtain ⟨fn, tmps, assign, body, hy, hR⟩ := hY pre (k, k + m) (wr.drewN nq) (hJ _ _ _ hj.out (grown_drewN _ _)) hpl
        have hend := Lib.hid (show (pre ++ [(k, k + m)]) ++ endsSep c (s.data.toList.drop (k + (m + 1))) (k + (m + 1)) (k + (m + 1)) = endsOf c s.data.toList by rw [← hp.out, hst.out, List.drop_drop, List.append_assoc]; rfl)
        dsimp only at hy
        rw [Int.natCast_add] at hy
        gi_wp2
        refine hR.mono ?_
        rintro e W3 (⟨rfl, hJ3, hk3⟩ | ⟨rfl, hJx3⟩)
        · have HJ3 := Lib.hid hJ3
          have HK3 := Lib.hid ((Keep2.drewN hb.out nq).trans hk3)
          clear hJ3 hk3 hR hy
          gi_wp2
          go_roundw
          case rel => exact ⟨k + (m + 1), _, by omega, by go_num, hend, HJ3, HK3⟩
          case measure => simp [intOf]; omega
        · have HJ3 := Lib.hid hJx3
          clear hJx3 hR hy
          gi_wp2
          refine bodyPost_ret (results_none rfl _ _ _) rfl ?_
          exact ⟨⟨_, rfl⟩, .inr ⟨_, ⟨_, hend.out⟩, HJ3.out⟩⟩
theorem ends_stops (F : Fence) (n : Nat) (h37 : F.fn 37) (h38 : F.fn 38) (h39 : F.fn 39) (h40 : F.fn 40) (hro : F.round = none) (hn : 1 ≤ n) (Bc Bs : Nat) (s : ByteArray) (c : UInt8) (hs : s.size ≤ 4294967280)
    (hIB : ∀ x w, CallsIn F (n - 1) Tryd.prog 38 #[.string x, .int .u8 (c.toNat : Int)] w fun e w' => e = .returned (.int .i64 (Lib.indexByte x.data.toList c)) ∧ w' = w)
    (hTL : ∀ x w, CallsIn F (n - 1) Tryd.prog 39 #[.string x, .string ⟨#[32, 9]⟩] w fun e w' => e = .returned (.string (bs (x.data.toList.dropWhile blankC))) ∧ Below w.heap.size w w')
    (hIA : ∀ x w, x.size ≤ 4294967280 → CallsIn F (n - 1) Tryd.prog 40 #[.string x, .string ⟨#[32, 9]⟩] w fun e w' => e = .returned (.int .i64 (Lib.indexAny x.data.toList [32, 9])) ∧ Below w.heap.size w w')
    (w : World) (hc : w.cell? ⟨Bc, 0, none⟩ = some (.int .u8 (c.toNat : Int))) (hsc : w.cell? ⟨Bs, 0, none⟩ = some (.string s)) :
    SeqStopsK F n Tryd.prog 37 #[.pointer (some ⟨Bc, 0, none⟩), .pointer (some ⟨Bs, 0, none⟩)] (fun x : Nat × Nat => #[Value.int .i64 (x.1 : Int), Value.int .i64 (x.2 : Int)]) (Keep2 Bc Bs) (fun ys => ys = endsOf c s.data.toList) (fun pre => pre <+: endsOf c s.data.toList) (s.size + 1) w := fun l J Jx W hW hJ _ hY h0 =>
  ends1_in F n h37 h38 h39 h40 hro hn l Bc Bs s c hs hIB hTL hIA J Jx (fun pre A B hj hg => hJ _ _ _ none hj hg (fun r e => by cases e)) hY W ((hW.cell (p := ⟨Bc, 0, none⟩) (lt_of_cell hc)).trans hc) ((hW.cell (p := ⟨Bs, 0, none⟩) (lt_of_cell hsc)).trans hsc) h0
set_option maxHeartbeats 1000000 in
theorem ends_in (F : Fence) (n : Nat) (h25 : F.fn 25) (hro : F.round = none) (s : ByteArray) (c : Int) (w : World) :
    CallsIn F n Tryd.prog 25 #[.string s, .int .u8 c] w fun e w' => e = .returned (.func (.func 37) #[] #[.pointer (some ⟨w.heap.size + 1, 0, none⟩), .pointer (some ⟨w.heap.size, 0, none⟩)]) ∧
      w' = (w.alloc (.cells #[.string s] 9)).alloc (.cells #[.int .u8 c] 5) := by
  refine callsIn_of_wp Tryd.func25 rfl h25 ?_ hro
  simp only [Tryd.ntmps25, List.size_toArray, List.length_cons, List.length_nil, Nat.reduceAdd, Nat.reduceSub, Array.replicate_succ, Array.replicate_zero, List.push_toArray, List.append_toArray, List.nil_append, List.cons_append]
  gi_wp2
  go_ret
  exact ⟨rfl, rfl⟩
end Go.Proofs.YtbndinaiclkajaaDoor.K

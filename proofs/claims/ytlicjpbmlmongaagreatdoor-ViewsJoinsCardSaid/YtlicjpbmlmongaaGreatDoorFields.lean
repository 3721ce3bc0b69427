/- Written by merge.py out of Parts, Split, Runs, Count, Fields. -/
import Derived.RangeFuncNested
import Derived.RangeFuncBound
import Derived.RangeFuncCalls
import Derived.RangeFuncLeaves
import Derived.RangeFuncBox
import Derived.Shelf.Abstract
import Derived.Shelf.RegionOpen
import Derived.WalkKit
import Derived.OwnWalkIn
import Derived.TacticsInMore
import Derived.LoopNIn
import Derived.LoopIn
import Derived.RegionIn
import Derived.Sort.BigQuietIn
import Derived.Maps.AppendAt
import Derived.WalkLawsBesides
import Derived.WalkSpells
import Derived.Outline
import Derived.Test.YtlicjpbmlmongaaGreatDoorHelp
import Derived.Test.YtlicjpbmlmongaaGreatDoorShelf
import Derived.Laws.EntriesVeiled
import Derived.Deep.RegionHeld3
import Derived.RegionTactic
section
/- (parter).parts: what stands between the bytes that a function value counts, one part after the other. -/
set_option linter.unusedVariables false
set_option linter.unusedSimpArgs false
namespace Go.Proofs.YtlicjpbmlmongaaGreatDoor.S
open Go.RowKit Go.Shelf Go.BigFrame Go.Proofs.YtlicjpbmlmongaaGreatDoor.H
theorem pw_cell_below' {w w1 : World} (h : Below w.heap.size w w1) {a : Addr} {v : Value} (hc : w.cell? a = some v) : w1.cell? a = some v := Go.Proofs.YtlicjpbmlmongaaGreatDoorW.PrintWords.pw_cell_below h hc

attribute [local go_sem] Oper.semAt_some

/-- The parts that end ahead of place i, and where the next one begins. -/
def partsTo (p : UInt8 → Bool) (s : ByteArray) : Nat → List ByteArray × Nat
  | 0 => ([], 0)
  | i + 1 => let r := partsTo p s i; if p (s.data.toList.getD i 0) then (r.1 ++ [s.extract r.2 i], i + 1) else r
/-- All parts. -/
def partsOf (p : UInt8 → Bool) (s : ByteArray) : List ByteArray := (partsTo p s s.size).1 ++ [s.extract (partsTo p s s.size).2 s.size]
theorem partsTo_from (p : UInt8 → Bool) (s : ByteArray) : ∀ i, (partsTo p s i).2 ≤ i
  | 0 => Nat.le_refl _
  | i + 1 => by
    have := partsTo_from p s i
    simp only [partsTo]
    split <;> simp <;> omega
theorem partsTo_len (p : UInt8 → Bool) (s : ByteArray) : ∀ i, (partsTo p s i).1.length ≤ i
  | 0 => Nat.le_refl _
  | i + 1 => by
    have := partsTo_len p s i
    simp only [partsTo]
    split <;> simp <;> omega

theorem getD_at {s : ByteArray} {i : Nat} (h : i < s.size) : s.data.toList.getD i 0 = s[i] := by
  rw [List.getD_eq_getElem?_getD, List.getElem?_eq_getElem (by rw [Array.length_toList]; exact h)]; rfl
theorem partsTo_yes {p : UInt8 → Bool} {s : ByteArray} {i : Nat} (h : i < s.size) (hp : p s[i] = true) : partsTo p s (i + 1) = ((partsTo p s i).1 ++ [s.extract (partsTo p s i).2 i], i + 1) := by
  simp only [partsTo]; rw [getD_at h, if_pos hp]
theorem partsTo_no {p : UInt8 → Bool} {s : ByteArray} {i : Nat} (h : i < s.size) (hp : p s[i] = false) : partsTo p s (i + 1) = partsTo p s i := by
  simp only [partsTo]; rw [getD_at h, if_neg (by rw [hp]; decide)]
theorem partsTo_grows (p : UInt8 → Bool) (s : ByteArray) (i d : Nat) : (partsTo p s i).1 <+: (partsTo p s (i + d)).1 := by
  induction d with
  | zero => exact List.prefix_refl _
  | succ d ih =>
    rw [show i + (d + 1) = (i + d) + 1 by omega]
    simp only [partsTo]
    split
    · exact ih.trans (List.prefix_append _ _)
    · exact ih
theorem partsTo_prefix (p : UInt8 → Bool) (s : ByteArray) (i : Nat) (h : i ≤ s.size) : (partsTo p s i).1 <+: partsOf p s := by
  have := partsTo_grows p s i (s.size - i)
  rw [show i + (s.size - i) = s.size by omega] at this
  exact this.trans (List.prefix_append _ _)
/-- Three blocks lie as they lay. -/
def Keep3 (a b c : Nat) (A B : World) : Prop := B.heap[a]? = A.heap[a]? ∧ B.heap[b]? = A.heap[b]? ∧ B.heap[c]? = A.heap[c]?
theorem Keep3.refl (a b c : Nat) (A : World) : Keep3 a b c A A := ⟨rfl, rfl, rfl⟩
theorem Keep3.trans {a b c : Nat} {A B C : World} (h : Keep3 a b c A B) (k : Keep3 a b c B C) : Keep3 a b c A C := ⟨k.1.trans h.1, k.2.1.trans h.2.1, k.2.2.trans h.2.2⟩
theorem Keep3.drewN {a b c : Nat} {A B : World} (h : Keep3 a b c A B) (n : Nat) : Keep3 a b c A (B.drewN n) := h
theorem cell_same {A B : World} {b : Nat} (h : B.heap[b]? = A.heap[b]?) (o : Nat) : B.cell? ⟨b, o, none⟩ = A.cell? ⟨b, o, none⟩ := by simp [World.cell?, h]

set_option maxHeartbeats 1000000 in
theorem by1_in (F : Fence) (n : Nat) (h49 : F.fn 163) (hro : F.round = none) (x c : Int) (Bc : Nat) (w : World) (hc : w.cell? ⟨Bc, 0, none⟩ = some (.int .u8 c)) :
    CallsIn F n Tryz.prog 163 #[.int .u8 x, .pointer (some ⟨Bc, 0, none⟩)] w fun e w' => e = .returned (.bool (x == c)) ∧ w' = w := by
  refine callsIn_of_wp Tryz.func163 rfl h49 ?_ hro
  simp only [Tryz.ntmps163, List.size_toArray, List.length_cons, List.length_nil, Nat.reduceAdd, Nat.reduceSub, Array.replicate_succ, Array.replicate_zero, List.push_toArray, List.append_toArray, List.nil_append, List.cons_append]
  gi_wp2
  go_ret
  exact ⟨rfl, rfl⟩

set_option maxHeartbeats 2000000 in
set_option maxRecDepth 100000 in
theorem parts1_in (F : Fence) (n : Nat) (h50 : F.fn 164) (h49 : F.fn 163) (hro : F.round = none) (hn : 1 ≤ n) (l Bs Bp Bc : Nat) (s : ByteArray) (hs63 : s.size ≤ 9223372036854775807) (c : Int) (J Jx : List ByteArray → World → Prop)
    (hJ : ∀ pre W m, J pre W → J pre (World.drewN W m))
    (hY : ∀ pre x W, J pre W → pre.length < s.size + 1 → YieldAt F (n - 1) Tryz.prog l #[.string x] W fun e W' =>
      (e = .returned (.bool true) ∧ J (pre ++ [x]) W' ∧ Keep3 Bs Bp Bc W W') ∨ (e = .returned (.bool false) ∧ Jx (pre ++ [x]) W'))
    (W : World) (hs : W.cell? ⟨Bs, 0, none⟩ = some (.string s)) (hp : W.cell? ⟨Bp, 0, none⟩ = some (.func (.func 163) #[] #[.pointer (some ⟨Bc, 0, none⟩)])) (hc : W.cell? ⟨Bc, 0, none⟩ = some (.int .u8 c)) (h0 : J [] W) :
    CallsIn F n Tryz.prog 164 #[.func (.yield l) #[] #[], .pointer (some ⟨Bs, 0, none⟩), .pointer (some ⟨Bp, 0, none⟩)] W fun e W' => (∃ v, e = .returned v) ∧
      ((∃ ys, ys = partsOf (fun b => (b.toNat : Int) == c) s ∧ J ys W') ∨ (∃ pre, pre <+: partsOf (fun b => (b.toNat : Int) == c) s ∧ Jx pre W')) := by
  refine callsIn_of_wp Tryz.func164 rfl h50 ?_ hro
  simp only [Tryz.ntmps164, List.size_toArray, List.length_cons, List.length_nil, Nat.reduceAdd, Nat.reduceSub, Array.replicate_succ, Array.replicate_zero, List.push_toArray, List.append_toArray, List.nil_append, List.cons_append]
  have hmx : Tryz.prog.follows .mixedOrders = true := by kernel_rfl
  gi_wp2
  gi_loopw [4, 8] (fun fr i wr => ∃ k : Nat, k ≤ s.size ∧ i = .int .i64 k ∧ fr = .int .i64 ((partsTo (fun b => (b.toNat : Int) == c) s k).2 : Nat) ∧ Hid (J (partsTo (fun b => (b.toNat : Int) == c) s k).1 wr) ∧ Hid (Keep3 Bs Bp Bc W wr)) (fun _ i _ => s.size - (intOf i).toNat)
  case atStart => exact ⟨0, Nat.zero_le _, rfl, rfl, Lib.hid h0, Lib.hid (Keep3.refl _ _ _ _)⟩
  case round =>
    obtain ⟨k, hk, rfl, rfl, hj, hb⟩ := hrel
    have cs : wr.cell? ⟨Bs, 0, none⟩ = some (.string s) := (cell_same hb.out.1 0).trans hs
    have cp : wr.cell? ⟨Bp, 0, none⟩ = some (.func (.func 163) #[] #[.pointer (some ⟨Bc, 0, none⟩)]) := (cell_same hb.out.2.1 0).trans hp
    have cc : wr.cell? ⟨Bc, 0, none⟩ = some (.int .u8 c) := (cell_same hb.out.2.2 0).trans hc
    have hfr := partsTo_from (fun b => (b.toNat : Int) == c) s k
    have hln := partsTo_len (fun b => (b.toNat : Int) == c) s k
    by_cases hlt : k < s.size
    · cases hx : ((s[k].toNat : Int) == c) with
      | true =>
        have hcall := fun (m : Nat) => by1_in F (n - 1) h49 hro (s[k].toNat : Int) c Bc (wr.drewN m) (by simpa using cc)
        rw [hx] at hcall
        gi_wp2
        refine wpIn_region_quiet_lit hro (by kernel_rfl) (by kernel_rfl) ?_
        repeat (gi_big_quiet_step ((gi_at_call 163; exact CallsIn.quiet_of_same (hcall _))))
        refine wpQuietIn_nil ?_
        intro _ hw'
        obtain ⟨nq, hw''⟩ := hw'
        subst hw''
        clear hcall
        have hst := partsTo_yes (p := fun b => (b.toNat : Int) == c) hlt hx
        obtain ⟨fn, tmps, assign, body, hy, hR⟩ := hY _ (s.extract (partsTo (fun b => (b.toNat : Int) == c) s k).2 k) (wr.drewN nq) (hJ _ _ nq hj.out) (by omega)
        have hst' := Lib.hid hst
        clear hst
        gi_wp2
        refine hR.mono ?_
        rintro e W3 (⟨rfl, hJ3, hk3⟩ | ⟨rfl, hJx3⟩)
        · have HJ3 := Lib.hid hJ3
          have HK3 := Lib.hid ((Keep3.drewN hb.out nq).trans hk3)
          clear hJ3 hk3 hR hy
          gi_wp2
          go_roundw
          case rel => exact ⟨k + 1, by omega, by go_num, by rw [hst'.out]; go_num, Lib.hid (by rw [hst'.out]; exact HJ3.out), HK3⟩
          case measure => simp [intOf]; omega
        · have HJ3 := Lib.hid hJx3
          clear hJx3 hR hy
          gi_wp2
          refine bodyPost_ret (results_none rfl _ _ _) rfl ?_
          refine ⟨⟨_, rfl⟩, .inr ⟨_, ?_, HJ3.out⟩⟩
          have := partsTo_prefix (fun b => (b.toNat : Int) == c) s (k + 1) (by omega)
          rw [hst'.out] at this
          exact this
      | false =>
        have hcall := fun (m : Nat) => by1_in F (n - 1) h49 hro (s[k].toNat : Int) c Bc (wr.drewN m) (by simpa using cc)
        rw [hx] at hcall
        gi_wp2
        refine wpIn_region_quiet_lit hro (by kernel_rfl) (by kernel_rfl) ?_
        repeat (gi_big_quiet_step ((gi_at_call 163; exact CallsIn.quiet_of_same (hcall _))))
        refine wpQuietIn_nil ?_
        intro _ hw'
        obtain ⟨nq, hw''⟩ := hw'
        subst hw''
        clear hcall
        have hst' := Lib.hid (partsTo_no (p := fun b => (b.toNat : Int) == c) hlt hx)
        gi_wp2
        go_roundw
        case rel => exact ⟨k + 1, by omega, by go_num, by rw [hst'.out], Lib.hid (by rw [hst'.out]; exact hJ _ _ nq hj.out), Lib.hid (Keep3.drewN hb.out nq)⟩
        case measure => simp [intOf]; omega
    · obtain rfl : k = s.size := by omega
      obtain ⟨fn, tmps, assign, body, hy, hR⟩ := hY _ (s.extract (partsTo (fun b => (b.toNat : Int) == c) s s.size).2 s.size) wr hj.out (by omega)
      gi_wp2
      refine hR.mono ?_
      rintro e W3 (⟨rfl, hJ3, hk3⟩ | ⟨rfl, hJx3⟩)
      · have HJ3 := Lib.hid hJ3
        clear hJ3 hk3 hR hy
        gi_wp2
        go_end0
        exact ⟨⟨_, rfl⟩, .inl ⟨_, rfl, HJ3.out⟩⟩
      · have HJ3 := Lib.hid hJx3
        clear hJx3 hR hy
        gi_wp2
        go_end0
        exact ⟨⟨_, rfl⟩, .inr ⟨_, List.prefix_refl _, HJ3.out⟩⟩

theorem grown_drewN (W : World) (m : Nat) : W.grownBy (W.drewN m) none := ⟨rfl, rfl, rfl, Nat.le_refl _, fun _ _ _ => rfl⟩
theorem parts_stops (F : Fence) (n : Nat) (h50 : F.fn 164) (h49 : F.fn 163) (hro : F.round = none) (hn : 1 ≤ n) (Bs Bp Bc : Nat) (s : ByteArray) (hs63 : s.size ≤ 9223372036854775807) (c : Int) (w : World)
    (hs : w.cell? ⟨Bs, 0, none⟩ = some (.string s)) (hp : w.cell? ⟨Bp, 0, none⟩ = some (.func (.func 163) #[] #[.pointer (some ⟨Bc, 0, none⟩)])) (hc : w.cell? ⟨Bc, 0, none⟩ = some (.int .u8 c)) :
    SeqStopsK F n Tryz.prog 164 #[.pointer (some ⟨Bs, 0, none⟩), .pointer (some ⟨Bp, 0, none⟩)] (fun x : ByteArray => #[Value.string x]) (Keep3 Bs Bp Bc) (fun ys => ys = partsOf (fun b => (b.toNat : Int) == c) s) (fun pre => pre <+: partsOf (fun b => (b.toNat : Int) == c) s) (s.size + 1) w := fun l J Jx W hW hJ _ hY h0 =>
  parts1_in F n h50 h49 hro hn l Bs Bp Bc s hs63 c J Jx (fun pre W1 m hj => hJ _ _ _ none hj (grown_drewN W1 m) (fun r e => by cases e)) hY W (@pw_cell_below' _ _ hW _ _ hs) (@pw_cell_below' _ _ hW _ _ hp) (@pw_cell_below' _ _ hW _ _ hc) h0

def blankI (x : Int) : Bool := x == 32 || x == 9
def idleI (x : Int) : Bool := x == 32 || (decide (9 ≤ x) && decide (x ≤ 13))

set_option maxHeartbeats 1000000 in
theorem blank_in (F : Fence) (n : Nat) (h49 : F.fn 144) (hro : F.round = none) (x : Int) (w : World) :
    CallsIn F n Tryz.prog 144 #[.int .u8 x] w fun e w' => e = .returned (.bool (blankI x)) ∧ w' = w := by
  refine callsIn_of_wp Tryz.func144 rfl h49 ?_ hro
  simp only [Tryz.ntmps144, List.size_toArray, List.length_cons, List.length_nil, Nat.reduceAdd, Nat.reduceSub, Array.replicate_succ, Array.replicate_zero, List.push_toArray, List.append_toArray, List.nil_append, List.cons_append]
  cases h : (x == 32) with
  | true =>
    have hb := Lib.hid (show blankI x = true by simp [blankI, h])
    gi_wp2
    all_goals (go_ret; exact ⟨by rw [hb.out]; rfl, rfl⟩)
  | false =>
    have hb := Lib.hid (show blankI x = (x == 9) by simp [blankI, h])
    gi_wp2
    all_goals (go_ret; exact ⟨by rw [hb.out]; rfl, rfl⟩)


set_option maxHeartbeats 2000000 in
set_option maxRecDepth 100000 in
theorem parts1_blank (F : Fence) (n : Nat) (h50 : F.fn 164) (h49 : F.fn 144) (hro : F.round = none) (hn : 1 ≤ n) (l Bs Bp : Nat) (s : ByteArray) (hs63 : s.size ≤ 9223372036854775807) (J Jx : List ByteArray → World → Prop)
    (hJ : ∀ pre W m, J pre W → J pre (World.drewN W m))
    (hY : ∀ pre x W, J pre W → pre.length < s.size + 1 → YieldAt F (n - 1) Tryz.prog l #[.string x] W fun e W' =>
      (e = .returned (.bool true) ∧ J (pre ++ [x]) W' ∧ Keep3 Bs Bp Bp W W') ∨ (e = .returned (.bool false) ∧ Jx (pre ++ [x]) W'))
    (W : World) (hs : W.cell? ⟨Bs, 0, none⟩ = some (.string s)) (hp : W.cell? ⟨Bp, 0, none⟩ = some (.func (.func 144) #[] #[])) (h0 : J [] W) :
    CallsIn F n Tryz.prog 164 #[.func (.yield l) #[] #[], .pointer (some ⟨Bs, 0, none⟩), .pointer (some ⟨Bp, 0, none⟩)] W fun e W' => (∃ v, e = .returned v) ∧
      ((∃ ys, ys = partsOf (fun b => blankI (b.toNat : Int)) s ∧ J ys W') ∨ (∃ pre, pre <+: partsOf (fun b => blankI (b.toNat : Int)) s ∧ Jx pre W')) := by
  refine callsIn_of_wp Tryz.func164 rfl h50 ?_ hro
  simp only [Tryz.ntmps164, List.size_toArray, List.length_cons, List.length_nil, Nat.reduceAdd, Nat.reduceSub, Array.replicate_succ, Array.replicate_zero, List.push_toArray, List.append_toArray, List.nil_append, List.cons_append]
  have hmx : Tryz.prog.follows .mixedOrders = true := by kernel_rfl
  gi_wp2
  gi_loopw [4, 8] (fun fr i wr => ∃ k : Nat, k ≤ s.size ∧ i = .int .i64 k ∧ fr = .int .i64 ((partsTo (fun b => blankI (b.toNat : Int)) s k).2 : Nat) ∧ Hid (J (partsTo (fun b => blankI (b.toNat : Int)) s k).1 wr) ∧ Hid (Keep3 Bs Bp Bp W wr)) (fun _ i _ => s.size - (intOf i).toNat)
  case atStart => exact ⟨0, Nat.zero_le _, rfl, rfl, Lib.hid h0, Lib.hid (Keep3.refl _ _ _ _)⟩
  case round =>
    obtain ⟨k, hk, rfl, rfl, hj, hb⟩ := hrel
    have cs : wr.cell? ⟨Bs, 0, none⟩ = some (.string s) := (cell_same hb.out.1 0).trans hs
    have cp : wr.cell? ⟨Bp, 0, none⟩ = some (.func (.func 144) #[] #[]) := (cell_same hb.out.2.1 0).trans hp
    have hfr := partsTo_from (fun b => blankI (b.toNat : Int)) s k
    have hln := partsTo_len (fun b => blankI (b.toNat : Int)) s k
    by_cases hlt : k < s.size
    · cases hx : (blankI (s[k].toNat : Int)) with
      | true =>
        have hcall := fun (m : Nat) => blank_in F (n - 1) h49 hro (s[k].toNat : Int) (wr.drewN m)
        rw [hx] at hcall
        gi_wp2
        refine wpIn_region_quiet_lit hro (by kernel_rfl) (by kernel_rfl) ?_
        repeat (gi_big_quiet_step ((gi_at_call 144; exact CallsIn.quiet_of_same (hcall _))))
        refine wpQuietIn_nil ?_
        intro _ hw'
        obtain ⟨nq, hw''⟩ := hw'
        subst hw''
        clear hcall
        have hst := partsTo_yes (p := fun b => blankI (b.toNat : Int)) hlt hx
        obtain ⟨fn, tmps, assign, body, hy, hR⟩ := hY _ (s.extract (partsTo (fun b => blankI (b.toNat : Int)) s k).2 k) (wr.drewN nq) (hJ _ _ nq hj.out) (by omega)
        have hst' := Lib.hid hst
        clear hst
        gi_wp2
        refine hR.mono ?_
        rintro e W3 (⟨rfl, hJ3, hk3⟩ | ⟨rfl, hJx3⟩)
        · have HJ3 := Lib.hid hJ3
          have HK3 := Lib.hid ((Keep3.drewN hb.out nq).trans hk3)
          clear hJ3 hk3 hR hy
          gi_wp2
          go_roundw
          case rel => exact ⟨k + 1, by omega, by go_num, by rw [hst'.out]; go_num, Lib.hid (by rw [hst'.out]; exact HJ3.out), HK3⟩
          case measure => simp [intOf]; omega
        · have HJ3 := Lib.hid hJx3
          clear hJx3 hR hy
          gi_wp2
          refine bodyPost_ret (results_none rfl _ _ _) rfl ?_
          refine ⟨⟨_, rfl⟩, .inr ⟨_, ?_, HJ3.out⟩⟩
          have := partsTo_prefix (fun b => blankI (b.toNat : Int)) s (k + 1) (by omega)
          rw [hst'.out] at this
          exact this
      | false =>
        have hcall := fun (m : Nat) => blank_in F (n - 1) h49 hro (s[k].toNat : Int) (wr.drewN m)
        rw [hx] at hcall
        gi_wp2
        refine wpIn_region_quiet_lit hro (by kernel_rfl) (by kernel_rfl) ?_
        repeat (gi_big_quiet_step ((gi_at_call 144; exact CallsIn.quiet_of_same (hcall _))))
        refine wpQuietIn_nil ?_
        intro _ hw'
        obtain ⟨nq, hw''⟩ := hw'
        subst hw''
        clear hcall
        have hst' := Lib.hid (partsTo_no (p := fun b => blankI (b.toNat : Int)) hlt hx)
        gi_wp2
        go_roundw
        case rel => exact ⟨k + 1, by omega, by go_num, by rw [hst'.out], Lib.hid (by rw [hst'.out]; exact hJ _ _ nq hj.out), Lib.hid (Keep3.drewN hb.out nq)⟩
        case measure => simp [intOf]; omega
    · obtain rfl : k = s.size := by omega
      obtain ⟨fn, tmps, assign, body, hy, hR⟩ := hY _ (s.extract (partsTo (fun b => blankI (b.toNat : Int)) s s.size).2 s.size) wr hj.out (by omega)
      gi_wp2
      refine hR.mono ?_
      rintro e W3 (⟨rfl, hJ3, hk3⟩ | ⟨rfl, hJx3⟩)
      · have HJ3 := Lib.hid hJ3
        clear hJ3 hk3 hR hy
        gi_wp2
        go_end0
        exact ⟨⟨_, rfl⟩, .inl ⟨_, rfl, HJ3.out⟩⟩
      · have HJ3 := Lib.hid hJx3
        clear hJx3 hR hy
        gi_wp2
        go_end0
        exact ⟨⟨_, rfl⟩, .inr ⟨_, List.prefix_refl _, HJ3.out⟩⟩

theorem parts_stops_blank (F : Fence) (n : Nat) (h50 : F.fn 164) (h49 : F.fn 144) (hro : F.round = none) (hn : 1 ≤ n) (Bs Bp : Nat) (s : ByteArray) (hs63 : s.size ≤ 9223372036854775807) (w : World)
    (hs : w.cell? ⟨Bs, 0, none⟩ = some (.string s)) (hp : w.cell? ⟨Bp, 0, none⟩ = some (.func (.func 144) #[] #[])) :
    SeqStopsK F n Tryz.prog 164 #[.pointer (some ⟨Bs, 0, none⟩), .pointer (some ⟨Bp, 0, none⟩)] (fun x : ByteArray => #[Value.string x]) (Keep3 Bs Bp Bp) (fun ys => ys = partsOf (fun b => blankI (b.toNat : Int)) s) (fun pre => pre <+: partsOf (fun b => blankI (b.toNat : Int)) s) (s.size + 1) w := fun l J Jx W hW hJ _ hY h0 =>
  parts1_blank F n h50 h49 hro hn l Bs Bp s hs63 J Jx (fun pre W1 m hj => hJ _ _ _ none hj (grown_drewN W1 m) (fun r e => by cases e)) hY W (@pw_cell_below' _ _ hW _ _ hs) (@pw_cell_below' _ _ hW _ _ hp) h0

end Go.Proofs.YtlicjpbmlmongaaGreatDoor.S

end
section
/- (Without lines.Split.) lines.Split: the lines of a text, and whether its last one ends. -/
set_option linter.unusedVariables false
set_option linter.unusedSimpArgs false
namespace Go.Proofs.YtlicjpbmlmongaaGreatDoor.S
open Go.RowKit Go.Shelf Go.BigFrame Go.Proofs.YtlicjpbmlmongaaGreatDoor.H

attribute [local go_sem] Oper.semAt_some

set_option maxHeartbeats 1000000 in
theorem by_in (F : Fence) (n : Nat) (h41 : F.fn 146) (hro : F.round = none) (c : Int) (w : World) :
    CallsIn F n Tryz.prog 146 #[.int .u8 c] w fun e w' => e = .returned (.agg #[.func (.func 163) #[] #[.pointer (some ⟨w.heap.size, 0, none⟩)]]) ∧
      w' = (w.alloc (.cells #[.int .u8 c] 5)).alloc (.cells #[.func (.func 163) #[] #[.pointer (some ⟨w.heap.size, 0, none⟩)]] 207) := by
  refine callsIn_of_wp Tryz.func146 rfl h41 ?_ hro
  simp only [Tryz.ntmps146, List.size_toArray, List.length_cons, List.length_nil, Nat.reduceAdd, Nat.reduceSub, Array.replicate_succ, Array.replicate_zero, List.push_toArray, List.append_toArray, List.nil_append, List.cons_append]
  gi_wp2
  exact bodyPost_ret (v := .agg #[.func (.func 163) #[] #[.pointer (some ⟨w.heap.size, 0, none⟩)]]) (by simp [results, Tryz.results146, go_sem]) rfl ⟨rfl, rfl⟩

set_option maxHeartbeats 1000000 in
theorem parts_in (F : Fence) (n : Nat) (h42 : F.fn 147) (hro : F.round = none) (fv : Value) (s : ByteArray) (w : World) :
    CallsIn F n Tryz.prog 147 #[.agg #[fv], .string s] w fun e w' => e = .returned (.func (.func 164) #[] #[.pointer (some ⟨w.heap.size + 1, 0, none⟩), .pointer (some ⟨w.heap.size, 0, none⟩)]) ∧
      w' = (w.alloc (.cells #[fv] 207)).alloc (.cells #[.string s] 9) := by
  refine callsIn_of_wp Tryz.func147 rfl h42 ?_ hro
  simp only [Tryz.ntmps147, List.size_toArray, List.length_cons, List.length_nil, Nat.reduceAdd, Nat.reduceSub, Array.replicate_succ, Array.replicate_zero, List.push_toArray, List.append_toArray, List.nil_append, List.cons_append]
  gi_wp2
  go_ret
  exact ⟨rfl, rfl⟩

/-- What an append and the store back leave, the row's blocks lying from nr on. -/
theorem boxed_app {W w1 : World} {n₀ nr B : Nat} {t e : TypeId} {size : Nat} {v v' : Value} {k m : Nat} {xs ys : List Value} {tmp : Obj}
    (hv : Boxed W B t v) (hte : t ≠ e) (hrow : W.ownsRow nr e size v k xs) (hn₀ : n₀ ≤ W.heap.size) (hB : n₀ ≤ B) (hn : n₀ ≤ nr)
    (hown' : w1.ownsRow nr e size v' m ys) (hgrow : (W.alloc tmp).grownBy w1 v.ownBlock) :
    Boxed w1 B t v ∧ Boxed (w1.setCell ⟨B, 0, none⟩ v') B t v' ∧ (w1.setCell ⟨B, 0, none⟩ v').ownsRow nr e size v' m ys ∧ KeepsOthers W (w1.setCell ⟨B, 0, none⟩ v') ∧ Below n₀ W (w1.setCell ⟨B, 0, none⟩ v') ∧
      ∀ j, j < nr → j ≠ B → j < W.heap.size → (w1.setCell ⟨B, 0, none⟩ v').heap[j]? = W.heap[j]? := by
  have hv1 : Boxed w1 B t v := (hv.alloc tmp).kept hgrow (hv.not_row hte hrow)
  have hbase : ∀ j, v.ownBlock = some j → nr ≤ j := fun j ej => by
    rcases hrow.2 with ⟨rfl, _⟩ | ⟨g, cap, cur, rfl, hb, _, _⟩
    · simp [Value.ownBlock] at ej
    · obtain rfl : g = j := by simpa [Value.ownBlock] using ej
      exact hb
  refine ⟨hv1, hv1.set v', hown'.kept (grownBy_setCell' w1 B v') (.inr (hv1.not_row hte hown').symm), ?_, ?_, ?_⟩
  · refine ((KeepsOthers.alloc W tmp).trans (KeepsOthers.of_grownBy hgrow fun j o ej hj => ?_)).trans (KeepsOthers.setCell _ _ _)
    rcases (hrow.alloc tmp).2 with ⟨rfl, _⟩ | ⟨g, cap, cur, rfl, _, hgb, _⟩
    · simp [Value.ownBlock] at ej
    · obtain rfl : g = j := by simpa [Value.ownBlock] using ej
      rw [hgb] at hj; cases hj; rfl
  · exact (((Below.refl n₀ W).alloc hn₀ tmp).grown hgrow (by simp; omega) fun j ej => Nat.le_trans hn (hbase j ej)).setCell (p := ⟨B, 0, none⟩) hB v'
  · intro j h1 h2 h3
    rw [Below.heap_setCell w1 ⟨B, 0, none⟩ v' j h2, hgrow.block j (by simp; omega) (fun e' => by have := hbase j e'.symm; omega)]
    exact (World.grownBy_alloc W tmp none).block j h3 (by simp)

theorem collect_kept (n₀ B : Nat) (t e : TypeId) (k : List ByteArray → Nat) (f : List ByteArray → List Value) : Own (fun (pre : List ByteArray) W => ∃ v, Boxed W B t v ∧ W.ownsRow n₀ e 1 v (k pre) (f pre)) := by
  rintro s X Y row ⟨v, hv, hr⟩ hg hrow
  obtain ⟨v', a, b, _⟩ := holdsRow_own n₀ B t e 1 k f (fun _ _ => True) s X Y row ⟨v, hv, hr, trivial⟩ hg hrow
  exact ⟨v', a, b⟩
theorem keep3_putObj {a b c N : Nat} (ha : a < N) (hb : b < N) (hc : c < N) (W : World) (l : Nat) (o' : Obj) (hl : N ≤ l) : Keep3 a b c W (W.putObj l o') :=
  ⟨World.putObj_heap_other (by omega), World.putObj_heap_other (by omega), World.putObj_heap_other (by omega)⟩

/-- A text's lines, and whether its last one ends. -/
theorem own_weaken' {w : World} {base base' : Nat} {e size n : Nat} {v : Value} {xs : List Value} (h : w.ownsRow base e size v n xs) (hb : base' ≤ base) : w.ownsRow base' e size v n xs :=
  Go.Proofs.YtlicjpbmlmongaaGreatDoorW.PrintWords.own_weaken h hb
theorem toList_isEmpty (s : ByteArray) : s.toList.isEmpty = decide (s.size = 0) := by
  rw [Lib.toList_data, Lib.size_eq]
  cases s.data.toList <;> simp
theorem own_nil' (W : World) (base : Nat) (e : TypeId) : W.ownsRow base e 1 (.slice none 0 0) 0 (strs []) := ⟨rfl, .inl ⟨rfl, rfl⟩⟩
end Go.Proofs.YtlicjpbmlmongaaGreatDoor.S

end
section
/- (parter).runs: the parts that are not empty. -/
set_option linter.unusedVariables false
set_option linter.unusedSimpArgs false
namespace Go.Proofs.YtlicjpbmlmongaaGreatDoor.S
open Go.RowKit Go.Shelf Go.BigFrame Go.Proofs.YtlicjpbmlmongaaGreatDoor.H

attribute [local go_sem] Oper.semAt_some

theorem results_box {P : Program} {fn : Func} {p : Tmp} {ty : TypeId} (h : fn.results = #[.cell p ty]) {tmps : Array Value} {w : World} {B : Nat} {v : Value}
    (ha : (isAgg ty).run P w = .ok false w) (hp : tmps.getD p undef = .pointer (some ⟨B, 0, none⟩)) (hg : w.cell? ⟨B, 0, none⟩ = some v) :
    (results fn tmps).run P w = .ok v w := by
  have hp' : tmps[p]?.getD undef = .pointer (some ⟨B, 0, none⟩) := by simpa using hp
  simp only [results, h]
  simp [hp', asAddr, loadVar, Sem.run_bind, ha, Result.andThen, go_sem, hg]
theorem agg22 (w : World) : (isAgg 24).run Tryz.prog w = .ok false w := run_isAgg_plain Tryz.underlying24 rfl w
theorem boxed_putObj {W : World} {B : Nat} {t : TypeId} {v : Value} (h : Boxed W B t v) {l : Nat} {o : Obj} (o' : Obj) (hl : W.heap[l]? = some o) (ho : o.isCells = false) : Boxed (W.putObj l o') B t v := by
  have : l ≠ B := by
    rintro rfl
    have h' : W.heap[l]? = _ := h
    rw [h'] at hl; cases hl; cases ho
  exact (World.putObj_heap_other (Ne.symm this)).trans h
theorem below_set {n₀ B : Nat} (W : World) (v : Value) (hB : n₀ ≤ B) : Below n₀ W (W.setCell ⟨B, 0, none⟩ v) := (Below.refl n₀ W).setCell (p := ⟨B, 0, none⟩) hB v

theorem own_slice {w : World} {base e size n : Nat} {v : Value} {xs : List Value} (h : w.ownsRow base e size v n xs) : ∃ a m c, v = .slice a m c := by
  rcases h.2 with ⟨rfl, _⟩ | ⟨g, cap, cur, rfl, _⟩
  · exact ⟨_, _, _, rfl⟩
  · exact ⟨_, _, _, rfl⟩

def runsOf (p : UInt8 → Bool) (s : ByteArray) : List ByteArray := (partsOf p s).filter (fun x => !(x.size == 0))
def runsL (l : List ByteArray) : List ByteArray := l.filter (fun x => !(x.size == 0))
theorem runsL_snoc (l : List ByteArray) (x : ByteArray) : runsL (l ++ [x]) = if x.size = 0 then runsL l else runsL l ++ [x] := by
  unfold runsL
  rw [List.filter_append]
  by_cases h : x.size = 0 <;> simp [h]
theorem runsL_len (l : List ByteArray) : (runsL l).length ≤ l.length := List.length_filter_le _ _

set_option maxHeartbeats 4000000 in
set_option maxRecDepth 100000 in
theorem runs_in (F : Fence) (n : Nat) (h38 : F.fn 145) (h42 : F.fn 147) (h50 : F.fn 164) (hro : F.round = none) (hn : 4 ≤ n)
    (fv : Value) (hfv : fv.oneCell' = true) (p : UInt8 → Bool) (s : ByteArray) (hs : s.size ≤ 8796093022000) (w : World)
    (hseq : ∀ (W : World) (Bs Bp : Nat), W.cell? ⟨Bs, 0, none⟩ = some (.string s) → W.cell? ⟨Bp, 0, none⟩ = some fv →
      SeqStopsK F (n - 1) Tryz.prog 164 #[.pointer (some ⟨Bs, 0, none⟩), .pointer (some ⟨Bp, 0, none⟩)] (fun x : ByteArray => #[Value.string x]) (Keep3 Bs Bp Bp) (fun ys => ys = partsOf p s) (fun pre => pre <+: partsOf p s) (s.size + 1) W) :
    CallsIn F n Tryz.prog 145 #[.agg #[fv], .string s] w fun e W' => ∃ v, e = .returned v ∧ W'.ownsRow w.heap.size 9 1 v (runsOf p s).length (strs (runsOf p s)) ∧ Below w.heap.size w W' := by
  have h1 : 1 ≤ n := by omega
  obtain ⟨i0, hi, hz0, hz1, hz2⟩ := info_parts infoS
  refine callsIn_of_wp_marks Tryz.func145 rfl h38 ?_ hro
  simp only [Tryz.ntmps145, List.size_toArray, List.length_cons, List.length_nil, Nat.reduceAdd, Nat.reduceSub, Array.replicate_succ, Array.replicate_zero, List.push_toArray, List.append_toArray, List.nil_append, List.cons_append]
  gi_wp2_with (gi_at_call 147; refine (parts_in F (n - 1) h42 hro _ _ _).mono ?_; rintro e w' ⟨rfl, rfl⟩)
  obtain ⟨W0, hW0⟩ : ∃ W0, ((((w.alloc (Obj.cells #[fv] 207)).alloc (Obj.cells #[Value.slice none 0 0] 24)).alloc (Obj.cells #[fv] 207)).alloc (Obj.cells #[Value.string s] 9)) = W0 := ⟨_, rfl⟩
  have hzW : W0.heap.size = w.heap.size + 4 := by rw [← hW0]; simp
  have hB0 : Below w.heap.size w W0 := by rw [← hW0]; exact bal (bal (bal (bal (Below.refl _ _) _) _) _) _
  have bO : Boxed W0 (w.heap.size + 1) 24 (.slice none 0 0) := by
    rw [← hW0]
    have := Boxed.new (w.alloc (Obj.cells #[fv] 207)) 24 (Value.slice none 0 0)
    rw [World.size_alloc] at this
    exact ((this.alloc _).alloc _)
  have cP : W0.cell? ⟨w.heap.size + 1 + 1, 0, none⟩ = some fv := by
    rw [← hW0]
    have := Boxed.new ((w.alloc (Obj.cells #[fv] 207)).alloc (Obj.cells #[Value.slice none 0 0] 24)) 207 fv
    rw [World.size_alloc, World.size_alloc] at this
    exact (this.alloc _).cell
  have cS : W0.cell? ⟨w.heap.size + 1 + 1 + 1, 0, none⟩ = some (.string s) := by
    rw [← hW0]
    have := Boxed.new (((w.alloc (Obj.cells #[fv] 207)).alloc (Obj.cells #[Value.slice none 0 0] 24)).alloc (Obj.cells #[fv] 207)) 9 (Value.string s)
    rw [World.size_alloc, World.size_alloc, World.size_alloc] at this
    exact this.cell
  rw [hW0]
  have hsq := hseq W0 _ _ cS cP
  clear hseq
  refine wpIn_rangeFunc_ownG hro h1 (gf := 164) (lb := #[.pointer (some ⟨w.heap.size + 1 + 1 + 1, 0, none⟩), .pointer (some ⟨w.heap.size + 1 + 1, 0, none⟩)]) rfl h50 (enters_of Tryz.func164 (by kernel_rfl) rfl)
    hsq Keep3.trans (fun W l o o' hl _ _ _ => keep3_putObj (N := W0.heap.size) (by omega) (by omega) (by omega) W l o' hl) (Below.refl _ _) (fun _ => rfl)
    (fun pre W => (∃ v, Boxed W (w.heap.size + 1) 24 v ∧ W.ownsRow (w.heap.size + 4) 9 1 v (runsL pre).length (strs (runsL pre))) ∧ (Below w.heap.size w W ∧ w.heap.size + 4 ≤ W.heap.size))
    (fun _ _ _ => False)
    ?hI (fun _ _ _ _ _ hs _ _ => hs) ⟨⟨_, bO, own_nil' _ _ _⟩, hB0, by omega⟩
    (fun x => { tmps := #[.agg #[fv], .string s, .pointer (some ⟨w.heap.size, 0, none⟩), undef, .pointer (some ⟨w.heap.size + 1, 0, none⟩), .string x, .agg #[fv], .string s, .func (.func 164) #[] #[.pointer (some ⟨w.heap.size + 1 + 1 + 1, 0, none⟩), .pointer (some ⟨w.heap.size + 1 + 1, 0, none⟩)], .string x, undef, undef, undef, undef, undef, undef, undef], defers := [] }) ?assign ?body ?done ?stop
  case hI =>
    refine OwnFrom.and (Own.from (collect_kept (w.heap.size + 4) (w.heap.size + 1) 24 9 (fun pre => (runsL pre).length) (fun pre => strs (runsL pre))) _) (OwnFrom.and (ownFrom_below (Nat.le_refl _) (by omega)) ?_)
    exact fun q A B row hq hg _ => Nat.le_trans hq hg.size
  case assign =>
    intro l x W K hK
    gi_wp2
    exact hK
  case body =>
    rintro l pre x W ⟨⟨v, hv, hrow⟩, hB, hz⟩ hlt
    have hc := hv.cell
    have hrl := runsL_len pre
    by_cases hx : x.size = 0
    · obtain rfl : x = ⟨#[]⟩ := by
        cases x with | mk d => exact congrArg ByteArray.mk (Array.eq_empty_of_size_eq_zero hx)
      have hsn : runsL (pre ++ [⟨#[]⟩]) = runsL pre := by rw [runsL_snoc, if_pos hx]
      gi_wp2
      exact ⟨KeepsFrom.refl _ _, ⟨rfl, rfl, rfl⟩, ⟨_, hv, by rw [hsn]; exact hrow⟩, hB, hz⟩
    · have hl : x.toList.isEmpty = false := by rw [toList_isEmpty]; simpa using hx
      have hsn := Lib.hid (show runsL (pre ++ [x]) = runsL pre ++ [x] by rw [runsL_snoc, if_neg hx])
      have hle : (runsL pre).length ≤ 8796093022001 := by omega
      clear hx hlt hrl
      gi_wp2_with (gi_at_builtin; refine wpListIn_append_own _ rfl _ _ 24 rfl (w.heap.size + 4) 9 i0 (.string ⟨#[]⟩) 1 16 Tryz.underlying24 hi hz0 hz1 hz2 rfl (by decide) _ _ _ rfl (hrow.alloc _) ⟨W.heap.size, 0, none⟩ 1 1 [.string x] rfl rfl (cell_one_new _ _ _) (by simp [Value.oneCell']) (by unfold maxLen; omega) (by omega) (by simp; omega) ?_; intro v' w1 hown' hgrow _; obtain ⟨g', cap', rfl⟩ := ownsRow_succ hown'; obtain ⟨hv1, hv2, hr2, hk2, hb2, hk3⟩ := boxed_app (n₀ := w.heap.size) hv (by decide) hrow (by omega) (by omega) (by omega) hown' hgrow; have hc1 := hv1.cell; have hf1 := hv1.frozen)
      exact ⟨hk2.from _, ⟨hk3 _ (by omega) (by omega) (by omega), hk3 _ (by omega) (by omega) (by omega), hk3 _ (by omega) (by omega) (by omega)⟩, ⟨_, hv2, by rw [hsn.out]; simpa [strs] using hr2⟩, hB.trans hb2, Nat.le_trans hz hb2.size⟩
  case done =>
    rintro D ys W hD rfl ⟨⟨v, hv, hrow⟩, hB, hz⟩ hK
    obtain ⟨sa, sm, sc, rfl⟩ := own_slice hrow
    have hv2 := hv.set (Value.slice sa sm sc)
    have hr2 : (W.setCell ⟨w.heap.size + 1, 0, none⟩ (Value.slice sa sm sc)).ownsRow (w.heap.size + 4) 9 1 (Value.slice sa sm sc) (runsL (partsOf p s)).length (strs (runsL (partsOf p s))) := hrow.kept (grownBy_setCell' W (w.heap.size + 1) _) (.inr (hv.not_row (by decide) hrow).symm)
    have hK2 : (W.setCell ⟨w.heap.size + 1, 0, none⟩ (Value.slice sa sm sc)).heap[D]? = some (Obj.deferred (some [])) := by rw [Below.heap_setCell W ⟨w.heap.size + 1, 0, none⟩ _ D (by simp; omega)]; exact hK
    have hB2 := hB.trans (below_set (n₀ := w.heap.size) W (B := w.heap.size + 1) (Value.slice sa sm sc) (by omega))
    have hc := hv.cell
    have hfz := hv.frozen
    have hX2 := Lib.hid (And.intro hv2 (And.intro hr2 (And.intro hK2 hB2)))
    clear hv2 hr2 hK2 hB2 hv hrow hB
    gi_wp2
    obtain ⟨hv2, hr2, hK2, hB2⟩ := hX2.out
    refine ⟨by simp, .inl ⟨_, _, rfl, run_takeDeferred hK2, ?_⟩⟩
    exact ⟨_, results_box rfl (agg22 _) rfl (boxed_putObj hv2 _ hK2 rfl).cell, _, rfl, own_weaken' (ownsRow_putObj hr2 _ hK2 rfl) (by omega), hB2.trans (belowK_b (w := w) (Nat.le_refl _) _ D _ _ (by omega) hK2 rfl rfl)⟩
  case stop =>
    rintro D c pre W _ _ h _
    exact h.elim
end Go.Proofs.YtlicjpbmlmongaaGreatDoor.S

end
section
/- lines.Fields, lines.Count. -/
set_option linter.unusedVariables false
set_option linter.unusedSimpArgs false
namespace Go.Proofs.YtlicjpbmlmongaaGreatDoor.S
open Go.RowKit Go.Shelf Go.BigFrame Go.Proofs.YtlicjpbmlmongaaGreatDoor.H

attribute [local go_sem] Oper.semAt_some

theorem runs_blank (s : ByteArray) (hs : s.size ≤ 8796093022000) (w : World) :
    Calls Tryz.prog 145 #[.agg #[.func (.func 144) #[] #[]], .string s] w fun e W' => ∃ v, e = .returned v ∧ W'.ownsRow w.heap.size 9 1 v (runsOf (fun b => blankI (b.toNat : Int)) s).length (strs (runsOf (fun b => blankI (b.toNat : Int)) s)) ∧ Below w.heap.size w W' :=
  callsIn_wide.1 (runs_in Fence.wide 10 trivial trivial trivial rfl (by omega) _ rfl _ s hs w fun W Bs Bp cs cp => parts_stops_blank Fence.wide 9 trivial trivial rfl (by omega) Bs Bp s (by omega) W cs cp)

def longestOf (l : List ByteArray) : Int := l.foldl (fun m x => max m (x.size : Int)) 0
theorem longest_snoc (l : List ByteArray) (x : ByteArray) : longestOf (l ++ [x]) = max (longestOf l) (x.size : Int) := by unfold longestOf; rw [List.foldl_append]; rfl
theorem longest_take {l : List ByteArray} (k : Nat) (h : k < l.length) : longestOf (l.take (k + 1)) = max (longestOf (l.take k)) (l[k].size : Int) := by
  rw [List.take_succ_eq_append_getElem h, longest_snoc]
theorem own_shape {W : World} {base e n : Nat} {v : Value} {l : List ByteArray} (h : W.ownsRow base e 1 v n (strs l)) : ∃ A cap, v = .slice A l.length cap ∧ n = l.length ∧ l.length ≤ cap ∧ cap ≤ maxLen ∧ ∀ k (hk : k < l.length), ∃ g, A = some ⟨g, 0, none⟩ ∧ W.cell? ⟨g, k, none⟩ = some (.string l[k]) := by
  have hn : n = l.length := by have := h.1; simp [strs] at this; omega
  rcases h.2 with ⟨h1, h2⟩ | ⟨g, cap, cur, h1, _⟩
  · have h0 : l.length = 0 := by omega
    exact ⟨none, 0, by rw [h1, h0], hn, by omega, by unfold maxLen; omega, fun k hk => absurd hk (by omega)⟩
  · subst h1
    have := twin_cap h
    exact ⟨_, cap, by rw [hn], hn, by omega, this.2, fun k hk => ⟨g, rfl, own_at h k hk⟩⟩
end Go.Proofs.YtlicjpbmlmongaaGreatDoor.S

end
section
/- lines.Fields. -/
set_option linter.unusedVariables false
set_option linter.unusedSimpArgs false
namespace Go.Proofs.YtlicjpbmlmongaaGreatDoor.S
open Go.RowKit Go.Shelf Go.BigFrame Go.Proofs.YtlicjpbmlmongaaGreatDoor.H

attribute [local go_sem] Oper.semAt_some

def fieldsOf (s : ByteArray) (c : Int) : List ByteArray := if c = 0 then runsOf (fun b => blankI (b.toNat : Int)) s else partsOf (fun b => (b.toNat : Int) == c) s

set_option maxHeartbeats 4000000 in
set_option maxRecDepth 100000 in
theorem fields_in (F : Fence) (n : Nat) (h29 : F.fn 123) (h38 : F.fn 145) (h40 : F.fn 144) (h41 : F.fn 146) (h42 : F.fn 147) (h49 : F.fn 163) (h50 : F.fn 164) (hro : F.round = none) (hn : 6 ≤ n)
    (s : ByteArray) (c : Int) (hs : s.size ≤ 8796093022000) (w : World) :
    CallsIn F n Tryz.prog 123 #[.string s, .int .u8 c] w fun e W' => ∃ v, e = .returned v ∧ W'.ownsRow w.heap.size 9 1 v (fieldsOf s c).length (strs (fieldsOf s c)) ∧ Below w.heap.size w W' := by
  have h1 : 1 ≤ n := by omega
  obtain ⟨i0, hi, hz0, hz1, hz2⟩ := info_parts infoS
  refine callsIn_of_wp_marks Tryz.func123 rfl h29 ?_ hro
  simp only [Tryz.ntmps123, List.size_toArray, List.length_cons, List.length_nil, Nat.reduceAdd, Nat.reduceSub, Array.replicate_succ, Array.replicate_zero, List.push_toArray, List.append_toArray, List.nil_append, List.cons_append]
  by_cases he : c = 0
  · subst he
    have hsp : fieldsOf s 0 = runsOf (fun b => blankI (b.toNat : Int)) s := by unfold fieldsOf; rw [if_pos rfl]
    rw [hsp]
    clear hsp
    have bO := Boxed.new w 24 (.slice none 0 0)
    gi_wp2_with (gi_at_call 145; refine (runs_in F (n - 1) h38 h42 h50 hro (by omega) _ rfl (fun b => blankI (b.toNat : Int)) s hs _ (fun W Bs Bp cs cp => parts_stops_blank F (n - 1 - 1) h50 h40 hro (by omega) Bs Bp s (by omega) W cs cp)).mono ?_; rintro e w1 ⟨v, rfl, hown, hb1⟩; obtain ⟨A, cap, rfl, -, -, -, -⟩ := own_shape hown; have hX := Lib.hid (And.intro hown hb1); have hv1 : Boxed w1 w.heap.size 24 (.slice none 0 0) := (hb1.block w.heap.size (by simp)).trans bO; have hc1 := hv1.cell; have hf1 := hv1.frozen; clear hown hb1)
    obtain ⟨hown, hb1⟩ := hX.out
    refine ⟨_, results_box rfl (agg22 _) rfl (hv1.set _).cell, _, rfl, own_weaken' (hown.kept (grownBy_setCell' w1 w.heap.size _) (.inr (hv1.not_row (by decide) hown).symm)) (by simp), ?_⟩
    exact (bth (bal (Below.refl _ _) _) hb1).trans (below_set (n₀ := w.heap.size) w1 (B := w.heap.size) _ (Nat.le_refl _))
  · have hsp : fieldsOf s c = partsOf (fun b => (b.toNat : Int) == c) s := by unfold fieldsOf; rw [if_neg he]
    rw [hsp]
    clear hsp
    gi_wp2_with (first | (gi_at_call 146; refine (by_in F (n - 1) h41 hro _ _).mono ?_; rintro e w' ⟨rfl, rfl⟩) | (gi_at_call 147; refine (parts_in F (n - 1) h42 hro _ _ _).mono ?_; rintro e w' ⟨rfl, rfl⟩))
    obtain ⟨W0, hW0⟩ : ∃ W0, (((((w.alloc (Obj.cells #[Value.slice none 0 0] 24)).alloc (Obj.cells #[Value.int IntKind.u8 c] 5)).alloc
              (Obj.cells #[Value.func (Fn.func 163) #[] #[Value.pointer (some { block := w.heap.size + 1, off := 0 })]] 207)).alloc
          (Obj.cells #[Value.func (Fn.func 163) #[] #[Value.pointer (some { block := w.heap.size + 1, off := 0 })]] 207)).alloc
      (Obj.cells #[Value.string s] 9)) = W0 := ⟨_, rfl⟩
    have hzW : W0.heap.size = w.heap.size + 5 := by rw [← hW0]; simp
    have hB0 : Below w.heap.size w W0 := by rw [← hW0]; exact bal (bal (bal (bal (bal (Below.refl _ _) _) _) _) _) _
    have bO : Boxed W0 w.heap.size 24 (.slice none 0 0) := by rw [← hW0]; exact (((((Boxed.new w 24 (.slice none 0 0)).alloc _).alloc _).alloc _).alloc _)
    have cC : W0.cell? ⟨w.heap.size + 1, 0, none⟩ = some (.int .u8 c) := by
      rw [← hW0]
      have := Boxed.new (w.alloc (Obj.cells #[Value.slice none 0 0] 24)) 5 (Value.int IntKind.u8 c)
      rw [World.size_alloc] at this
      exact (((this.alloc _).alloc _).alloc _).cell
    have cP : W0.cell? ⟨w.heap.size + 1 + 1 + 1, 0, none⟩ = some (.func (.func 163) #[] #[.pointer (some ⟨w.heap.size + 1, 0, none⟩)]) := by
      rw [← hW0]
      have := Boxed.new (((w.alloc (Obj.cells #[Value.slice none 0 0] 24)).alloc (Obj.cells #[Value.int IntKind.u8 c] 5)).alloc
              (Obj.cells #[Value.func (Fn.func 163) #[] #[Value.pointer (some { block := w.heap.size + 1, off := 0 })]] 207)) 207 (Value.func (Fn.func 163) #[] #[Value.pointer (some { block := w.heap.size + 1, off := 0 })])
      rw [World.size_alloc, World.size_alloc, World.size_alloc] at this
      exact (this.alloc _).cell
    have cS : W0.cell? ⟨w.heap.size + 1 + 1 + 1 + 1, 0, none⟩ = some (.string s) := by
      rw [← hW0]
      have := Boxed.new ((((w.alloc (Obj.cells #[Value.slice none 0 0] 24)).alloc (Obj.cells #[Value.int IntKind.u8 c] 5)).alloc
              (Obj.cells #[Value.func (Fn.func 163) #[] #[Value.pointer (some { block := w.heap.size + 1, off := 0 })]] 207)).alloc
          (Obj.cells #[Value.func (Fn.func 163) #[] #[Value.pointer (some { block := w.heap.size + 1, off := 0 })]] 207)) 9 (Value.string s)
      rw [World.size_alloc, World.size_alloc, World.size_alloc, World.size_alloc] at this
      exact this.cell
    rw [hW0]
    refine wpIn_rangeFunc_ownG hro h1 (gf := 164) (lb := #[.pointer (some ⟨w.heap.size + 1 + 1 + 1 + 1, 0, none⟩), .pointer (some ⟨w.heap.size + 1 + 1 + 1, 0, none⟩)]) rfl h50 (enters_of Tryz.func164 (by kernel_rfl) rfl)
      (parts_stops F (n - 1) h50 h49 hro (by omega) (w.heap.size + 1 + 1 + 1 + 1) (w.heap.size + 1 + 1 + 1) (w.heap.size + 1) s (by omega) c W0 cS cP cC) Keep3.trans (fun W l o o' hl _ _ _ => keep3_putObj (N := W0.heap.size) (by omega) (by omega) (by omega) W l o' hl) (Below.refl _ _) (fun _ => rfl)
      (fun pre W => (∃ v, Boxed W w.heap.size 24 v ∧ W.ownsRow (w.heap.size + 5) 9 1 v pre.length (strs pre)) ∧ (Below w.heap.size w W ∧ w.heap.size + 5 ≤ W.heap.size))
      (fun _ _ _ => False)
      ?hI (fun _ _ _ _ _ hs _ _ => hs) ⟨⟨_, bO, own_nil' _ _ _⟩, hB0, by omega⟩
      (fun x => { tmps := #[.string s, .int .u8 c, undef, undef, .pointer (some ⟨w.heap.size, 0, none⟩), .string x, .int .u8 c, .bool false, undef, undef, undef, .int .u8 c, .agg #[.func (.func 163) #[] #[.pointer (some ⟨w.heap.size + 1, 0, none⟩)]], .string s, .func (.func 164) #[] #[.pointer (some ⟨w.heap.size + 1 + 1 + 1 + 1, 0, none⟩), .pointer (some ⟨w.heap.size + 1 + 1 + 1, 0, none⟩)], .string x, undef, undef, undef, undef, undef], defers := [] }) ?assign ?body ?done ?stop
    case hI =>
      refine OwnFrom.and (Own.from (collect_kept (w.heap.size + 5) w.heap.size 24 9 (fun pre => pre.length) strs) _) (OwnFrom.and (ownFrom_below (Nat.le_refl _) (by omega)) ?_)
      exact fun q A B row hq hg _ => Nat.le_trans hq hg.size
    case assign =>
      intro l x W K hK
      gi_wp2
      exact hK
    case body =>
      rintro l pre x W ⟨⟨v, hv, hrow⟩, hB, hz⟩ hlt
      have hc := hv.cell
      gi_wp2_with (gi_at_builtin; refine wpListIn_append_own _ rfl _ _ 24 rfl (w.heap.size + 5) 9 i0 (.string ⟨#[]⟩) 1 16 Tryz.underlying24 hi hz0 hz1 hz2 rfl (by decide) _ _ _ rfl (hrow.alloc _) ⟨W.heap.size, 0, none⟩ 1 1 [.string x] rfl rfl (cell_one_new _ _ _) (by simp [Value.oneCell']) (by unfold maxLen; omega) (by omega) (by simp; omega) ?_; intro v' w1 hown' hgrow _; obtain ⟨g', cap', rfl⟩ := ownsRow_succ hown'; obtain ⟨hv1, hv2, hr2, hk2, hb2, hk3⟩ := boxed_app (n₀ := w.heap.size) hv (by decide) hrow (by omega) (Nat.le_refl _) (by omega) hown' hgrow; have hc1 := hv1.cell; have hf1 := hv1.frozen)
      exact ⟨hk2.from _, ⟨hk3 _ (by omega) (by omega) (by omega), hk3 _ (by omega) (by omega) (by omega), hk3 _ (by omega) (by omega) (by omega)⟩, ⟨_, hv2, by simpa [strs] using hr2⟩, hB.trans hb2, Nat.le_trans hz hb2.size⟩
    case done =>
      rintro D ys W hD rfl ⟨⟨v, hv, hrow⟩, hB, hz⟩ hK
      obtain ⟨sa, sm, sc, rfl⟩ := own_slice hrow
      have hv2 := hv.set (Value.slice sa sm sc)
      have hr2 : (W.setCell ⟨w.heap.size, 0, none⟩ (Value.slice sa sm sc)).ownsRow (w.heap.size + 5) 9 1 (Value.slice sa sm sc) (partsOf (fun b => (b.toNat : Int) == c) s).length (strs (partsOf (fun b => (b.toNat : Int) == c) s)) := hrow.kept (grownBy_setCell' W w.heap.size _) (.inr (hv.not_row (by decide) hrow).symm)
      have hK2 : (W.setCell ⟨w.heap.size, 0, none⟩ (Value.slice sa sm sc)).heap[D]? = some (Obj.deferred (some [])) := by rw [Below.heap_setCell W ⟨w.heap.size, 0, none⟩ _ D (by simp; omega)]; exact hK
      have hB2 := hB.trans (below_set (n₀ := w.heap.size) W (B := w.heap.size) (Value.slice sa sm sc) (Nat.le_refl _))
      have hc := hv.cell
      have hfz := hv.frozen
      have hX2 := Lib.hid (And.intro hv2 (And.intro hr2 (And.intro hK2 hB2)))
      clear hv2 hr2 hK2 hB2 hv hrow hB
      gi_wp2
      obtain ⟨hv2, hr2, hK2, hB2⟩ := hX2.out
      refine ⟨by simp, .inl ⟨_, _, rfl, run_takeDeferred hK2, ?_⟩⟩
      exact ⟨_, results_box rfl (agg22 _) rfl (boxed_putObj hv2 _ hK2 rfl).cell, _, rfl, own_weaken' (ownsRow_putObj hr2 _ hK2 rfl) (by omega), hB2.trans (belowK_b (w := w) (Nat.le_refl _) _ D _ _ (by omega) hK2 rfl rfl)⟩
    case stop =>
      rintro D c pre W _ _ h _
      exact h.elim
end Go.Proofs.YtlicjpbmlmongaaGreatDoor.S

end

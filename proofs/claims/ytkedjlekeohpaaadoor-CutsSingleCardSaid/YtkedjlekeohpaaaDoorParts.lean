/- (parter).parts: what stands between the bytes that a function value counts, one part after the other. -/
import Derived.RangeFuncNested
import Derived.RangeFuncBound
import Derived.RangeFuncCalls
import Derived.RangeFuncLeaves
import Derived.RangeFuncBox
import Derived.Shelf.Abstract
import Derived.Shelf.RegionOpen
import Derived.WalkKit
import Derived.OwnWalkIn
import Derived.TacticsInMore
import Derived.LoopNIn
import Derived.LoopIn
import Derived.RegionIn
import Derived.Sort.BigQuietIn
import Derived.Maps.AppendAt
import Derived.WalkLawsBesides
import Derived.WalkSpells
import Derived.Outline
import Derived.Test.YtkedjlekeohpaaaDoorHelp
set_option linter.unusedVariables false
set_option linter.unusedSimpArgs false
namespace Go.Proofs.YtkedjlekeohpaaaDoor.S
open Go.RowKit Go.Shelf Go.BigFrame Go.Proofs.YtkedjlekeohpaaaDoor.H
theorem pw_cell_below' {w w1 : World} (h : Below w.heap.size w w1) {a : Addr} {v : Value} (hc : w.cell? a = some v) : w1.cell? a = some v := Go.Proofs.YtkedjlekeohpaaaDoorW.PrintWords.pw_cell_below h hc

attribute [local go_sem] Oper.semAt_some

/-- The parts that end ahead of place i, and where the next one begins. -/
def partsTo (p : UInt8 → Bool) (s : ByteArray) : Nat → List ByteArray × Nat
  | 0 => ([], 0)
  | i + 1 => let r := partsTo p s i; if p (s.data.toList.getD i 0) then (r.1 ++ [s.extract r.2 i], i + 1) else r
/-- All parts. -/
def partsOf (p : UInt8 → Bool) (s : ByteArray) : List ByteArray := (partsTo p s s.size).1 ++ [s.extract (partsTo p s s.size).2 s.size]
theorem partsTo_from (p : UInt8 → Bool) (s : ByteArray) : ∀ i, (partsTo p s i).2 ≤ i
  | 0 => Nat.le_refl _
  | i + 1 => by
    have := partsTo_from p s i
    simp only [partsTo]
    split <;> simp <;> omega
theorem partsTo_len (p : UInt8 → Bool) (s : ByteArray) : ∀ i, (partsTo p s i).1.length ≤ i
  | 0 => Nat.le_refl _
  | i + 1 => by
    have := partsTo_len p s i
    simp only [partsTo]
    split <;> simp <;> omega

theorem getD_at {s : ByteArray} {i : Nat} (h : i < s.size) : s.data.toList.getD i 0 = s[i] := by
  rw [List.getD_eq_getElem?_getD, List.getElem?_eq_getElem (by rw [Array.length_toList]; exact h)]; rfl
theorem partsTo_yes {p : UInt8 → Bool} {s : ByteArray} {i : Nat} (h : i < s.size) (hp : p s[i] = true) : partsTo p s (i + 1) = ((partsTo p s i).1 ++ [s.extract (partsTo p s i).2 i], i + 1) := by
  simp only [partsTo]; rw [getD_at h, if_pos hp]
theorem partsTo_no {p : UInt8 → Bool} {s : ByteArray} {i : Nat} (h : i < s.size) (hp : p s[i] = false) : partsTo p s (i + 1) = partsTo p s i := by
  simp only [partsTo]; rw [getD_at h, if_neg (by rw [hp]; decide)]
theorem partsTo_grows (p : UInt8 → Bool) (s : ByteArray) (i d : Nat) : (partsTo p s i).1 <+: (partsTo p s (i + d)).1 := by
  induction d with
  | zero => exact List.prefix_refl _
  | succ d ih =>
    rw [show i + (d + 1) = (i + d) + 1 by omega]
    simp only [partsTo]
    split
    · exact ih.trans (List.prefix_append _ _)
    · exact ih
theorem partsTo_prefix (p : UInt8 → Bool) (s : ByteArray) (i : Nat) (h : i ≤ s.size) : (partsTo p s i).1 <+: partsOf p s := by
  have := partsTo_grows p s i (s.size - i)
  rw [show i + (s.size - i) = s.size by omega] at this
  exact this.trans (List.prefix_append _ _)
/-- Three blocks lie as they lay. -/
def Keep3 (a b c : Nat) (A B : World) : Prop := B.heap[a]? = A.heap[a]? ∧ B.heap[b]? = A.heap[b]? ∧ B.heap[c]? = A.heap[c]?
theorem Keep3.refl (a b c : Nat) (A : World) : Keep3 a b c A A := ⟨rfl, rfl, rfl⟩
theorem Keep3.trans {a b c : Nat} {A B C : World} (h : Keep3 a b c A B) (k : Keep3 a b c B C) : Keep3 a b c A C := ⟨k.1.trans h.1, k.2.1.trans h.2.1, k.2.2.trans h.2.2⟩
theorem Keep3.drewN {a b c : Nat} {A B : World} (h : Keep3 a b c A B) (n : Nat) : Keep3 a b c A (B.drewN n) := h
theorem cell_same {A B : World} {b : Nat} (h : B.heap[b]? = A.heap[b]?) (o : Nat) : B.cell? ⟨b, o, none⟩ = A.cell? ⟨b, o, none⟩ := by simp [World.cell?, h]

set_option maxHeartbeats 1000000 in
theorem by1_in (F : Fence) (n : Nat) (h49 : F.fn 59) (hro : F.round = none) (x c : Int) (Bc : Nat) (w : World) (hc : w.cell? ⟨Bc, 0, none⟩ = some (.int .u8 c)) :
    CallsIn F n Tryd.prog 59 #[.int .u8 x, .pointer (some ⟨Bc, 0, none⟩)] w fun e w' => e = .returned (.bool (x == c)) ∧ w' = w := by
  refine callsIn_of_wp Tryd.func59 rfl h49 ?_ hro
  simp only [Tryd.ntmps59, List.size_toArray, List.length_cons, List.length_nil, Nat.reduceAdd, Nat.reduceSub, Array.replicate_succ, Array.replicate_zero, List.push_toArray, List.append_toArray, List.nil_append, List.cons_append]
  gi_wp2
  go_ret
  exact ⟨rfl, rfl⟩

set_option maxHeartbeats 2000000 in
set_option maxRecDepth 100000 in
theorem parts1_in (F : Fence) (n : Nat) (h50 : F.fn 60) (h49 : F.fn 59) (hro : F.round = none) (hn : 1 ≤ n) (l Bs Bp Bc : Nat) (s : ByteArray) (hs63 : s.size ≤ 9223372036854775807) (c : Int) (J Jx : List ByteArray → World → Prop)
    (hJ : ∀ pre W m, J pre W → J pre (World.drewN W m))
    (hY : ∀ pre x W, J pre W → pre.length < s.size + 1 → YieldAt F (n - 1) Tryd.prog l #[.string x] W fun e W' =>
      (e = .returned (.bool true) ∧ J (pre ++ [x]) W' ∧ Keep3 Bs Bp Bc W W') ∨ (e = .returned (.bool false) ∧ Jx (pre ++ [x]) W'))
    (W : World) (hs : W.cell? ⟨Bs, 0, none⟩ = some (.string s)) (hp : W.cell? ⟨Bp, 0, none⟩ = some (.func (.func 59) #[] #[.pointer (some ⟨Bc, 0, none⟩)])) (hc : W.cell? ⟨Bc, 0, none⟩ = some (.int .u8 c)) (h0 : J [] W) :
    CallsIn F n Tryd.prog 60 #[.func (.yield l) #[] #[], .pointer (some ⟨Bs, 0, none⟩), .pointer (some ⟨Bp, 0, none⟩)] W fun e W' => (∃ v, e = .returned v) ∧
      ((∃ ys, ys = partsOf (fun b => (b.toNat : Int) == c) s ∧ J ys W') ∨ (∃ pre, pre <+: partsOf (fun b => (b.toNat : Int) == c) s ∧ Jx pre W')) := by
  refine callsIn_of_wp Tryd.func60 rfl h50 ?_ hro
  simp only [Tryd.ntmps60, List.size_toArray, List.length_cons, List.length_nil, Nat.reduceAdd, Nat.reduceSub, Array.replicate_succ, Array.replicate_zero, List.push_toArray, List.append_toArray, List.nil_append, List.cons_append]
  have hmx : Tryd.prog.follows .mixedOrders = true := by kernel_rfl
  gi_wp2
  gi_loopw [4, 8] (fun fr i wr => ∃ k : Nat, k ≤ s.size ∧ i = .int .i64 k ∧ fr = .int .i64 ((partsTo (fun b => (b.toNat : Int) == c) s k).2 : Nat) ∧ Hid (J (partsTo (fun b => (b.toNat : Int) == c) s k).1 wr) ∧ Hid (Keep3 Bs Bp Bc W wr)) (fun _ i _ => s.size - (intOf i).toNat)
  case atStart => exact ⟨0, Nat.zero_le _, rfl, rfl, Lib.hid h0, Lib.hid (Keep3.refl _ _ _ _)⟩
  case round =>
    obtain ⟨k, hk, rfl, rfl, hj, hb⟩ := hrel
    have cs : wr.cell? ⟨Bs, 0, none⟩ = some (.string s) := (cell_same hb.out.1 0).trans hs
    have cp : wr.cell? ⟨Bp, 0, none⟩ = some (.func (.func 59) #[] #[.pointer (some ⟨Bc, 0, none⟩)]) := (cell_same hb.out.2.1 0).trans hp
    have cc : wr.cell? ⟨Bc, 0, none⟩ = some (.int .u8 c) := (cell_same hb.out.2.2 0).trans hc
    have hfr := partsTo_from (fun b => (b.toNat : Int) == c) s k
    have hln := partsTo_len (fun b => (b.toNat : Int) == c) s k
    by_cases hlt : k < s.size
    · cases hx : ((s[k].toNat : Int) == c) with
      | true =>
        have hcall := fun (m : Nat) => by1_in F (n - 1) h49 hro (s[k].toNat : Int) c Bc (wr.drewN m) (by simpa using cc)
        rw [hx] at hcall
        gi_wp2
        refine wpIn_region_quiet_lit hro (by kernel_rfl) (by kernel_rfl) ?_
        repeat (gi_big_quiet_step ((gi_at_call 59; exact CallsIn.quiet_of_same (hcall _))))
        refine wpQuietIn_nil ?_
        intro _ hw'
        obtain ⟨nq, hw''⟩ := hw'
        subst hw''
        clear hcall
        have hst := partsTo_yes (p := fun b => (b.toNat : Int) == c) hlt hx
        obtain ⟨fn, tmps, assign, body, hy, hR⟩ := hY _ (s.extract (partsTo (fun b => (b.toNat : Int) == c) s k).2 k) (wr.drewN nq) (hJ _ _ nq hj.out) (by omega)
        have hst' := Lib.hid hst
        clear hst
        gi_wp2
        refine hR.mono ?_
        rintro e W3 (⟨rfl, hJ3, hk3⟩ | ⟨rfl, hJx3⟩)
        · have HJ3 := Lib.hid hJ3
          have HK3 := Lib.hid ((Keep3.drewN hb.out nq).trans hk3)
          clear hJ3 hk3 hR hy
          gi_wp2
          go_roundw
          case rel => exact ⟨k + 1, by omega, by go_num, by rw [hst'.out]; go_num, Lib.hid (by rw [hst'.out]; exact HJ3.out), HK3⟩
          case measure => simp [intOf]; omega
        · have HJ3 := Lib.hid hJx3
          clear hJx3 hR hy
          gi_wp2
          refine bodyPost_ret (results_none rfl _ _ _) rfl ?_
          refine ⟨⟨_, rfl⟩, .inr ⟨_, ?_, HJ3.out⟩⟩
          have := partsTo_prefix (fun b => (b.toNat : Int) == c) s (k + 1) (by omega)
          rw [hst'.out] at this
          exact this
      | false =>
        have hcall := fun (m : Nat) => by1_in F (n - 1) h49 hro (s[k].toNat : Int) c Bc (wr.drewN m) (by simpa using cc)
        rw [hx] at hcall
        gi_wp2
        refine wpIn_region_quiet_lit hro (by kernel_rfl) (by kernel_rfl) ?_
        repeat (gi_big_quiet_step ((gi_at_call 59; exact CallsIn.quiet_of_same (hcall _))))
        refine wpQuietIn_nil ?_
        intro _ hw'
        obtain ⟨nq, hw''⟩ := hw'
        subst hw''
        clear hcall
        have hst' := Lib.hid (partsTo_no (p := fun b => (b.toNat : Int) == c) hlt hx)
        gi_wp2
        go_roundw
        case rel => exact ⟨k + 1, by omega, by go_num, by rw [hst'.out], Lib.hid (by rw [hst'.out]; exact hJ _ _ nq hj.out), Lib.hid (Keep3.drewN hb.out nq)⟩
        case measure => simp [intOf]; omega
    · obtain rfl : k = s.size := by omega
      obtain ⟨fn, tmps, assign, body, hy, hR⟩ := hY _ (s.extract (partsTo (fun b => (b.toNat : Int) == c) s s.size).2 s.size) wr hj.out (by omega)
      gi_wp2
      refine hR.mono ?_
      rintro e W3 (⟨rfl, hJ3, hk3⟩ | ⟨rfl, hJx3⟩)
      · have HJ3 := Lib.hid hJ3
        clear hJ3 hk3 hR hy
        gi_wp2
        go_end0
        exact ⟨⟨_, rfl⟩, .inl ⟨_, rfl, HJ3.out⟩⟩
      · have HJ3 := Lib.hid hJx3
        clear hJx3 hR hy
        gi_wp2
        go_end0
        exact ⟨⟨_, rfl⟩, .inr ⟨_, List.prefix_refl _, HJ3.out⟩⟩

theorem grown_drewN (W : World) (m : Nat) : W.grownBy (W.drewN m) none := ⟨rfl, rfl, rfl, Nat.le_refl _, fun _ _ _ => rfl⟩
theorem parts_stops (F : Fence) (n : Nat) (h50 : F.fn 60) (h49 : F.fn 59) (hro : F.round = none) (hn : 1 ≤ n) (Bs Bp Bc : Nat) (s : ByteArray) (hs63 : s.size ≤ 9223372036854775807) (c : Int) (w : World)
    (hs : w.cell? ⟨Bs, 0, none⟩ = some (.string s)) (hp : w.cell? ⟨Bp, 0, none⟩ = some (.func (.func 59) #[] #[.pointer (some ⟨Bc, 0, none⟩)])) (hc : w.cell? ⟨Bc, 0, none⟩ = some (.int .u8 c)) :
    SeqStopsK F n Tryd.prog 60 #[.pointer (some ⟨Bs, 0, none⟩), .pointer (some ⟨Bp, 0, none⟩)] (fun x : ByteArray => #[Value.string x]) (Keep3 Bs Bp Bc) (fun ys => ys = partsOf (fun b => (b.toNat : Int) == c) s) (fun pre => pre <+: partsOf (fun b => (b.toNat : Int) == c) s) (s.size + 1) w := fun l J Jx W hW hJ _ hY h0 =>
  parts1_in F n h50 h49 hro hn l Bs Bp Bc s hs63 c J Jx (fun pre W1 m hj => hJ _ _ _ none hj (grown_drewN W1 m) (fun r e => by cases e)) hY W (@pw_cell_below' _ _ hW _ _ hs) (@pw_cell_below' _ _ hW _ _ hp) (@pw_cell_below' _ _ hW _ _ hc) h0

def blankI (x : Int) : Bool := x == 32 || x == 9
def idleI (x : Int) : Bool := x == 32 || (decide (9 ≤ x) && decide (x ≤ 13))

set_option maxHeartbeats 1000000 in
theorem blank_in (F : Fence) (n : Nat) (h49 : F.fn 41) (hro : F.round = none) (x : Int) (w : World) :
    CallsIn F n Tryd.prog 41 #[.int .u8 x] w fun e w' => e = .returned (.bool (blankI x)) ∧ w' = w := by
  refine callsIn_of_wp Tryd.func41 rfl h49 ?_ hro
  simp only [Tryd.ntmps41, List.size_toArray, List.length_cons, List.length_nil, Nat.reduceAdd, Nat.reduceSub, Array.replicate_succ, Array.replicate_zero, List.push_toArray, List.append_toArray, List.nil_append, List.cons_append]
  cases h : (x == 32) with
  | true =>
    have hb := Lib.hid (show blankI x = true by simp [blankI, h])
    gi_wp2
    all_goals (go_ret; exact ⟨by rw [hb.out]; rfl, rfl⟩)
  | false =>
    have hb := Lib.hid (show blankI x = (x == 9) by simp [blankI, h])
    gi_wp2
    all_goals (go_ret; exact ⟨by rw [hb.out]; rfl, rfl⟩)


set_option maxHeartbeats 2000000 in
set_option maxRecDepth 100000 in
theorem parts1_blank (F : Fence) (n : Nat) (h50 : F.fn 60) (h49 : F.fn 41) (hro : F.round = none) (hn : 1 ≤ n) (l Bs Bp : Nat) (s : ByteArray) (hs63 : s.size ≤ 9223372036854775807) (J Jx : List ByteArray → World → Prop)
    (hJ : ∀ pre W m, J pre W → J pre (World.drewN W m))
    (hY : ∀ pre x W, J pre W → pre.length < s.size + 1 → YieldAt F (n - 1) Tryd.prog l #[.string x] W fun e W' =>
      (e = .returned (.bool true) ∧ J (pre ++ [x]) W' ∧ Keep3 Bs Bp Bp W W') ∨ (e = .returned (.bool false) ∧ Jx (pre ++ [x]) W'))
    (W : World) (hs : W.cell? ⟨Bs, 0, none⟩ = some (.string s)) (hp : W.cell? ⟨Bp, 0, none⟩ = some (.func (.func 41) #[] #[])) (h0 : J [] W) :
    CallsIn F n Tryd.prog 60 #[.func (.yield l) #[] #[], .pointer (some ⟨Bs, 0, none⟩), .pointer (some ⟨Bp, 0, none⟩)] W fun e W' => (∃ v, e = .returned v) ∧
      ((∃ ys, ys = partsOf (fun b => blankI (b.toNat : Int)) s ∧ J ys W') ∨ (∃ pre, pre <+: partsOf (fun b => blankI (b.toNat : Int)) s ∧ Jx pre W')) := by
  refine callsIn_of_wp Tryd.func60 rfl h50 ?_ hro
  simp only [Tryd.ntmps60, List.size_toArray, List.length_cons, List.length_nil, Nat.reduceAdd, Nat.reduceSub, Array.replicate_succ, Array.replicate_zero, List.push_toArray, List.append_toArray, List.nil_append, List.cons_append]
  have hmx : Tryd.prog.follows .mixedOrders = true := by kernel_rfl
  gi_wp2
  gi_loopw [4, 8] (fun fr i wr => ∃ k : Nat, k ≤ s.size ∧ i = .int .i64 k ∧ fr = .int .i64 ((partsTo (fun b => blankI (b.toNat : Int)) s k).2 : Nat) ∧ Hid (J (partsTo (fun b => blankI (b.toNat : Int)) s k).1 wr) ∧ Hid (Keep3 Bs Bp Bp W wr)) (fun _ i _ => s.size - (intOf i).toNat)
  case atStart => exact ⟨0, Nat.zero_le _, rfl, rfl, Lib.hid h0, Lib.hid (Keep3.refl _ _ _ _)⟩
  case round =>
    obtain ⟨k, hk, rfl, rfl, hj, hb⟩ := hrel
    have cs : wr.cell? ⟨Bs, 0, none⟩ = some (.string s) := (cell_same hb.out.1 0).trans hs
    have cp : wr.cell? ⟨Bp, 0, none⟩ = some (.func (.func 41) #[] #[]) := (cell_same hb.out.2.1 0).trans hp
    have hfr := partsTo_from (fun b => blankI (b.toNat : Int)) s k
    have hln := partsTo_len (fun b => blankI (b.toNat : Int)) s k
    by_cases hlt : k < s.size
    · cases hx : (blankI (s[k].toNat : Int)) with
      | true =>
        have hcall := fun (m : Nat) => blank_in F (n - 1) h49 hro (s[k].toNat : Int) (wr.drewN m)
        rw [hx] at hcall
        gi_wp2
        refine wpIn_region_quiet_lit hro (by kernel_rfl) (by kernel_rfl) ?_
        repeat (gi_big_quiet_step ((gi_at_call 41; exact CallsIn.quiet_of_same (hcall _))))
        refine wpQuietIn_nil ?_
        intro _ hw'
        obtain ⟨nq, hw''⟩ := hw'
        subst hw''
        clear hcall
        have hst := partsTo_yes (p := fun b => blankI (b.toNat : Int)) hlt hx
        obtain ⟨fn, tmps, assign, body, hy, hR⟩ := hY _ (s.extract (partsTo (fun b => blankI (b.toNat : Int)) s k).2 k) (wr.drewN nq) (hJ _ _ nq hj.out) (by omega)
        have hst' := Lib.hid hst
        clear hst
        gi_wp2
        refine hR.mono ?_
        rintro e W3 (⟨rfl, hJ3, hk3⟩ | ⟨rfl, hJx3⟩)
        · have HJ3 := Lib.hid hJ3
          have HK3 := Lib.hid ((Keep3.drewN hb.out nq).trans hk3)
          clear hJ3 hk3 hR hy
          gi_wp2
          go_roundw
          case rel => exact ⟨k + 1, by omega, by go_num, by rw [hst'.out]; go_num, Lib.hid (by rw [hst'.out]; exact HJ3.out), HK3⟩
          case measure => simp [intOf]; omega
        · have HJ3 := Lib.hid hJx3
          clear hJx3 hR hy
          gi_wp2
          refine bodyPost_ret (results_none rfl _ _ _) rfl ?_
          refine ⟨⟨_, rfl⟩, .inr ⟨_, ?_, HJ3.out⟩⟩
          have := partsTo_prefix (fun b => blankI (b.toNat : Int)) s (k + 1) (by omega)
          rw [hst'.out] at this
          exact this
      | false =>
        have hcall := fun (m : Nat) => blank_in F (n - 1) h49 hro (s[k].toNat : Int) (wr.drewN m)
        rw [hx] at hcall
        gi_wp2
        refine wpIn_region_quiet_lit hro (by kernel_rfl) (by kernel_rfl) ?_
        repeat (gi_big_quiet_step ((gi_at_call 41; exact CallsIn.quiet_of_same (hcall _))))
        refine wpQuietIn_nil ?_
        intro _ hw'
        obtain ⟨nq, hw''⟩ := hw'
        subst hw''
        clear hcall
        have hst' := Lib.hid (partsTo_no (p := fun b => blankI (b.toNat : Int)) hlt hx)
        gi_wp2
        go_roundw
        case rel => exact ⟨k + 1, by omega, by go_num, by rw [hst'.out], Lib.hid (by rw [hst'.out]; exact hJ _ _ nq hj.out), Lib.hid (Keep3.drewN hb.out nq)⟩
        case measure => simp [intOf]; omega
    · obtain rfl : k = s.size := by omega
      obtain ⟨fn, tmps, assign, body, hy, hR⟩ := hY _ (s.extract (partsTo (fun b => blankI (b.toNat : Int)) s s.size).2 s.size) wr hj.out (by omega)
      gi_wp2
      refine hR.mono ?_
      rintro e W3 (⟨rfl, hJ3, hk3⟩ | ⟨rfl, hJx3⟩)
      · have HJ3 := Lib.hid hJ3
        clear hJ3 hk3 hR hy
        gi_wp2
        go_end0
        exact ⟨⟨_, rfl⟩, .inl ⟨_, rfl, HJ3.out⟩⟩
      · have HJ3 := Lib.hid hJx3
        clear hJx3 hR hy
        gi_wp2
        go_end0
        exact ⟨⟨_, rfl⟩, .inr ⟨_, List.prefix_refl _, HJ3.out⟩⟩

theorem parts_stops_blank (F : Fence) (n : Nat) (h50 : F.fn 60) (h49 : F.fn 41) (hro : F.round = none) (hn : 1 ≤ n) (Bs Bp : Nat) (s : ByteArray) (hs63 : s.size ≤ 9223372036854775807) (w : World)
    (hs : w.cell? ⟨Bs, 0, none⟩ = some (.string s)) (hp : w.cell? ⟨Bp, 0, none⟩ = some (.func (.func 41) #[] #[])) :
    SeqStopsK F n Tryd.prog 60 #[.pointer (some ⟨Bs, 0, none⟩), .pointer (some ⟨Bp, 0, none⟩)] (fun x : ByteArray => #[Value.string x]) (Keep3 Bs Bp Bp) (fun ys => ys = partsOf (fun b => blankI (b.toNat : Int)) s) (fun pre => pre <+: partsOf (fun b => blankI (b.toNat : Int)) s) (s.size + 1) w := fun l J Jx W hW hJ _ hY h0 =>
  parts1_blank F n h50 h49 hro hn l Bs Bp s hs63 J Jx (fun pre W1 m hj => hJ _ _ _ none hj (grown_drewN W1 m) (fun r e => by cases e)) hY W (@pw_cell_below' _ _ hW _ _ hs) (@pw_cell_below' _ _ hW _ _ hp) h0

end Go.Proofs.YtkedjlekeohpaaaDoor.S

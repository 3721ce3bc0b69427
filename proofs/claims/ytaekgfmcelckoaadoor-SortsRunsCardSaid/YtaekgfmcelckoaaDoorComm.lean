/- Written by merge.py out of CmpS, Concat, Comm. -/
import Derived.Test.YtaekgfmcelckoaaDoorKGiven
import Derived.Test.YtaekgfmcelckoaaDoorShelf
import Derived.Test.YtaekgfmcelckoaaDoorHelp
import Derived.Laws.AppendOwnNone
import Derived.Maps.AppendAt
import Derived.Test.YtaekgfmcelckoaaDoorTwin
import Derived.Deep.AppendLies
import Derived.Handy
import Derived.RegionTactic
import Derived.Deep.QuietTactic
import Derived.BigQuiet
section
/- cmp.Compare of texts: as XKGiven has it. -/

end
section
/- slices.Concat of two lists of texts. -/
set_option linter.unusedVariables false
set_option linter.unusedSimpArgs false
namespace Go.Proofs.YtaekgfmcelckoaaDoor.H
open Go.RowKit Go.Proofs Go.Proofs.YtaekgfmcelckoaaDoorW.PrintWords

theorem own_slice' {w : World} {base e size n : Nat} {v : Value} {xs : List Value} (h : w.ownsRow base e size v n xs) : ∃ a c, v = .slice a n c := by
  rcases h.2 with ⟨rfl, h0⟩ | ⟨g, cap, cur, rfl, _⟩
  · exact ⟨none, 0, by rw [h0]⟩
  · exact ⟨_, _, rfl⟩
set_option maxHeartbeats 1000000 in
set_option maxRecDepth 100000 in
theorem grow_nil (n : Nat) (hn : n ≤ 8000000) (w : World) :
    Calls Tryd.prog 54 #[.slice none 0 0, .int .i64 (n : Int)] w fun e w' => ∃ v, e = .returned v ∧ w'.ownsRow w.heap.size 9 1 v 0 [] ∧ Below w.heap.size w w' := by
  by_cases h0 : n = 0
  · subst h0
    go_enter Tryd.func54, Tryd.ntmps54
    go_wp2
    go_ret
    exact ⟨_, rfl, World.ownsRow_nil _ _ _ _, Below.refl _ _⟩
  · have h1 : ¬ ((n : Int) ≤ 0) := by omega
    go_enter Tryd.func54, Tryd.ntmps54
    go_wp2_with (at_builtin; go_loud (refine Kd.R_append_zeros Kd.string w.heap.size rfl _ _ 22 3 9 (.string ⟨#[]⟩) 16 rfl Tryd.underlying22 Tryd.underlying3 infoS rfl (by decide) (by decide) (.slice none 0 0) [] ⟨#[]⟩ (n : Int) (fun _ => True) rfl rfl rfl (fun _ _ => trivial) (Kd.R_nil _ _ _ _ _) (by omega) (Below.refl _ _) (Nat.le_refl _) (by simp; omega) ?_))
    intro v1 w1 hR hb hg hat
    obtain ⟨_, inner, hown, hr⟩ := hR
    obtain ⟨A, c, rfl⟩ := own_slice' hown
    obtain ⟨M, hM⟩ : ∃ M, (List.replicate n (⟨#[]⟩ : ByteArray)).length = M := ⟨_, rfl⟩
    rw [hM] at hown ⊢
    have O0 := own_take hown (Nat.zero_le _)
    rw [Nat.zero_mul, List.take_zero] at O0
    have hO := Lib.hid (And.intro O0 hb)
    have hc : M ≤ c ∧ c ≤ 9223372036854775807 := by
      rcases hown.2 with ⟨h1, h2⟩ | ⟨g, cap, cur, h1, _, _, h2, h3, _⟩
      · cases h1; omega
      · cases h1
        unfold maxLen at h3
        omega
    clear hown hr hM hg hat hb O0
    go_wp2
    go_ret
    exact ⟨_, rfl, hO.out.1, hO.out.2⟩
theorem own_of_R {W : World} {base : Nat} {ok : Nat → Prop} {v : Value} {l : List ByteArray} (h : Kd.R Kd.string 9 W base ok v l) : W.ownsRow base 9 1 v l.length (strs l) := by
  obtain ⟨_, inner, hown, hr⟩ := h
  have e : inner = strs l := by
    apply List.ext_getElem?
    intro j
    have hlen : inner.length = l.length := by have := hr.1; rw [show Kd.string.sz = 1 from rfl, Nat.mul_one] at this; exact this
    by_cases hj : j < l.length
    · have hm := hr.2 j l[j] (List.getElem?_eq_getElem hj)
      have hm2 : (inner.drop (j * 1)).take 1 = [.string l[j]] := hm
      rw [Nat.mul_one, List.drop_eq_getElem_cons (by omega)] at hm2
      have hm3 : inner[j]'(by omega) = .string l[j] := (List.cons.inj hm2).1
      rw [List.getElem?_eq_getElem (by omega), hm3, List.getElem?_eq_getElem (by rw [strs_length]; exact hj)]
      simp [strs]
    · rw [List.getElem?_eq_none (by omega), List.getElem?_eq_none (by rw [strs_length]; omega)]
  rw [← e]
  exact hown
theorem KM_str {w W : World} {base : Nat} {okp : Nat → Prop} (x : ByteArray) (cs : List Value) (h : Kd.string.K w x cs) : Kd.string.M W base okp x cs := h
set_option maxHeartbeats 2000000 in
set_option maxRecDepth 100000 in
theorem concat_calls (G : Nat) (A1 A2 : Option Addr) (n1 c1 n2 c2 : Nat) (l1 l2 : List ByteArray) (w : World) (hG : G < w.heap.size)
    (hg0 : w.cell? ⟨G, 0, none⟩ = some (.slice A1 n1 c1)) (hg1 : w.cell? ⟨G, 1, none⟩ = some (.slice A2 n2 c2)) (e1 : l1.length = n1) (e2 : l2.length = n2)
    (h1 : Kd.C Kd.string w A1 l1.length l1) (h2 : Kd.C Kd.string w A2 l2.length l2) (k1 : n1 ≤ c1) (k2 : n2 ≤ c2) (hl : n1 + n2 ≤ 8000000) :
    Calls Tryd.prog 43 #[.slice (some ⟨G, 0, none⟩) 2 2] w fun e w' => ∃ v, e = .returned v ∧ w'.ownsRow w.heap.size 9 1 v (n1 + n2) (strs (l1 ++ l2)) ∧ Below w.heap.size w w' := by
  subst e1 e2
  have H1 := Lib.hid h1
  have H2 := Lib.hid h2
  clear h1 h2
  go_enter Tryd.func43, Tryd.ntmps43
  go_wp2
  go_loop [3, 11] (fun a i => (a = .int .i64 0 ∧ i = .int .i64 0) ∨ (a = .int .i64 (l1.length : Int) ∧ i = .int .i64 1) ∨ (a = .int .i64 ((l1.length : Int) + (l2.length : Int)) ∧ i = .int .i64 2)) (fun _ i => 2 - (intOf i).toNat)
  case atStart => exact .inl ⟨rfl, rfl⟩
  case round =>
    rcases hrel with ⟨rfl, rfl⟩ | ⟨rfl, rfl⟩ | ⟨rfl, rfl⟩
    · go_wp2
      go_round
      case rel => exact .inr (.inl ⟨by simp, rfl⟩)
      case measure => decide
    · go_wp2
      go_round
      case rel => exact .inr (.inr ⟨rfl, rfl⟩)
      case measure => decide
    · have hn : (l1.length : Int) + (l2.length : Int) = ((l1.length + l2.length : Nat) : Int) := by omega
      have HN := Lib.hid hn
      clear hn
      go_wp2_with (go_at_call 54; rw [HN.out]; refine (grow_nil (l1.length + l2.length) hl _).mono ?_)
      rintro e w2 v rfl ho hb
      have O := Lib.hid (And.intro ho hb)
      clear ho hb
      go_wp2
      go_loopw [6, 27] (fun v i wr => ∃ L : List ByteArray, ((L = [] ∧ i = .int .i64 0) ∨ (L = l1 ∧ i = .int .i64 1) ∨ (L = l1 ++ l2 ∧ i = .int .i64 2)) ∧ Hid (wr.ownsRow w.heap.size 9 1 v L.length (strs L) ∧ Below w.heap.size w wr)) (fun _ i _ => 2 - (intOf i).toNat)
      case atStart => exact ⟨[], .inl ⟨rfl, rfl⟩, O⟩
      case round =>
        obtain ⟨L, hL, hr⟩ := hrel
        have q0 := (hr.out.2.cell (p := ⟨G, 0, none⟩) hG).trans hg0
        have q1 := (hr.out.2.cell (p := ⟨G, 1, none⟩) hG).trans hg1
        have hbase := hr.out.2.size
        rcases hL with ⟨hL1, rfl⟩ | ⟨hL1, rfl⟩ | ⟨hL1, rfl⟩ <;> rw [hL1] at hr <;> clear hL1
        · go_wp2_with (at_builtin; go_loud (refine Kd.R_append_rows Kd.string w.heap.size rfl _ _ 22 9 (.string ⟨#[]⟩) 16 rfl Tryd.underlying22 infoS rfl (by decide) (by decide) _ [] l1 A1 l1.length c1 (fun _ => True) (fun _ => False) rfl rfl (R_of_own hr.out.1) (Kd.C_below H1.out hr.out.2) KM_str (fun _ hk => hk.elim) (fun _ _ => trivial) hr.out.2 hbase (by simp; omega) ?_))
          intro v3 w3 hR hb3 hg3 hat3
          have O3 := Lib.hid (And.intro (own_of_R hR) hb3)
          clear hR hb3 hg3 hat3 q0 q1
          go_wp2
          go_roundw
          case rel => exact ⟨l1, .inr (.inl ⟨rfl, rfl⟩), O3⟩
          case measure => decide
        · go_wp2_with (at_builtin; go_loud (refine Kd.R_append_rows Kd.string w.heap.size rfl _ _ 22 9 (.string ⟨#[]⟩) 16 rfl Tryd.underlying22 infoS rfl (by decide) (by decide) _ l1 l2 A2 l2.length c2 (fun _ => True) (fun _ => False) rfl rfl (R_of_own hr.out.1) (Kd.C_below H2.out hr.out.2) KM_str (fun _ hk => hk.elim) (fun _ _ => trivial) hr.out.2 hbase (by omega) ?_))
          intro v3 w3 hR hb3 hg3 hat3
          have O3 := Lib.hid (And.intro (own_of_R hR) hb3)
          clear hR hb3 hg3 hat3 q0 q1
          go_wp2
          go_roundw
          case rel => exact ⟨l1 ++ l2, .inr (.inr ⟨rfl, rfl⟩), O3⟩
          case measure => decide
        · rw [List.length_append] at hr
          go_wp2
          go_ret
          exact ⟨_, rfl, hr.out.1, hr.out.2⟩
end Go.Proofs.YtaekgfmcelckoaaDoor.H

end
section
/- sorts.Comm: what two lists have each alone, and both. -/
set_option linter.unusedVariables false
set_option linter.unusedSimpArgs false
namespace Go.Proofs.YtaekgfmcelckoaaDoor.H
open Go.RowKit Go.Proofs Go.Proofs.YtaekgfmcelckoaaDoor.K Go.Proofs.YtaekgfmcelckoaaDoorW.PrintWords

def lenOf : Value → Nat
  | .slice _ n _ => n
  | _ => 0
theorem lenOf_slice (p : Option Addr) (n c : Nat) : lenOf (.slice p n c) = n := rfl
/-- What two lists have each alone, and both. -/
def commP : Nat → List ByteArray → List ByteArray → List ByteArray × List ByteArray × List ByteArray
  | 0, a, b => (a, b, [])
  | _ + 1, [], b => ([], b, [])
  | _ + 1, a, [] => (a, [], [])
  | f + 1, x :: a, y :: b =>
    if Op.bytesLess x.toList y.toList = true then (x :: (commP f a (y :: b)).1, (commP f a (y :: b)).2.1, (commP f a (y :: b)).2.2)
    else if Op.bytesLess y.toList x.toList = true then ((commP f (x :: a) b).1, y :: (commP f (x :: a) b).2.1, (commP f (x :: a) b).2.2)
    else ((commP f a b).1, (commP f a b).2.1, x :: (commP f a b).2.2)
theorem comm_fuel : ∀ (f g : Nat) (a b : List ByteArray), a.length + b.length ≤ f → a.length + b.length ≤ g → commP f a b = commP g a b
  | 0, g, a, b, h1, h2 => by
    obtain rfl : a = [] := List.eq_nil_of_length_eq_zero (by omega)
    obtain rfl : b = [] := List.eq_nil_of_length_eq_zero (by omega)
    cases g <;> rfl
  | f + 1, 0, a, b, h1, h2 => by
    obtain rfl : a = [] := List.eq_nil_of_length_eq_zero (by omega)
    obtain rfl : b = [] := List.eq_nil_of_length_eq_zero (by omega)
    rfl
  | f + 1, g + 1, [], b, _, _ => rfl
  | f + 1, g + 1, x :: a, [], _, _ => rfl
  | f + 1, g + 1, x :: a, y :: b, h1, h2 => by
    simp only [List.length_cons] at h1 h2
    simp only [commP]
    rw [comm_fuel f g a (y :: b) (by simp; omega) (by simp; omega), comm_fuel f g (x :: a) b (by simp; omega) (by simp; omega), comm_fuel f g a b (by omega) (by omega)]
def comm (a b : List ByteArray) : List ByteArray × List ByteArray × List ByteArray := commP (a.length + b.length) a b
theorem comm_nil1 (b : List ByteArray) : comm [] b = ([], b, []) := by
  unfold comm
  cases b <;> rfl
theorem comm_nil2 (a : List ByteArray) : comm a [] = (a, [], []) := by
  unfold comm
  cases a <;> rfl
theorem comm_cons (x y : ByteArray) (a b : List ByteArray) : comm (x :: a) (y :: b) =
    if Op.bytesLess x.toList y.toList = true then (x :: (comm a (y :: b)).1, (comm a (y :: b)).2.1, (comm a (y :: b)).2.2)
    else if Op.bytesLess y.toList x.toList = true then ((comm (x :: a) b).1, y :: (comm (x :: a) b).2.1, (comm (x :: a) b).2.2)
    else ((comm a b).1, (comm a b).2.1, x :: (comm a b).2.2) := by
  have e : (x :: a).length + (y :: b).length = (a.length + b.length + 1) + 1 := by simp; omega
  unfold comm
  rw [e]
  simp only [commP]
  rw [comm_fuel (a.length + b.length + 1) (a.length + (y :: b).length) a (y :: b) (by simp; omega) (Nat.le_refl _), comm_fuel (a.length + b.length + 1) ((x :: a).length + b.length) (x :: a) b (by simp; omega) (Nat.le_refl _), comm_fuel (a.length + b.length + 1) (a.length + b.length) a b (by omega) (Nat.le_refl _)]
/-- The state of Comm: the three lists so far, and what is left. -/
structure CM (w : World) (l1 l2 : List ByteArray) (i k : Nat) (v1 v2 v3 : Value) (L1 L2 L3 : List ByteArray) (W : World) : Prop where
  o1 : W.ownsRow w.heap.size 9 1 v1 L1.length (strs L1)
  o2 : W.ownsRow w.heap.size 9 1 v2 L2.length (strs L2)
  o3 : W.ownsRow w.heap.size 9 1 v3 L3.length (strs L3)
  n12 : NeRow v1 v2
  n13 : NeRow v1 v3
  n23 : NeRow v2 v3
  low : Below w.heap.size w W
  eq : (L1 ++ (comm (l1.drop i) (l2.drop k)).1, L2 ++ (comm (l1.drop i) (l2.drop k)).2.1, L3 ++ (comm (l1.drop i) (l2.drop k)).2.2) = comm l1 l2
  len : L1.length + L2.length + L3.length ≤ i + k
theorem addr_at (g i : Nat) : Addr.add ⟨g, 0, none⟩ i = ⟨g, i, none⟩ := by
  unfold Addr.add
  split
  · rename_i h; subst h; rfl
  · simp
theorem cellAt {w : World} {b : Nat} {cs : Array Value} {t : TypeId} (h : w.heap[b]? = some (.cells cs t (0, 0))) (j : Nat) : w.cell? ⟨b, j, none⟩ = cs[j]? := by
  simp [World.cell?, h]
theorem addr_at2 (g i j : Nat) : Addr.add ⟨g, i, none⟩ j = ⟨g, i + j, none⟩ := by
  unfold Addr.add
  split
  · rename_i h; subst h; rfl
  · simp
theorem C_rest {w W : World} {g i : Nat} {p : Option Addr} {l : List ByteArray} (h : Kd.C Kd.string w (some ⟨g, 0, none⟩) l.length l) (hb : Below w.heap.size w W) (hp : i < l.length → p = some ⟨g, i, none⟩) : Kd.C Kd.string W p (l.drop i).length (l.drop i) := by
  refine ⟨rfl, by have := h.2.1; rw [List.length_drop]; omega, fun hn => ?_⟩
  rw [List.length_drop] at hn
  refine ⟨⟨g, i, none⟩, hp (by omega), fun j x hj => ⟨[.string x], rfl, rfl, fun t u ht => ?_⟩⟩
  obtain ⟨hlt, hx⟩ := List.getElem?_eq_some_iff.1 hj
  rw [List.length_drop] at hlt
  rw [List.getElem_drop] at hx
  have ht0 : t = 0 := by
    have := (List.getElem?_eq_some_iff.1 ht).1
    simpa using this
  subst ht0
  obtain ⟨ad, had, hc⟩ := C_at h hb (i + j) (by omega)
  obtain rfl := Option.some.inj had
  rw [addr_at, hx] at hc
  rw [addr_at2, show Kd.string.sz = 1 from rfl, Nat.mul_one, Nat.add_zero, hc]
  exact ht
theorem CM.end_ {w : World} {l1 l2 : List ByteArray} {i k : Nat} {v1 v2 v3 : Value} {L1 L2 L3 : List ByteArray} {W : World} (h : CM w l1 l2 i k v1 v2 v3 L1 L2 L3 W) (he : l1.length ≤ i ∨ l2.length ≤ k) : comm l1 l2 = (L1 ++ l1.drop i, L2 ++ l2.drop k, L3) := by
  have hq := h.eq
  rcases he with he | he
  · rw [List.drop_eq_nil_of_le he, comm_nil1] at hq
    rw [← hq, List.drop_eq_nil_of_le he]
    simp
  · rw [List.drop_eq_nil_of_le he, comm_nil2] at hq
    rw [← hq, List.drop_eq_nil_of_le he]
    simp
theorem reads_own' {W : World} {base n : Nat} {v : Value} {l : List ByteArray} (h : W.ownsRow base 9 1 v n (strs l)) : ∃ A c, v = .slice A l.length c ∧ l.length ≤ c ∧ Kd.C Kd.string W A l.length l := Kd.R_reads (R_of_own h)
theorem CM.below {w : World} {l1 l2 : List ByteArray} {i k : Nat} {v1 v2 v3 : Value} {L1 L2 L3 : List ByteArray} {W W' : World} (h : CM w l1 l2 i k v1 v2 v3 L1 L2 L3 W) (hb : Below W.heap.size W W') : CM w l1 l2 i k v1 v2 v3 L1 L2 L3 W' :=
  ⟨pw_own_below h.o1 hb, pw_own_below h.o2 hb, pw_own_below h.o3 hb, h.n12, h.n13, h.n23, bth h.low hb, h.eq, h.len⟩
theorem kept_row {N n g : Nat} {W w5 : World} {T : Obj} {v u v' : Value} {xs : List Value} (ho : W.ownsRow N 9 1 u n xs) (hne : NeRow v u) (hg : (W.drew.alloc T).grownBy w5 v.ownBlock) (hat : v.ownBlock = some g ∨ g = (W.drew.alloc T).heap.size) (hv' : v'.ownBlock = some g) :
    w5.ownsRow N 9 1 u n xs ∧ NeRow v' u := by
  refine ⟨(ho.drew.alloc T).kept hg (ne_other hne), ne_append hne ?_ ho⟩
  rcases hat with h | h
  · exact .inl (hv'.trans h.symm)
  · refine .inr ⟨g, hv', ?_⟩
    rw [h, World.size_alloc]
    exact Nat.le_succ _
theorem app_low {N n : Nat} {w W w5 : World} {T : Obj} {v : Value} {xs : List Value} (hN : w.heap.size = N) (low : Below w.heap.size w W) (ho : W.ownsRow N 9 1 v n xs) (hg : (W.drew.alloc T).grownBy w5 v.ownBlock) : Below w.heap.size w w5 := by
  have b0 : Below w.heap.size w (W.drew.alloc T) := bal (bdr low) T
  exact b0.grown hg (b0.size) (fun k hk => by rw [hN]; exact own_base ho k hk)
section
variable {w : World} {l1 l2 : List ByteArray} {i k : Nat} {v1 v2 v3 : Value} {L1 L2 L3 : List ByteArray} {W w5 : World} {x y : ByteArray} {g cap : Nat} {T : Obj}
theorem CM.app1 (h : CM w l1 l2 i k v1 v2 v3 L1 L2 L3 W) (hi : i < l1.length) (hk : k < l2.length) (hx : l1[i] = x) (hy : l2[k] = y) (hb : Op.bytesLess x.toList y.toList = true)
    (ho : w5.ownsRow w.heap.size 9 1 (.slice (some ⟨g, 0, none⟩) (L1.length + 1) cap) (L1.length + 1) (strs L1 ++ [.string x])) (hg : (W.drew.alloc T).grownBy w5 v1.ownBlock) (hat : v1.ownBlock = some g ∨ g = (W.drew.alloc T).heap.size) :
    CM w l1 l2 (i + 1) k (.slice (some ⟨g, 0, none⟩) (L1.length + 1) cap) v2 v3 (L1 ++ [x]) L2 L3 w5 := by
  have a2 := kept_row (v' := .slice (some ⟨g, 0, none⟩) (L1.length + 1) cap) h.o2 h.n12 hg hat rfl
  have a3 := kept_row (v' := .slice (some ⟨g, 0, none⟩) (L1.length + 1) cap) h.o3 h.n13 hg hat rfl
  have e1 : l1.drop i = x :: l1.drop (i + 1) := by rw [List.drop_eq_getElem_cons hi, hx]
  have e2 : l2.drop k = y :: l2.drop (k + 1) := by rw [List.drop_eq_getElem_cons hk, hy]
  refine ⟨by rw [List.length_append, strs_append]; exact ho, a2.1, a3.1, a2.2, a3.2, h.n23, app_low rfl h.low h.o1 hg, ?_, by have := h.len; rw [List.length_append]; simp; omega⟩
  have he := h.eq
  rw [e1, e2, comm_cons, if_pos hb, ← e2] at he
  rw [← he, List.append_assoc]
  rfl
theorem CM.app2 (h : CM w l1 l2 i k v1 v2 v3 L1 L2 L3 W) (hi : i < l1.length) (hk : k < l2.length) (hx : l1[i] = x) (hy : l2[k] = y) (hb : Op.bytesLess x.toList y.toList = false) (hb2 : Op.bytesLess y.toList x.toList = true)
    (ho : w5.ownsRow w.heap.size 9 1 (.slice (some ⟨g, 0, none⟩) (L2.length + 1) cap) (L2.length + 1) (strs L2 ++ [.string y])) (hg : (W.drew.alloc T).grownBy w5 v2.ownBlock) (hat : v2.ownBlock = some g ∨ g = (W.drew.alloc T).heap.size) :
    CM w l1 l2 i (k + 1) v1 (.slice (some ⟨g, 0, none⟩) (L2.length + 1) cap) v3 L1 (L2 ++ [y]) L3 w5 := by
  have a1 := kept_row (v' := .slice (some ⟨g, 0, none⟩) (L2.length + 1) cap) h.o1 (ne_symm h.n12) hg hat rfl
  have a3 := kept_row (v' := .slice (some ⟨g, 0, none⟩) (L2.length + 1) cap) h.o3 h.n23 hg hat rfl
  have e1 : l1.drop i = x :: l1.drop (i + 1) := by rw [List.drop_eq_getElem_cons hi, hx]
  have e2 : l2.drop k = y :: l2.drop (k + 1) := by rw [List.drop_eq_getElem_cons hk, hy]
  refine ⟨a1.1, by rw [List.length_append, strs_append]; exact ho, a3.1, ne_symm a1.2, h.n13, a3.2, app_low rfl h.low h.o2 hg, ?_, by have := h.len; rw [List.length_append]; simp; omega⟩
  have he := h.eq
  rw [e1, e2, comm_cons, if_neg (by rw [hb]; decide), if_pos hb2, ← e1] at he
  rw [← he, List.append_assoc]
  rfl
theorem CM.app3 (h : CM w l1 l2 i k v1 v2 v3 L1 L2 L3 W) (hi : i < l1.length) (hk : k < l2.length) (hx : l1[i] = x) (hy : l2[k] = y) (hb : Op.bytesLess x.toList y.toList = false) (hb2 : Op.bytesLess y.toList x.toList = false)
    (ho : w5.ownsRow w.heap.size 9 1 (.slice (some ⟨g, 0, none⟩) (L3.length + 1) cap) (L3.length + 1) (strs L3 ++ [.string x])) (hg : (W.drew.alloc T).grownBy w5 v3.ownBlock) (hat : v3.ownBlock = some g ∨ g = (W.drew.alloc T).heap.size) :
    CM w l1 l2 (i + 1) (k + 1) v1 v2 (.slice (some ⟨g, 0, none⟩) (L3.length + 1) cap) L1 L2 (L3 ++ [x]) w5 := by
  have a1 := kept_row (v' := .slice (some ⟨g, 0, none⟩) (L3.length + 1) cap) h.o1 (ne_symm h.n13) hg hat rfl
  have a2 := kept_row (v' := .slice (some ⟨g, 0, none⟩) (L3.length + 1) cap) h.o2 (ne_symm h.n23) hg hat rfl
  have e1 : l1.drop i = x :: l1.drop (i + 1) := by rw [List.drop_eq_getElem_cons hi, hx]
  have e2 : l2.drop k = y :: l2.drop (k + 1) := by rw [List.drop_eq_getElem_cons hk, hy]
  refine ⟨a1.1, a2.1, by rw [List.length_append, strs_append]; exact ho, h.n12, ne_symm a1.2, ne_symm a2.2, app_low rfl h.low h.o3 hg, ?_, by have := h.len; rw [List.length_append]; simp; omega⟩
  have he := h.eq
  rw [e1, e2, comm_cons, if_neg (by rw [hb]; decide), if_neg (by rw [hb2]; decide)] at he
  rw [← he, List.append_assoc]
  rfl
end
theorem bdn' {w W : World} (h : Below w.heap.size w W) (n : Nat) : Below w.heap.size w (W.drewN n) := ⟨h.os, h.tape, h.output, h.size, h.block⟩
set_option maxHeartbeats 2000000 in
set_option maxRecDepth 100000 in
theorem comm_calls (g1 g2 c1 c2 : Nat) (l1 l2 : List ByteArray) (w : World) (h1 : Kd.C Kd.string w (some ⟨g1, 0, none⟩) l1.length l1) (h2 : Kd.C Kd.string w (some ⟨g2, 0, none⟩) l2.length l2) (k1 : l1.length ≤ c1) (k2 : l2.length ≤ c2) (hl : l1.length + l2.length ≤ 4000000) (hz1 : c1 ≤ maxLen) (hz2 : c2 ≤ maxLen) :
    Calls Tryd.prog 25 #[.slice (some ⟨g1, 0, none⟩) l1.length c1, .slice (some ⟨g2, 0, none⟩) l2.length c2] w fun e w' => ∃ x1 x2 x3, e = .returned (.tuple #[x1, x2, x3]) ∧ w'.ownsRow w.heap.size 9 1 x1 (comm l1 l2).1.length (strs (comm l1 l2).1) ∧ w'.ownsRow w.heap.size 9 1 x2 (comm l1 l2).2.1.length (strs (comm l1 l2).2.1) ∧ w'.ownsRow w.heap.size 9 1 x3 (comm l1 l2).2.2.length (strs (comm l1 l2).2.2) ∧ NeRow x1 x2 ∧ NeRow x1 x3 ∧ NeRow x2 x3 ∧ Below w.heap.size w w' := by
  obtain ⟨i0, hi, hzz0, hzz1, hzz2⟩ := info_parts infoS
  have H1 := Lib.hid h1
  have H2 := Lib.hid h2
  clear h1 h2
  go_enter Tryd.func25, Tryd.ntmps25
  go_wp2
  go_loopw [0, 1, 4, 5, 6] (fun a b v1 v2 v3 wr => ∃ (i k : Nat) (L1 L2 L3 : List ByteArray) (p1 p2 : Option Addr), i ≤ l1.length ∧ k ≤ l2.length ∧ a = .slice p1 (l1.length - i) (c1 - i) ∧ b = .slice p2 (l2.length - k) (c2 - k) ∧ (i < l1.length → p1 = some ⟨g1, i, none⟩) ∧ (k < l2.length → p2 = some ⟨g2, k, none⟩) ∧ Hid (CM w l1 l2 i k v1 v2 v3 L1 L2 L3 wr)) (fun a b _ _ _ _ => lenOf a + lenOf b)
  case atStart => exact ⟨0, 0, [], [], [], _, _, Nat.zero_le _, Nat.zero_le _, rfl, rfl, fun _ => rfl, fun _ => rfl, Lib.hid ⟨World.ownsRow_nil _ _ _ _, World.ownsRow_nil _ _ _ _, World.ownsRow_nil _ _ _ _, fun _ h => by simp [Value.ownBlock] at h, fun _ h => by simp [Value.ownBlock] at h, fun _ h => by simp [Value.ownBlock] at h, Below.refl _ _, rfl, by simp⟩⟩
  case round =>
    obtain ⟨i, k, L1, L2, L3, p1, p2, hi1, hk1, rfl, rfl, hp1, hp2, hst⟩ := hrel
    by_cases hboth : i < l1.length ∧ k < l2.length
    · obtain ⟨hi2, hk2⟩ := hboth
      · obtain rfl := hp1 hi2
        obtain rfl := hp2 hk2
        obtain ⟨ad1, ha1, hx⟩ := C_at H1.out hst.out.low i hi2
        obtain rfl := Option.some.inj ha1
        obtain ⟨ad2, ha2, hy⟩ := C_at H2.out hst.out.low k hk2
        obtain rfl := Option.some.inj ha2
        obtain ⟨x, hxe⟩ : ∃ x, l1[i] = x := ⟨_, rfl⟩
        obtain ⟨y, hye⟩ : ∃ y, l2[k] = y := ⟨_, rfl⟩
        rw [hxe] at hx
        rw [hye] at hy
        have hx' : wr.cell? ⟨g1, i, none⟩ = some (.string x) := by rw [← hx, addr_at]
        have hy' : wr.cell? ⟨g2, k, none⟩ = some (.string y) := by rw [← hy, addr_at]
        obtain ⟨m1, hm1⟩ : ∃ m, l1.length - i = m + 1 := ⟨l1.length - i - 1, by omega⟩
        obtain ⟨m2, hm2⟩ : ∃ m, l2.length - k = m + 1 := ⟨l2.length - k - 1, by omega⟩
        obtain ⟨d1, hd1⟩ : ∃ m, c1 - i = m + 1 := ⟨c1 - i - 1, by omega⟩
        obtain ⟨d2, hd2⟩ : ∃ m, c2 - k = m + 1 := ⟨c2 - k - 1, by omega⟩
        rw [hm1, hm2, hd1, hd2]
        have e1 : m1 ≤ d1 := by omega
        have e2 : m2 ≤ d2 := by omega
        have e3 : d1 ≤ 9223372036854775807 := by unfold maxLen at hz1; omega
        have e4 : d2 ≤ 9223372036854775807 := by unfold maxLen at hz2; omega
        clear hx hy
        go_wp2_with fail
        go_quiet ((go_at_call 38; exact Calls.quiet_of_same (compareS_walk _ _ _)))
        have ST := Lib.hid (hst.out.below (bdn' (Below.refl _ _) nq))
        have hx2 : (wr.drewN nq).cell? ⟨g1, i, none⟩ = some (.string x) := hx'
        have hy2 : (wr.drewN nq).cell? ⟨g2, k, none⟩ = some (.string y) := hy'
        clear hx' hy'
        generalize wr.drewN nq = wq at ST hx2 hy2 ⊢
        clear nq
        have hlen := ST.out.len
        have hsz := ST.out.low.size
        have e5 : L1.length ≤ 4000000 := by omega
        have e6 : L2.length ≤ 4000000 := by omega
        have e7 : L3.length ≤ 4000000 := by omega
        cases hb1 : Op.bytesLess x.toList y.toList with
        | true =>
          have hcm : cmpB x.data.toList y.data.toList = -1 := by
            unfold cmpB; rw [← Lib.toList_data, ← Lib.toList_data, if_pos hb1]
          rw [hcm]
          have HO := Lib.hid ST.out.o1
          clear hcm hlen
          go_wp2_with fail
          have t1 : (1 : Int) ≤ (m1 : Int) + 1 := by omega
          have t2 : (1 : Int) ≤ (m2 : Int) + 1 := by omega
          have xd : wq.drew.cell? ⟨g1, i, none⟩ = some (.string x) := hx2
          go_region_law (refine step_append_lies _ rfl (.tmp 36) (.tmp 40) 22 rfl w.heap.size 9 i0 _ 1 16 Tryd.underlying22 hi hzz0 hzz1 hzz2 rfl (by decide) _ L1.length (strs L1) (by simp [Act.eval, Act.put]) ((HO.out).drew.alloc _) ⟨wq.heap.size, 0, none⟩ 1 1 [.string x] (by simp [Act.eval, Act.put]) rfl (by exact World.news_of_block (heap_alloc_new wq.drew _)) (by simp [Value.oneCell']) (by decide) (by unfold maxLen; omega) (by omega) (by simp; omega) _ rfl ?_; intro g cap w5 hown5 hgrow5 hat5 hlt5)
          have NEW := Lib.hid (CM.app1 ST.out hi2 hk2 hxe hye hb1 hown5 hgrow5 hat5)
          generalize hq : (if d1 = 0 then some (⟨g1, i, none⟩ : Addr) else some ⟨g1, i + 1, none⟩) = q
          have P1 := Lib.hid (show i + 1 < l1.length → q = some ⟨g1, i + 1, none⟩ from fun h => by rw [← hq]; exact if_neg (by omega))
          clear hq
          clear hown5 hgrow5 hat5 hlt5 xd hx2 hy2
          simp only [List.getElem_toArray, List.getElem_cons_succ, List.getElem_cons_zero, Act.put, List.setIfInBounds_toArray, List.set_cons_zero, List.set_cons_succ]
          go_wp2
          go_roundw
          case rel => exact ⟨i + 1, k, L1 ++ [x], L2, L3, _, _, by omega, hk1, by rw [show l1.length - (i + 1) = m1 by omega, show c1 - (i + 1) = d1 by omega], by rw [hm2, hd2], P1.out, fun _ => rfl, NEW⟩
          case measure => simp only [lenOf_slice]; omega
        | false =>
          cases hb2 : Op.bytesLess y.toList x.toList with
          | true =>
            have hcm : cmpB x.data.toList y.data.toList = 1 := by
              unfold cmpB; rw [← Lib.toList_data, ← Lib.toList_data, if_neg (by rw [hb1]; decide), if_pos hb2]
            rw [hcm]
            have HO := Lib.hid ST.out.o2
            clear hcm hlen
            go_wp2_with fail
            have t1 : (1 : Int) ≤ (m1 : Int) + 1 := by omega
            have t2 : (1 : Int) ≤ (m2 : Int) + 1 := by omega
            have xd : wq.drew.cell? ⟨g2, k, none⟩ = some (.string y) := hy2
            go_region_law (refine step_append_lies _ rfl (.tmp 47) (.tmp 51) 22 rfl w.heap.size 9 i0 _ 1 16 Tryd.underlying22 hi hzz0 hzz1 hzz2 rfl (by decide) _ L2.length (strs L2) (by simp [Act.eval, Act.put]) ((HO.out).drew.alloc _) ⟨wq.heap.size, 0, none⟩ 1 1 [.string y] (by simp [Act.eval, Act.put]) rfl (by exact World.news_of_block (heap_alloc_new wq.drew _)) (by simp [Value.oneCell']) (by decide) (by unfold maxLen; omega) (by omega) (by simp; omega) _ rfl ?_; intro g cap w5 hown5 hgrow5 hat5 hlt5)
            have NEW := Lib.hid (CM.app2 ST.out hi2 hk2 hxe hye hb1 hb2 hown5 hgrow5 hat5)
            generalize hq : (if d2 = 0 then some (⟨g2, k, none⟩ : Addr) else some ⟨g2, k + 1, none⟩) = q
            have P1 := Lib.hid (show k + 1 < l2.length → q = some ⟨g2, k + 1, none⟩ from fun h => by rw [← hq]; exact if_neg (by omega))
            clear hq
            clear hown5 hgrow5 hat5 hlt5 xd hx2 hy2
            simp only [List.getElem_toArray, List.getElem_cons_succ, List.getElem_cons_zero, Act.put, List.setIfInBounds_toArray, List.set_cons_zero, List.set_cons_succ]
            go_wp2
            go_roundw
            case rel => exact ⟨i, k + 1, L1, L2 ++ [y], L3, _, _, hi1, by omega, by rw [hm1, hd1], by rw [show l2.length - (k + 1) = m2 by omega, show c2 - (k + 1) = d2 by omega], fun _ => rfl, P1.out, NEW⟩
            case measure => simp only [lenOf_slice]; omega
          | false =>
            have hcm : cmpB x.data.toList y.data.toList = 0 := by
              unfold cmpB; rw [← Lib.toList_data, ← Lib.toList_data, if_neg (by rw [hb1]; decide), if_neg (by rw [hb2]; decide)]
            rw [hcm]
            have HO := Lib.hid ST.out.o3
            clear hcm hlen
            go_wp2_with fail
            have t1 : (1 : Int) ≤ (m1 : Int) + 1 := by omega
            have t2 : (1 : Int) ≤ (m2 : Int) + 1 := by omega
            have xd : wq.drew.cell? ⟨g1, i, none⟩ = some (.string x) := hx2
            go_region_law (refine step_append_lies _ rfl (.tmp 23) (.tmp 27) 22 rfl w.heap.size 9 i0 _ 1 16 Tryd.underlying22 hi hzz0 hzz1 hzz2 rfl (by decide) _ L3.length (strs L3) (by simp [Act.eval, Act.put]) ((HO.out).drew.alloc _) ⟨wq.heap.size, 0, none⟩ 1 1 [.string x] (by simp [Act.eval, Act.put]) rfl (by exact World.news_of_block (heap_alloc_new wq.drew _)) (by simp [Value.oneCell']) (by decide) (by unfold maxLen; omega) (by omega) (by simp; omega) _ rfl ?_; intro g cap w5 hown5 hgrow5 hat5 hlt5)
            have NEW := Lib.hid (CM.app3 ST.out hi2 hk2 hxe hye hb1 hb2 hown5 hgrow5 hat5)
            generalize hq : (if d1 = 0 then some (⟨g1, i, none⟩ : Addr) else some ⟨g1, i + 1, none⟩) = q
            have P1 := Lib.hid (show i + 1 < l1.length → q = some ⟨g1, i + 1, none⟩ from fun h => by rw [← hq]; exact if_neg (by omega))
            clear hq
            generalize hq : (if d2 = 0 then some (⟨g2, k, none⟩ : Addr) else some ⟨g2, k + 1, none⟩) = q2
            have P2 := Lib.hid (show k + 1 < l2.length → q2 = some ⟨g2, k + 1, none⟩ from fun h => by rw [← hq]; exact if_neg (by omega))
            clear hq
            clear hown5 hgrow5 hat5 hlt5 xd hx2 hy2
            simp only [List.getElem_toArray, List.getElem_cons_succ, List.getElem_cons_zero, Act.put, List.setIfInBounds_toArray, List.set_cons_zero, List.set_cons_succ]
            go_wp2
            go_roundw
            case rel => exact ⟨i + 1, k + 1, L1, L2, L3 ++ [x], _, _, by omega, by omega, by rw [show l1.length - (i + 1) = m1 by omega, show c1 - (i + 1) = d1 by omega], by rw [show l2.length - (k + 1) = m2 by omega, show c2 - (k + 1) = d2 by omega], P1.out, P2.out, NEW⟩
            case measure => simp only [lenOf_slice]; omega
    · have hend := hst.out.end_ (by omega)
      obtain ⟨q1, r1, rfl, hr1, C1⟩ := reads_own' hst.out.o1
      obtain ⟨q2, r2, rfl, hr2, C2⟩ := reads_own' hst.out.o2
      obtain ⟨q3, r3, rfl, hr3, C3⟩ := reads_own' hst.out.o3
      have D1 := Lib.hid (C_rest (i := i) H1.out hst.out.low hp1)
      have D2 := Lib.hid (C_rest (i := k) H2.out hst.out.low hp2)
      have CC1 := Lib.hid C1
      have CC2 := Lib.hid C2
      have HEND := Lib.hid hend
      have hlen := hst.out.len
      obtain ⟨m1, hm1⟩ : ∃ m, l1.length - i = m := ⟨_, rfl⟩
      obtain ⟨m2, hm2⟩ : ∃ m, l2.length - k = m := ⟨_, rfl⟩
      have hd1 : (l1.drop i).length = m1 := by rw [List.length_drop, hm1]
      have hd2 : (l2.drop k).length = m2 := by rw [List.length_drop, hm2]
      rw [hm1, hm2]
      have HD := Lib.hid (And.intro hd1 hd2)
      have s1 : L1.length + m1 ≤ 8000000 := by omega
      have s2 : L2.length + m2 ≤ 8000000 := by omega
      have s3 : m1 ≤ c1 - i := by omega
      have s4 : m2 ≤ c2 - k := by omega
      have hmz : m1 = 0 ∨ (0 < m1 ∧ m2 = 0) := by omega
      clear hend C1 C2 C3 hd1 hd2 hp1 hp2 hboth
      rcases hmz with rfl | ⟨n1, rfl⟩
      · go_wp2_with fail
        have hS1 := Lib.hid (Below.refl wr.heap.size wr)
        have ra := concat_calls wr.heap.size q1 p1 L1.length r1 0 (c1 - i) L1 (l1.drop i) (wr.alloc (.cells #[.slice q1 L1.length r1, .slice p1 0 (c1 - i)] 22)) (by simp) ((cellAt (heap_alloc_new wr _) 0).trans rfl) ((cellAt (heap_alloc_new wr _) 1).trans rfl) rfl HD.out.1 (Kd.C_below CC1.out (bal hS1.out _)) (Kd.C_below D1.out (bal hS1.out _)) hr1 s3 s1
        refine ra.mono ?_
        rintro e w6 ⟨x1, rfl, ho6, hb6⟩
        have b6 := Lib.hid (bth (bal hS1.out _) hb6)
        have p2' := Lib.hid (pw_own_below hst.out.o2 b6.out)
        have p3' := Lib.hid (pw_own_below hst.out.o3 b6.out)
        have n62 := Lib.hid (ne_below ho6 (hst.out.o2.alloc _))
        have n63 := Lib.hid (ne_below ho6 (hst.out.o3.alloc _))
        have O6 := Lib.hid ho6
        clear ho6 hb6 ra
        go_wp2_with fail
        have hS2 := Lib.hid (Below.refl w6.heap.size w6)
        have rb := concat_calls w6.heap.size q2 p2 L2.length r2 m2 (c2 - k) L2 (l2.drop k) (w6.alloc (.cells #[.slice q2 L2.length r2, .slice p2 m2 (c2 - k)] 22)) (by simp) ((cellAt (heap_alloc_new w6 _) 0).trans rfl) ((cellAt (heap_alloc_new w6 _) 1).trans rfl) rfl HD.out.2 (Kd.C_below (Kd.C_below CC2.out b6.out) (bal hS2.out _)) (Kd.C_below (Kd.C_below D2.out b6.out) (bal hS2.out _)) hr2 s4 s2
        refine rb.mono ?_
        rintro e w8 ⟨x2, rfl, ho8, hb8⟩
        have b8 := Lib.hid (bth (bal hS2.out _) hb8)
        have n86 := Lib.hid (ne_below ho8 (O6.out.alloc _))
        have n83 := Lib.hid (ne_below ho8 (p3'.out.alloc _))
        have O8 := Lib.hid ho8
        clear ho8 hb8 rb
        go_wp2
        go_returns
        have z1 := hst.out.low.size
        have z2 := b6.out.size
        refine ⟨x1, x2, .slice q3 L3.length r3, rfl, ?_⟩
        have e1 : L1.length + 0 = (L1 ++ l1.drop i).length := by rw [List.length_append, HD.out.1]
        have e2 : L2.length + m2 = (L2 ++ l2.drop k).length := by rw [List.length_append, HD.out.2]
        rw [HEND.out]
        have o6 := O6.out
        have o8 := O8.out
        rw [e1] at o6
        rw [e2] at o8
        exact ⟨own_weaken (pw_own_below o6 b8.out) (by simp; omega), own_weaken o8 (by simp; omega), pw_own_below p3'.out b8.out, ne_symm n86.out, n63.out, n83.out, bth (bth hst.out.low b6.out) b8.out⟩
      · go_wp2_with fail
        have hS1 := Lib.hid (Below.refl wr.heap.size wr)
        have ra := concat_calls wr.heap.size q1 p1 L1.length r1 m1 (c1 - i) L1 (l1.drop i) (wr.alloc (.cells #[.slice q1 L1.length r1, .slice p1 m1 (c1 - i)] 22)) (by simp) ((cellAt (heap_alloc_new wr _) 0).trans rfl) ((cellAt (heap_alloc_new wr _) 1).trans rfl) rfl HD.out.1 (Kd.C_below CC1.out (bal hS1.out _)) (Kd.C_below D1.out (bal hS1.out _)) hr1 s3 s1
        refine ra.mono ?_
        rintro e w6 ⟨x1, rfl, ho6, hb6⟩
        have b6 := Lib.hid (bth (bal hS1.out _) hb6)
        have p2' := Lib.hid (pw_own_below hst.out.o2 b6.out)
        have p3' := Lib.hid (pw_own_below hst.out.o3 b6.out)
        have n62 := Lib.hid (ne_below ho6 (hst.out.o2.alloc _))
        have n63 := Lib.hid (ne_below ho6 (hst.out.o3.alloc _))
        have O6 := Lib.hid ho6
        clear ho6 hb6 ra
        go_wp2_with fail
        have hS2 := Lib.hid (Below.refl w6.heap.size w6)
        have rb := concat_calls w6.heap.size q2 p2 L2.length r2 0 (c2 - k) L2 (l2.drop k) (w6.alloc (.cells #[.slice q2 L2.length r2, .slice p2 0 (c2 - k)] 22)) (by simp) ((cellAt (heap_alloc_new w6 _) 0).trans rfl) ((cellAt (heap_alloc_new w6 _) 1).trans rfl) rfl HD.out.2 (Kd.C_below (Kd.C_below CC2.out b6.out) (bal hS2.out _)) (Kd.C_below (Kd.C_below D2.out b6.out) (bal hS2.out _)) hr2 s4 s2
        refine rb.mono ?_
        rintro e w8 ⟨x2, rfl, ho8, hb8⟩
        have b8 := Lib.hid (bth (bal hS2.out _) hb8)
        have n86 := Lib.hid (ne_below ho8 (O6.out.alloc _))
        have n83 := Lib.hid (ne_below ho8 (p3'.out.alloc _))
        have O8 := Lib.hid ho8
        clear ho8 hb8 rb
        go_wp2
        go_returns
        have z1 := hst.out.low.size
        have z2 := b6.out.size
        refine ⟨x1, x2, .slice q3 L3.length r3, rfl, ?_⟩
        have e1 : L1.length + m1 = (L1 ++ l1.drop i).length := by rw [List.length_append, HD.out.1]
        have e2 : L2.length + 0 = (L2 ++ l2.drop k).length := by rw [List.length_append, HD.out.2]
        rw [HEND.out]
        have o6 := O6.out
        have o8 := O8.out
        rw [e1] at o6
        rw [e2] at o8
        exact ⟨own_weaken (pw_own_below o6 b8.out) (by simp; omega), own_weaken o8 (by simp; omega), pw_own_below p3'.out b8.out, ne_symm n86.out, n63.out, n83.out, bth (bth hst.out.low b6.out) b8.out⟩
end Go.Proofs.YtaekgfmcelckoaaDoor.H

end

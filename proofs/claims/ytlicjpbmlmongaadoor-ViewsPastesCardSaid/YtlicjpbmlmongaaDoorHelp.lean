/- Small words that the walks by hand use: worlds that only grow, lists of texts as cells. -/
import Derived.Test.YtlicjpbmlmongaaDoorProg
import Derived.Test.YtlicjpbmlmongaaDoorWMore
import Derived.Below
import Derived.WalkKit
import Derived.Lib.Hide
import Derived.Lib.ConvBytes
import Derived.Lib.AppendStr
import Derived.Lib.Builder
import Derived.OwnWalk
import Derived.Maps.AppendAt
import Derived.KernelRfl
set_option linter.unusedVariables false
set_option linter.unusedSimpArgs false
namespace Go.Proofs.YtlicjpbmlmongaaDoor.H
open Go.RowKit Go.Proofs.YtlicjpbmlmongaaDoorW.PrintWords

theorem bth {w W w1 : World} (h : Below w.heap.size w W) (k : Below W.heap.size W w1) : Below w.heap.size w w1 :=
  h.trans ⟨k.os, k.tape, k.output, k.size, fun i hi => k.block i (Nat.lt_of_lt_of_le hi h.size)⟩
theorem bdr {w W : World} (h : Below w.heap.size w W) : Below w.heap.size w W.drew := ⟨h.os, h.tape, h.output, h.size, h.block⟩
theorem bdn {w W : World} (h : Below w.heap.size w W) (n : Nat) : Below w.heap.size w (W.drewN n) := ⟨h.os, h.tape, h.output, h.size, h.block⟩
theorem bal {w W : World} (h : Below w.heap.size w W) (o : Obj) : Below w.heap.size w (W.alloc o) := h.alloc h.size o
theorem bby {w W : World} (h : Below w.heap.size w W) (e : TypeId) (s : ByteArray) : Below w.heap.size w (Lib.bytesWorld W e s) :=
  ⟨h.os, h.tape, h.output, by rw [Lib.bytesWorld_size]; have := h.size; omega, fun i hi => by rw [Lib.bytesWorld_at_old W e s i (by have := h.size; omega)]; exact h.block i hi⟩
theorem b_own {w W w1 : World} {e size n : Nat} {v : Value} {xs : List Value} (h : Below w.heap.size w W) (ho : W.ownsRow w.heap.size e size v n xs) (hg : W.grownBy w1 v.ownBlock) : Below w.heap.size w w1 :=
  h.grown hg h.size (fun k hk => own_base ho k hk)
theorem bsize {w W : World} (h : Below w.heap.size w W) : w.heap.size ≤ W.heap.size := h.size
theorem bcell {W w1 : World} (hb : Below W.heap.size W w1) : (∀ b o, b < W.heap.size → w1.cell? ⟨b, o, none⟩ = W.cell? ⟨b, o, none⟩) ∧ (∀ b o, b < W.heap.size → w1.frozen? ⟨b, o, none⟩ = W.frozen? ⟨b, o, none⟩) :=
  ⟨fun b o h => hb.cell (p := ⟨b, o, none⟩) h, fun b o h => hb.frozen (p := ⟨b, o, none⟩) h⟩

def strs (l : List ByteArray) : List Value := l.map .string
theorem strs_take {l : List ByteArray} (k : Nat) (h : k < l.length) : strs (l.take (k + 1)) = strs (l.take k) ++ [.string l[k]] := by
  rw [List.take_succ_eq_append_getElem h]; unfold strs; rw [List.map_append]; rfl
theorem strs_length (l : List ByteArray) : (strs l).length = l.length := by simp [strs]
theorem strs_append (l m : List ByteArray) : strs (l ++ m) = strs l ++ strs m := by simp [strs]
theorem infoS : (Tryd.prog.info? 9).map (fun i => (i.zero, i.size, i.bytes)) = some (some (.string ⟨#[]⟩), 1, 16) := by kernel_rfl

/-- A cell of a list of texts that is read, in any later world. -/
theorem C_at {w w1 : World} {A : Option Addr} {l : List ByteArray} (h : Kd.C Kd.string w A l.length l) (hb : Below w.heap.size w w1) (k : Nat) (hk : k < l.length) : ∃ ad, A = some ad ∧ w1.cell? (ad.add k) = some (.string l[k]) := by
  obtain ⟨ad, e, hc⟩ := h.2.2 (by omega)
  obtain ⟨c, _, hc1, hc2⟩ := hc k l[k] (List.getElem?_eq_getElem hk)
  refine ⟨ad, e, pw_cell_below hb ?_⟩
  subst hc1
  have := hc2 0 _ rfl
  simpa [show Kd.string.sz = 1 from rfl] using this

theorem own_at {W : World} {base e g cap : Nat} {l : List ByteArray} {n : Nat} (h : W.ownsRow base e 1 (.slice (some ⟨g, 0, none⟩) n cap) n (strs l)) (k : Nat) (hk : k < l.length) : W.cell? ⟨g, k, none⟩ = some (.string l[k]) := by
  have := h.cells (g := g) rfl k (.string l[k]) (by simp [strs, List.getElem?_eq_getElem hk])
  simpa [add_plain] using this
theorem twin_cap {W : World} {base e s g cap : Nat} {l : List Value} {n : Nat} (h : W.ownsRow base e s (.slice (some ⟨g, 0, none⟩) n cap) n l) : n ≤ cap ∧ cap ≤ maxLen := by
  rcases h.2 with ⟨h1, _⟩ | ⟨g', cap', cur, he, _, _, h1, h2, _⟩
  · cases h1
  · cases he; exact ⟨h1, h2⟩
/-- A row of texts of the call's own, told as the print tells it. -/
theorem R_of_own {W : World} {base e n : Nat} {v : Value} {l : List ByteArray} (h : W.ownsRow base e 1 v n (strs l)) : Kd.R Kd.string e W base (fun _ => True) v l := by
  have hn : n = l.length := by have := h.1; simp [strs] at this; omega
  subst hn
  refine ⟨fun _ _ => trivial, strs l, h, ?_⟩
  refine ⟨by simp [strs, show Kd.string.sz = 1 from rfl], fun j p hj => ?_⟩
  show ((strs l).drop (j * 1)).take 1 = [.string p]
  obtain ⟨hlt, hp⟩ := List.getElem?_eq_some_iff.1 hj
  rw [Nat.mul_one, List.drop_eq_getElem_cons (by rw [strs_length]; exact hlt)]
  simp [strs, hp]
/-- What has been made is read as any list of texts. -/
theorem C_of_own {W : World} {base e g cap n : Nat} {l : List ByteArray} (h : W.ownsRow base e 1 (.slice (some ⟨g, 0, none⟩) n cap) n (strs l)) (m : Nat) (hm : m ≤ l.length) : Kd.C Kd.string W (some ⟨g, 0, none⟩) m (l.take m) := by
  have hn : n = l.length := by have := h.1; simp [strs] at this; omega
  have hx := (twin_cap h).1
  have hx2 := (twin_cap h).2
  unfold maxLen at hx2
  refine ⟨by rw [List.length_take]; omega, by omega, fun h0 => ⟨_, rfl, fun j p hj => ⟨[.string p], rfl, rfl, fun i u hu => ?_⟩⟩⟩
  have hj2 := List.getElem?_eq_some_iff.1 hj
  obtain ⟨hlt, hp⟩ := hj2
  rw [List.length_take] at hlt
  have hi : i = 0 := by
    rcases Nat.eq_zero_or_pos i with h1 | h1
    · exact h1
    · rw [List.getElem?_eq_none (by simp; omega)] at hu; cases hu
  subst hi
  simp at hu
  subst hu
  rw [List.getElem_take] at hp
  have := own_at h j (by omega)
  rw [add_plain, show Kd.string.sz = 1 from rfl, Nat.mul_one, Nat.add_zero, this, hp]
/-- A literal list, just made. -/
theorem C_lit {α : Type} (enc : α → Value) (h1 : ∀ x, (enc x).oneCell' = true) (W : World) (e : TypeId) (xs : List α) (hn : xs.length ≤ 9223372036854775807) :
    Kd.C (Kd.scalar enc h1) (W.alloc (.cells (xs.map enc).toArray e)) (some ⟨W.heap.size, 0, none⟩) xs.length xs := by
  refine ⟨rfl, hn, fun h0 => ⟨_, rfl, fun j p hj => ⟨[enc p], rfl, rfl, fun i u hu => ?_⟩⟩⟩
  obtain ⟨hlt, hp⟩ := List.getElem?_eq_some_iff.1 hj
  have hi : i = 0 := by
    rcases Nat.eq_zero_or_pos i with h1 | h1
    · exact h1
    · rw [List.getElem?_eq_none (by simp; omega)] at hu; cases hu
  subst hi
  simp at hu
  subst hu
  rw [add_plain, show (Kd.scalar enc h1).sz = 1 from rfl, Nat.mul_one, Nat.add_zero]
  have := heap_alloc_new W (.cells (xs.map enc).toArray e)
  rw [Lib.cell_of_heap this]
  simp [List.getElem?_eq_getElem hlt, hp]
theorem C_ints (W : World) (k : IntKind) (e : TypeId) (xs : List Int) (hn : xs.length ≤ 9223372036854775807) : Kd.C (Kd.int k) (W.alloc (.cells (xs.map (Value.int k)).toArray e)) (some ⟨W.heap.size, 0, none⟩) xs.length xs := C_lit _ (fun _ => rfl) W e xs hn
theorem C_strs (W : World) (e : TypeId) (xs : List ByteArray) (hn : xs.length ≤ 9223372036854775807) : Kd.C Kd.string (W.alloc (.cells (xs.map Value.string).toArray e)) (some ⟨W.heap.size, 0, none⟩) xs.length xs := C_lit _ (fun _ => rfl) W e xs hn
end Go.Proofs.YtlicjpbmlmongaaDoor.H

/- Lists of bytes of the call's own: a byte put behind, a text's bytes put behind, and what they are as a text. -/
import Derived.Test.YtlicjpbmlmongaaDoorConv
import Derived.Test.YtlicjpbmlmongaaDoorHelp
import Derived.Laws.IdiomStrings
import Derived.Lib.UnsafeStr
import Derived.Lib.Strings
set_option linter.unusedVariables false
set_option linter.unusedSimpArgs false
namespace Go.Proofs.YtlicjpbmlmongaaDoor.C
open Go.RowKit Go.Proofs Go.Proofs.YtlicjpbmlmongaaDoor.H Go.Proofs.YtlicjpbmlmongaaDoorW.PrintWords

/-- A list of bytes of the call's own, from block base on. -/
def Bts (base : Nat) (v : Value) (L : List UInt8) (W : World) : Prop := W.ownsRow base 5 1 v L.length (Lib.byteCells L)
theorem Bts.nil (base : Nat) (W : World) : Bts base (.slice none 0 0) [] W := World.ownsRow_nil _ _ _ _
theorem bts_app (a b : List UInt8) : Lib.byteCells (a ++ b) = Lib.byteCells a ++ Lib.byteCells b := by simp [Lib.byteCells]
theorem Bts.below {base : Nat} {v : Value} {L : List UInt8} {W W' : World} (h : Bts base v L W) (hb : Below W.heap.size W W') : Bts base v L W' := pw_own_below h hb
theorem Bts.kept {base : Nat} {v : Value} {L : List UInt8} {W W' : World} (h : Bts base v L W) (hb : Below W.heap.size W W') : Bts base v L W' := pw_own_below h hb
theorem infoB : (Tryd.prog.info? 5).map (fun i => (i.zero, i.size, i.bytes)) = some (some (.int .u8 0), 1, 1) := by kernel_rfl
section
variable {ops : Array Oper} {rest : List Oper} {o : Oper} {a : Act} {Q : Exit → Act → World → Prop}
/-- append(b, c). -/
theorem app_byte (w : World) (base : Nat) (hgd : o.guard = none) (s x : Operand) (ho : o.op = .call { callee := .builtin .append, args := #[s, x], argTypes := #[50, 50] })
    (v : Value) (L L2 : List UInt8) (c : UInt8) (hL2 : L ++ [c] = L2) (hs : a.eval s = v) (hx : a.eval x = .slice (some ⟨w.heap.size, 0, none⟩) 1 1) (HO : Bts base v L w) (hbase : base ≤ w.heap.size) (hl : L.length + 1 ≤ 140737488355328)
    (h : ∀ v1 w1, Bts base v1 L2 w1 → w.grownBy w1 v.ownBlock → wpList Tryd.prog ops Q rest (a.put o.dst v1) w1) :
    wpList Tryd.prog ops Q (o :: rest) a (w.alloc (.cells #[.int .u8 (c.toNat : Int)] 5)) := by
  subst hL2
  obtain ⟨i0, hi, hz0, hz1, hz2⟩ := info_parts infoB
  refine wpList_append_own _ hgd s x 50 ho base 5 i0 (.int .u8 0) 1 1 Tryd.underlying50 hi hz0 hz1 hz2 rfl (by decide) v L.length (Lib.byteCells L) hs (World.ownsRow.alloc HO _) ⟨w.heap.size, 0, none⟩ 1 1 [.int .u8 (c.toNat : Int)] hx rfl ?c1 ?c2 ?c3 ?c4 ?c5 ?_
  case c1 =>
    intro j u hj
    match j, hj with
    | 0, hj => simp at hj; subst hj; simp [Addr.add]
  case c2 => intro u hu; simp at hu; subst hu; rfl
  case c3 => unfold maxLen; omega
  case c4 => omega
  case c5 => simp; omega
  intro v1 w1 hown hg _
  refine h v1 w1 ?_ ⟨hg.os, hg.tape, hg.output, by have := hg.size; simp at this; omega, fun k hk hr => (hg.block k (by simp; omega) hr).trans (Lib.alloc_old w _ k hk)⟩
  unfold Bts
  rw [bts_app, List.length_append, List.length_singleton]
  exact hown
/-- append(b, 10), the byte a literal. -/
theorem app_lit (w : World) (base : Nat) (hgd : o.guard = none) (s x : Operand) (ho : o.op = .call { callee := .builtin .append, args := #[s, x], argTypes := #[50, 50] })
    (v : Value) (L L2 : List UInt8) (c : UInt8) (hL2 : L ++ [c] = L2) (n : Int) (hn : (c.toNat : Int) = n) (hs : a.eval s = v) (hx : a.eval x = .slice (some ⟨w.heap.size, 0, none⟩) 1 1) (HO : Bts base v L w) (hbase : base ≤ w.heap.size) (hl : L.length + 1 ≤ 140737488355328)
    (h : ∀ v1 w1, Bts base v1 L2 w1 → w.grownBy w1 v.ownBlock → wpList Tryd.prog ops Q rest (a.put o.dst v1) w1) :
    wpList Tryd.prog ops Q (o :: rest) a (w.alloc (.cells #[.int .u8 n] 5)) := by
  subst hn
  exact app_byte w base hgd s x ho v L L2 c hL2 hs hx HO hbase hl h
/-- append(b, []byte(s)...). -/
theorem app_str (W : World) (base : Nat) (hgd : o.guard = none) (s x : Operand) (ho : o.op = .call { callee := .builtin .append, args := #[s, x], argTypes := #[50, 50] })
    (v : Value) (L L2 : List UInt8) (y : ByteArray) (hL2 : L ++ y.data.toList = L2) (hs : a.eval s = v) (cap : Nat) (hx : a.eval x = .slice (some ⟨W.heap.size, 0, none⟩) y.size cap) (HO : Bts base v L W) (hbase : base ≤ W.heap.size) (hl : L.length + y.size ≤ 140737488355328)
    (h : ∀ v1 w1, Bts base v1 L2 w1 → W.grownBy w1 v.ownBlock → wpList Tryd.prog ops Q rest (a.put o.dst v1) w1) :
    wpList Tryd.prog ops Q (o :: rest) a (Lib.bytesWorld W 5 y) := by
  subst hL2
  obtain ⟨i0, hi, hz0, hz1, hz2⟩ := info_parts infoB
  refine wpList_append_own _ hgd s x 50 ho base 5 i0 (.int .u8 0) 1 1 Tryd.underlying50 hi hz0 hz1 hz2 rfl (by decide) v L.length (Lib.byteCells L) hs (own_conv HO y) ⟨W.heap.size, 0, none⟩ y.size cap (Lib.strCells y) hx ?c0 ?c1 ?c2 ?c3 ?c4 ?c5 ?_
  case c0 => rw [Lib.strCells_length]; omega
  case c1 => exact news_conv W 5 y
  case c2 => intro u hu; simp only [Lib.strCells, List.mem_map] at hu; obtain ⟨x, _, rfl⟩ := hu; rfl
  case c3 => unfold maxLen; omega
  case c4 => omega
  case c5 => rw [Lib.bytesWorld_size]; omega
  intro v1 w1 hown hg0 _
  refine h v1 w1 ?_ (grown_conv W 5 y hg0)
  unfold Bts
  rw [bts_app, List.length_append, ← Lib.size_eq]
  exact hown
end
/-- string(b). -/
theorem bts_text {base : Nat} {v : Value} {L : List UInt8} {W : World} (h : Bts base v L W) : (convert 50 9 v).run Tryd.prog W = .ok (.string ⟨L.toArray⟩) W := by
  rcases h.2 with ⟨rfl, h0⟩ | ⟨g, cap, cur, rfl, _⟩
  · obtain rfl := List.eq_nil_of_length_eq_zero h0
    kernel_rfl
  · refine run_convert_bytes_back (P := Tryd.prog) W 50 9 5 ⟨g, 0, none⟩ cap L Tryd.underlying50 Tryd.underlying5 Tryd.underlying9 (fun j hj => ?_)
    rw [add_plain]
    have := h.cells (g := g) rfl j (.int .u8 (L[j].toNat : Int)) (by simp [Lib.byteCells, List.getElem?_eq_getElem hj])
    simpa [add_plain] using this
theorem Bts.low {base : Nat} {v : Value} {L : List UInt8} {w W w1 : World} (h : Bts base v L W) (hB : Below w.heap.size w W) (hb : w.heap.size ≤ base) (hg : W.grownBy w1 v.ownBlock) : Below w.heap.size w w1 :=
  hB.grown hg hB.size (fun k hk => Nat.le_trans hb (own_base h k hk))
/-- The list so far, and all else as it was. -/
structure DS (w : World) (v : Value) (L : List UInt8) (W : World) : Prop where
  bts : Bts w.heap.size v L W
  low : Below w.heap.size w W
theorem DS.below {w : World} {v : Value} {L : List UInt8} {W W' : World} (h : DS w v L W) (hb : Below W.heap.size W W') : DS w v L W' := ⟨h.bts.below hb, bth h.low hb⟩
theorem DS.app {w : World} {v v1 : Value} {L L1 : List UInt8} {W w1 : World} (h : DS w v L W) (hb : Bts w.heap.size v1 L1 w1) (hg : W.grownBy w1 v.ownBlock) : DS w v1 L1 w1 := ⟨hb, h.bts.low h.low (Nat.le_refl _) hg⟩
end Go.Proofs.YtlicjpbmlmongaaDoor.C

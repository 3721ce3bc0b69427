/- []byte(s) of a string at this translation, and such a row appended. -/
import Derived.Test.YtlicjpbmlmongaaDoorProg
import Derived.Test.YtlicjpbmlmongaaDoorWMore
import Derived.Test.YtlicjpbmlmongaaDoorWWords
import Derived.Lib.ConvBytes
import Derived.Lib.AppendStr
import Derived.WalkKit
set_option linter.unusedVariables false
set_option linter.unusedSimpArgs false
namespace Go.Proofs.YtlicjpbmlmongaaDoorW.PrintWords
open Go.RowKit

theorem conv_str_bytes (W : World) (s : ByteArray) : (convert 9 50 (.string s)).run Tryd.prog W = .ok (.slice (some ⟨W.heap.size, 0, none⟩) s.size (grownCap W s.size 0 5)) (Lib.bytesWorld W 5 s) :=
  Lib.run_convert_string_bytes (P := Tryd.prog) W 9 50 5 s Tryd.underlying9 Tryd.underlying50 Tryd.underlying5
attribute [go_sem] conv_str_bytes

theorem byLess_tri : ∀ a b : List UInt8, (!(Op.bytesLess a b || a == b)) = Op.bytesLess b a
  | [], [] => rfl
  | _ :: _, [] => by simp [Op.bytesLess]
  | [], _ :: _ => by simp [Op.bytesLess]
  | a :: x, b :: y => by
    have ih := byLess_tri x y
    simp only [Op.bytesLess]
    rcases (show a < b ∨ a = b ∨ b < a by rcases Nat.lt_trichotomy a.toNat b.toNat with h | h | h; exact .inl (UInt8.lt_iff_toNat_lt.2 h); exact .inr (.inl (UInt8.toNat_inj.1 h)); exact .inr (.inr (UInt8.lt_iff_toNat_lt.2 h))) with h | h | h
    · have h2 : ¬ b < a := fun k => UInt8.lt_asymm h k
      have h3 : ¬ b = a := fun e => by subst e; exact UInt8.lt_irrefl _ h
      simp [h, h2, h3]
    · subst h
      have h2 : ¬ a < a := UInt8.lt_irrefl a
      simp only [h2, decide_false, Bool.false_or, beq_self_eq_true, Bool.true_and]
      rw [← ih]
      congr 2
      rw [Bool.eq_iff_iff]; simp
    · have h2 : ¬ a < b := fun k => UInt8.lt_asymm h k
      have h3 : ¬ a = b := fun e => by subst e; exact UInt8.lt_irrefl _ h
      simp [h, h2, h3]
theorem str_gtr (t : TypeId) (a b : ByteArray) : binOp .gtr t (.string a) (.string b) = pure (.bool (Op.bytesLess b.toList a.toList)) := by
  rw [← byLess_tri]; simp [binOp, Op.stringOp]
theorem str_geq (t : TypeId) (a b : ByteArray) : binOp .geq t (.string a) (.string b) = pure (.bool !(Op.bytesLess a.toList b.toList)) := by simp [binOp, Op.stringOp]
theorem str_leq (t : TypeId) (a b : ByteArray) : binOp .leq t (.string a) (.string b) = pure (.bool !(Op.bytesLess b.toList a.toList)) := by
  rw [← byLess_tri, Bool.not_not]; simp [binOp, Op.stringOp]
attribute [go_sem] str_gtr str_geq str_leq

theorem news_conv (W : World) (e : TypeId) (s : ByteArray) (j : Nat) (u : Value) (h : (Lib.strCells s)[j]? = some u) : (Lib.bytesWorld W e s).cell? ((⟨W.heap.size, 0, none⟩ : Addr).add j) = some u := by
  obtain ⟨hlt, hu⟩ := List.getElem?_eq_some_iff.1 h
  rw [Lib.strCells_length] at hlt
  rw [add_plain, Lib.bytesWorld_cell W e s j hlt, ← hu]
  have : s.data.toList.getD j 0 = s.data.toList[j]'(by rw [Array.length_toList]; exact hlt) := by
    rw [List.getD_eq_getElem?_getD, List.getElem?_eq_getElem (by rw [Array.length_toList]; exact hlt)]; rfl
  rw [this]
  simp [Lib.strCells]
theorem own_conv {W : World} {base e e' n size : Nat} {v : Value} {xs : List Value} (h : W.ownsRow base e size v n xs) (s : ByteArray) : (Lib.bytesWorld W e' s).ownsRow base e size v n xs :=
  own_move h (fun k hk => Lib.bytesWorld_at_old W e' s k (own_lt h k hk))
theorem grown_conv (W : World) (e : TypeId) (s : ByteArray) {w1 : World} {row : Option Nat} (h : (Lib.bytesWorld W e s).grownBy w1 row) : W.grownBy w1 row :=
  ⟨h.os, h.tape, h.output, by have := h.size; rw [Lib.bytesWorld_size] at this; omega, fun k hk hr => (h.block k (by rw [Lib.bytesWorld_size]; omega) hr).trans (Lib.bytesWorld_at_old W e s k hk)⟩

section
variable {P : Program} {ops : Array Oper} {rest : List Oper} {o : Oper} {a : Act} {Q : Exit → Act → World → Prop}
theorem print_append_conv {w0 W : World} (base : Nat) (hgd : o.guard = none) (s x : Operand) (t e : TypeId)
    (ho : o.op = .call { callee := .builtin .append, args := #[s, x], argTypes := #[t, t] })
    (ht : P.underlying t = some (.slice e)) (hinfo : (P.info? e).map (fun i => (i.zero, i.size, i.bytes)) = some (some (.int .u8 0), 1, 1))
    (v : Value) (xs : List Int) (y : ByteArray) (hs : a.eval s = v) (cap : Nat) (hx : a.eval x = .slice (some ⟨W.heap.size, 0, none⟩) y.size cap)
    (HO : W.ownsRow base e 1 v xs.length (nums .u8 xs)) (HB : Below base w0 W) (hbase : base ≤ W.heap.size) (hl : xs.length + y.size ≤ 140737488355328)
    (h : ∀ v1 w1, w1.ownsRow base e 1 v1 (xs ++ bytesOf y).length (nums .u8 (xs ++ bytesOf y)) → Below base w0 w1 → W.grownBy w1 v.ownBlock → wpList P ops Q rest (a.put o.dst v1) w1) :
    wpList P ops Q (o :: rest) a (Lib.bytesWorld W e y) := by
  obtain ⟨i0, hi, hzz⟩ := Option.map_eq_some_iff.1 hinfo
  simp only [Prod.mk.injEq] at hzz
  obtain ⟨hz0, hz1, hz2⟩ := hzz
  refine wpList_append_own _ hgd s x t ho base e i0 (.int .u8 0) 1 1 ht hi hz0 hz1 hz2 rfl (by decide) v xs.length (nums .u8 xs) hs (own_conv HO y) ⟨W.heap.size, 0, none⟩ y.size cap (Lib.strCells y) hx ?c0 ?c1 ?c2 ?c3 ?c4 ?c5 ?_
  case c0 => rw [Lib.strCells_length]; omega
  case c1 => exact news_conv W e y
  case c2 => intro u hu; simp only [Lib.strCells, List.mem_map] at hu; obtain ⟨x, _, rfl⟩ := hu; rfl
  case c3 => unfold maxLen; omega
  case c4 => omega
  case c5 => rw [Lib.bytesWorld_size]; omega
  intro v1 w1 hown hg0 _
  have hg := grown_conv W e y hg0
  have hl2 : (xs ++ bytesOf y).length = xs.length + y.size := by rw [List.length_append, bytesOf_length]
  have hc : nums .u8 (xs ++ bytesOf y) = nums .u8 xs ++ Lib.strCells y := by
    rw [nums_append]
    congr 1
    simp [nums, bytesOf, Lib.strCells]
  exact h v1 w1 (by rw [hl2, hc]; exact hown) (HB.grown hg hbase (own_base HO)) hg
end
end Go.Proofs.YtlicjpbmlmongaaDoorW.PrintWords

/- []byte(s) of a string at this translation, and such a row appended. -/
import Derived.Test.YtlicjpbmlmongaaGreatDoorProg
import Derived.Test.YtlicjpbmlmongaaGreatDoorWMore
import Derived.Test.YtlicjpbmlmongaaGreatDoorWWords
import Derived.Lib.ConvBytes
import Derived.Lib.AppendStr
import Derived.WalkKit
set_option linter.unusedVariables false
set_option linter.unusedSimpArgs false
namespace Go.Proofs.YtlicjpbmlmongaaGreatDoorW.PrintWords
open Go.RowKit
theorem conv_str_bytes (W : World) (s : ByteArray) : (convert 9 89 (.string s)).run Tryz.prog W = .ok (.slice (some ⟨W.heap.size, 0, none⟩) s.size (grownCap W s.size 0 5)) (Lib.bytesWorld W 5 s) :=
 Lib.run_convert_string_bytes (P := Tryz.prog) W 9 89 5 s Tryz.underlying9 Tryz.underlying89 Tryz.underlying5
attribute [go_sem] conv_str_bytes
theorem byLess_tri : ∀ a b : List UInt8, (!(Op.bytesLess a b || a == b)) = Op.bytesLess b a
 | [], [] => rfl
 | _ :: _, [] => by simp [Op.bytesLess]
 | [], _ :: _ => by simp [Op.bytesLess]
 | a :: x, b :: y => by
  have ih := byLess_tri x y
  simp only [Op.bytesLess]
  rcases (show a < b ∨ a = b ∨ b < a by rcases Nat.lt_trichotomy a.toNat b.toNat with h | h | h; exact .inl (UInt8.lt_iff_toNat_lt.2 h); exact .inr (.inl (UInt8.toNat_inj.1 h)); exact .inr (.inr (UInt8.lt_iff_toNat_lt.2 h))) with h | h | h
  ·have h2 : ¬ b < a := fun k => UInt8.lt_asymm h k
   have h3 : ¬ b = a := fun e => by subst e; exact UInt8.lt_irrefl _ h
   simp [h, h2, h3]
  ·subst h
   have h2 : ¬ a < a := UInt8.lt_irrefl a
   simp only [h2, decide_false, Bool.false_or, beq_self_eq_true, Bool.true_and]
   rw [← ih]
   congr 2
   rw [Bool.eq_iff_iff]; simp
  ·have h2 : ¬ a < b := fun k => UInt8.lt_asymm h k
   have h3 : ¬ a = b := fun e => by subst e; exact UInt8.lt_irrefl _ h
   simp [h, h2, h3]
theorem str_gtr (t : TypeId) (a b : ByteArray) : binOp .gtr t (.string a) (.string b) = pure (.bool (Op.bytesLess b.toList a.toList)) := by
 rw [← byLess_tri]; simp [binOp, Op.stringOp]
theorem str_geq (t : TypeId) (a b : ByteArray) : binOp .geq t (.string a) (.string b) = pure (.bool !(Op.bytesLess a.toList b.toList)) := by simp [binOp, Op.stringOp]
theorem str_leq (t : TypeId) (a b : ByteArray) : binOp .leq t (.string a) (.string b) = pure (.bool !(Op.bytesLess b.toList a.toList)) := by
 rw [← byLess_tri, Bool.not_not]; simp [binOp, Op.stringOp]
attribute [go_sem] str_gtr str_geq str_leq
section
variable {P : Program} {ops : Array Oper} {rest : List Oper} {o : Oper} {a : Act} {Q : Exit → Act → World → Prop}
end
end Go.Proofs.YtlicjpbmlmongaaGreatDoorW.PrintWords

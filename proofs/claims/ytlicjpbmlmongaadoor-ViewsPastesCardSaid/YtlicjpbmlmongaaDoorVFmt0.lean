/- Small words on texts. -/
import Derived.Test.YtlicjpbmlmongaaDoorShelf
import Derived.Test.YtlicjpbmlmongaaDoorHelp
import Derived.Test.YtlicjpbmlmongaaDoorConv
import Derived.WalkLawsBesides
import Derived.WalkSpells
import Derived.Outline
set_option linter.unusedVariables false
set_option linter.unusedSimpArgs false
namespace Go.Proofs.YtlicjpbmlmongaaDoor.Oct
open Go.RowKit Go.Proofs Go.Proofs.YtlicjpbmlmongaaDoor.H Go.Proofs.YtlicjpbmlmongaaDoorW.PrintWords

theorem bt_size (a : List UInt8) : (⟨a.toArray⟩ : ByteArray).size = a.length := by rw [Lib.size_eq]
theorem bt_app (a b : List UInt8) : (⟨a.toArray⟩ : ByteArray) ++ (⟨b.toArray⟩ : ByteArray) = ⟨(a ++ b).toArray⟩ := by
  apply ByteArray.ext
  rw [ByteArray.data_append]
  simp
theorem bt_add (a b : List UInt8) (t : TypeId) (h : a.length + b.length ≤ 9223372036854775807) : binOp .add t (.string ⟨a.toArray⟩) (.string ⟨b.toArray⟩) = pure (.string ⟨(a ++ b).toArray⟩) := by
  have h1 : ¬ (9223372036854775807 : Int) < ((⟨a.toArray⟩ : ByteArray).size : Int) + ((⟨b.toArray⟩ : ByteArray).size : Int) := by rw [bt_size, bt_size]; omega
  rw [← bt_app]
  simp [binOp, Op.stringOp, h1]
end Go.Proofs.YtlicjpbmlmongaaDoor.Oct

-- Written by a program (forkprint, a turn of the kit's print) out of the translation.
import Derived.Test.YtiibaggpaabfcaaDoorProg
import Derived.Below
import Derived.Deep.Draws
import Derived.Deep.AppendLies
import Derived.Maps.AppendAt
import Derived.OwnWalk
import Derived.Laws.BytesArg
import Derived.Laws.MakeOwn
import Derived.Laws.OwnMore
import Derived.Deep.OwnRows
import Derived.Tactics
import Derived.Lib.ConvBytes
import Derived.Laws.Slices
import Derived.WalkKit
import Derived.KernelRfl
import Derived.RowKit3
import Derived.Deep.LoopGhost
import Derived.Deep.QuietTactic
import Derived.BigQuiet
import Derived.WideLaws
import Derived.Deep.DeepCutAuto
import Derived.Deep.CutBlock
import Derived.Deep.RegionHeld3
import Derived.Laws.Rows
import Derived.Lib.AppendStr
import Derived.ArgAppend
import Derived.Laws.IdiomCopy
import Derived.OrdersHeld
import Derived.Laws.BitsLemmas
import Derived.RowKit
import Derived.Test.YtiibaggpaabfcaaDoorWWords
import Derived.Test.YtiibaggpaabfcaaDoorWLast
import Derived.Test.YtiibaggpaabfcaaDoorWTab
import Derived.Test.YtiibaggpaabfcaaDoorWFour
import Derived.Test.YtiibaggpaabfcaaDoorWQPut
import Derived.Test.YtiibaggpaabfcaaDoorWApart
import Derived.Test.YtiibaggpaabfcaaDoorWArr
import Derived.Test.YtiibaggpaabfcaaDoorWZeros
import Derived.Test.YtiibaggpaabfcaaDoorWFoot
import Derived.Test.YtiibaggpaabfcaaDoorWKept
import Derived.Test.YtiibaggpaabfcaaDoorWShare
import Derived.Test.YtiibaggpaabfcaaDoorWN
import Derived.Test.YtiibaggpaabfcaaDoorWFootNe
import Derived.Test.YtiibaggpaabfcaaDoorWAt
import Derived.Test.YtiibaggpaabfcaaDoorWEqStruct
import Derived.Test.YtiibaggpaabfcaaDoorWRepsOne
import Derived.Test.YtiibaggpaabfcaaDoorWInv
import Derived.Test.YtiibaggpaabfcaaDoorWInvWords
import Derived.Test.YtiibaggpaabfcaaDoorWGuard
import Derived.Test.YtiibaggpaabfcaaDoorWNEv
import Derived.Test.YtiibaggpaabfcaaDoorWMore
namespace Go.Proofs.YtiibaggpaabfcaaDoor.Q
open Go.RowKit Go.Proofs.YtiibaggpaabfcaaDoorW.PrintWords Go.Proofs.YtiibaggpaabfcaaDoorW.PrintLast Go.Proofs.YtiibaggpaabfcaaDoorW.PrintMore
attribute [local go_sem] max2_int min2_int max_two min_two max_three min_three max_four min_four   -- for this text's walks alone
set_option linter.unusedVariables false
set_option linter.unusedSimpArgs false



def errW : Option Int → Value
  | none => .nilIface
  | some c => .iface 0 (.int .i64 c)
theorem errW_none : errW none = .nilIface := rfl
theorem errW_some (c : Int) : errW (some c) = .iface 0 (.int .i64 c) := rfl

theorem info9 : (Tryd.prog.info? 9).map (fun i => (i.zero, i.size, i.bytes)) = some (some (.string ⟨#[]⟩), 1, 16) := by kernel_rfl
-- the values' own types

end Go.Proofs.YtiibaggpaabfcaaDoor.Q

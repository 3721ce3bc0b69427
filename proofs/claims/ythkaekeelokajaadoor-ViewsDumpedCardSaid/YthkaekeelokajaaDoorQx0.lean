-- Written by a program (forkprint, a turn of the kit's print) out of the translation.
import Derived.Test.YthkaekeelokajaaDoorProg
import Derived.Below
import Derived.Deep.Draws
import Derived.Deep.AppendLies
import Derived.Maps.AppendAt
import Derived.OwnWalk
import Derived.Laws.BytesArg
import Derived.Laws.MakeOwn
import Derived.Laws.OwnMore
import Derived.Deep.OwnRows
import Derived.Tactics
import Derived.Lib.ConvBytes
import Derived.Laws.Slices
import Derived.WalkKit
import Derived.KernelRfl
import Derived.RowKit3
import Derived.Deep.LoopGhost
import Derived.Deep.QuietTactic
import Derived.BigQuiet
import Derived.WideLaws
import Derived.Deep.DeepCutAuto
import Derived.Deep.CutBlock
import Derived.Deep.RegionHeld3
import Derived.Laws.Rows
import Derived.Lib.AppendStr
import Derived.ArgAppend
import Derived.Laws.IdiomCopy
import Derived.OrdersHeld
import Derived.Laws.BitsLemmas
import Derived.RowKit
import Derived.Test.YthkaekeelokajaaDoorWWords
import Derived.Test.YthkaekeelokajaaDoorWLast
import Derived.Test.YthkaekeelokajaaDoorWTab
import Derived.Test.YthkaekeelokajaaDoorWFour
import Derived.Test.YthkaekeelokajaaDoorWQPut
import Derived.Test.YthkaekeelokajaaDoorWApart
import Derived.Test.YthkaekeelokajaaDoorWArr
import Derived.Test.YthkaekeelokajaaDoorWZeros
import Derived.Test.YthkaekeelokajaaDoorWFoot
import Derived.Test.YthkaekeelokajaaDoorWKept
import Derived.Test.YthkaekeelokajaaDoorWShare
import Derived.Test.YthkaekeelokajaaDoorWN
import Derived.Test.YthkaekeelokajaaDoorWFootNe
import Derived.Test.YthkaekeelokajaaDoorWAt
import Derived.Test.YthkaekeelokajaaDoorWEqStruct
import Derived.Test.YthkaekeelokajaaDoorWRepsOne
import Derived.Test.YthkaekeelokajaaDoorWInv
import Derived.Test.YthkaekeelokajaaDoorWInvWords
import Derived.Test.YthkaekeelokajaaDoorWGuard
import Derived.Test.YthkaekeelokajaaDoorWNEv
import Derived.Test.YthkaekeelokajaaDoorWMore
namespace Go.Proofs.YthkaekeelokajaaDoor.Q
open Go.RowKit Go.Proofs.YthkaekeelokajaaDoorW.PrintWords Go.Proofs.YthkaekeelokajaaDoorW.PrintLast Go.Proofs.YthkaekeelokajaaDoorW.PrintMore
attribute [local go_sem] max2_int min2_int max_two min_two max_three min_three max_four min_four   -- for this text's walks alone
set_option linter.unusedVariables false
set_option linter.unusedSimpArgs false



def errW : Option Int → Value
  | none => .nilIface
  | some c => .iface 0 (.int .i64 c)
theorem errW_none : errW none = .nilIface := rfl
theorem errW_some (c : Int) : errW (some c) = .iface 0 (.int .i64 c) := rfl

-- the values' own types

end Go.Proofs.YthkaekeelokajaaDoor.Q

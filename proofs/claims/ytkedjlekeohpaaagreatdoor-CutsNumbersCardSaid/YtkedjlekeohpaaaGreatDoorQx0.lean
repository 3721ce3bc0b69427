-- Written by a program (forkprint, a turn of the kit's print) out of the translation.
import Derived.Test.YtkedjlekeohpaaaGreatDoorProg
import Derived.Below
import Derived.Deep.Draws
import Derived.Deep.AppendLies
import Derived.Maps.AppendAt
import Derived.OwnWalk
import Derived.Laws.BytesArg
import Derived.Laws.MakeOwn
import Derived.Laws.OwnMore
import Derived.Deep.OwnRows
import Derived.Tactics
import Derived.Lib.ConvBytes
import Derived.Laws.Slices
import Derived.WalkKit
import Derived.KernelRfl
import Derived.RowKit3
import Derived.Deep.LoopGhost
import Derived.Deep.QuietTactic
import Derived.BigQuiet
import Derived.WideLaws
import Derived.Deep.DeepCutAuto
import Derived.Deep.CutBlock
import Derived.Deep.RegionHeld3
import Derived.Laws.Rows
import Derived.Lib.AppendStr
import Derived.ArgAppend
import Derived.Laws.IdiomCopy
import Derived.OrdersHeld
import Derived.Laws.BitsLemmas
import Derived.RowKit
import Derived.Test.YtkedjlekeohpaaaGreatDoorWWords
import Derived.Test.YtkedjlekeohpaaaGreatDoorWLast
import Derived.Test.YtkedjlekeohpaaaGreatDoorWTab
import Derived.Test.YtkedjlekeohpaaaGreatDoorWFour
import Derived.Test.YtkedjlekeohpaaaGreatDoorWQPut
import Derived.Test.YtkedjlekeohpaaaGreatDoorWApart
import Derived.Test.YtkedjlekeohpaaaGreatDoorWArr
import Derived.Test.YtkedjlekeohpaaaGreatDoorWZeros
import Derived.Test.YtkedjlekeohpaaaGreatDoorWFoot
import Derived.Test.YtkedjlekeohpaaaGreatDoorWKept
import Derived.Test.YtkedjlekeohpaaaGreatDoorWShare
import Derived.Test.YtkedjlekeohpaaaGreatDoorWN
import Derived.Test.YtkedjlekeohpaaaGreatDoorWFootNe
import Derived.Test.YtkedjlekeohpaaaGreatDoorWAt
import Derived.Test.YtkedjlekeohpaaaGreatDoorWEqStruct
import Derived.Test.YtkedjlekeohpaaaGreatDoorWRepsOne
import Derived.Test.YtkedjlekeohpaaaGreatDoorWInv
import Derived.Test.YtkedjlekeohpaaaGreatDoorWInvWords
import Derived.Test.YtkedjlekeohpaaaGreatDoorWGuard
import Derived.Test.YtkedjlekeohpaaaGreatDoorWNEv
import Derived.Test.YtkedjlekeohpaaaGreatDoorWMore
namespace Go.Proofs.YtkedjlekeohpaaaGreatDoor.Q
open Go.RowKit Go.Proofs.YtkedjlekeohpaaaGreatDoorW.PrintWords Go.Proofs.YtkedjlekeohpaaaGreatDoorW.PrintLast Go.Proofs.YtkedjlekeohpaaaGreatDoorW.PrintMore
attribute [local go_sem] max2_int min2_int max_two min_two max_three min_three max_four min_four   -- for this text's walks alone
set_option linter.unusedVariables false
set_option linter.unusedSimpArgs false



def errW : Option Int → Value
  | none => .nilIface
  | some c => .iface 0 (.int .i64 c)
theorem errW_none : errW none = .nilIface := rfl
theorem errW_some (c : Int) : errW (some c) = .iface 0 (.int .i64 c) := rfl

theorem info9 : (Tryz.prog.info? 9).map (fun i => (i.zero, i.size, i.bytes)) = some (some (.string ⟨#[]⟩), 1, 16) := by kernel_rfl
-- the values' own types

end Go.Proofs.YtkedjlekeohpaaaGreatDoor.Q

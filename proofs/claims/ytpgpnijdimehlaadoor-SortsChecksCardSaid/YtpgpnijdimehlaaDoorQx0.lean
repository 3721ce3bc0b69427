-- Written by a program (forkprint, a turn of the kit's print) out of the translation.
import Derived.Test.YtpgpnijdimehlaaDoorProg
import Derived.Below
import Derived.Deep.Draws
import Derived.Deep.AppendLies
import Derived.Maps.AppendAt
import Derived.OwnWalk
import Derived.Laws.BytesArg
import Derived.Laws.MakeOwn
import Derived.Laws.OwnMore
import Derived.Deep.OwnRows
import Derived.Tactics
import Derived.Lib.ConvBytes
import Derived.Laws.Slices
import Derived.WalkKit
import Derived.KernelRfl
import Derived.RowKit3
import Derived.Deep.LoopGhost
import Derived.Deep.QuietTactic
import Derived.BigQuiet
import Derived.WideLaws
import Derived.Deep.DeepCutAuto
import Derived.Deep.CutBlock
import Derived.Deep.RegionHeld3
import Derived.Laws.Rows
import Derived.Lib.AppendStr
import Derived.ArgAppend
import Derived.Laws.IdiomCopy
import Derived.OrdersHeld
import Derived.Laws.BitsLemmas
import Derived.RowKit
import Derived.Test.YtpgpnijdimehlaaDoorWWords
import Derived.Test.YtpgpnijdimehlaaDoorWLast
import Derived.Test.YtpgpnijdimehlaaDoorWTab
import Derived.Test.YtpgpnijdimehlaaDoorWFour
import Derived.Test.YtpgpnijdimehlaaDoorWQPut
import Derived.Test.YtpgpnijdimehlaaDoorWApart
import Derived.Test.YtpgpnijdimehlaaDoorWArr
import Derived.Test.YtpgpnijdimehlaaDoorWZeros
import Derived.Test.YtpgpnijdimehlaaDoorWFoot
import Derived.Test.YtpgpnijdimehlaaDoorWKept
import Derived.Test.YtpgpnijdimehlaaDoorWShare
import Derived.Test.YtpgpnijdimehlaaDoorWN
import Derived.Test.YtpgpnijdimehlaaDoorWFootNe
import Derived.Test.YtpgpnijdimehlaaDoorWAt
import Derived.Test.YtpgpnijdimehlaaDoorWEqStruct
import Derived.Test.YtpgpnijdimehlaaDoorWRepsOne
import Derived.Test.YtpgpnijdimehlaaDoorWInv
import Derived.Test.YtpgpnijdimehlaaDoorWInvWords
import Derived.Test.YtpgpnijdimehlaaDoorWGuard
import Derived.Test.YtpgpnijdimehlaaDoorWNEv
import Derived.Test.YtpgpnijdimehlaaDoorWMore
namespace Go.Proofs.YtpgpnijdimehlaaDoor.Q
open Go.RowKit Go.Proofs.YtpgpnijdimehlaaDoorW.PrintWords Go.Proofs.YtpgpnijdimehlaaDoorW.PrintLast Go.Proofs.YtpgpnijdimehlaaDoorW.PrintMore
attribute [local go_sem] max2_int min2_int max_two min_two max_three min_three max_four min_four   -- for this text's walks alone
set_option linter.unusedVariables false
set_option linter.unusedSimpArgs false



def errW : Option Int → Value
  | none => .nilIface
  | some c => .iface 0 (.int .i64 c)
theorem errW_none : errW none = .nilIface := rfl
theorem errW_some (c : Int) : errW (some c) = .iface 0 (.int .i64 c) := rfl

theorem info9 : (Tryd.prog.info? 9).map (fun i => (i.zero, i.size, i.bytes)) = some (some (.string ⟨#[]⟩), 1, 16) := by kernel_rfl
-- the values' own types
/-! #### struct type 196 -/
structure S196 where
  f0 : Int
  f1 : ByteArray
  f2 : ByteArray
def z196 : S196 := ⟨(0 : Int), (⟨#[]⟩ : ByteArray), (⟨#[]⟩ : ByteArray)⟩
def k196 : Kd S196 := Kd.iso (Kd.pair (Kd.int .i64) (Kd.pair Kd.string Kd.string)) (fun x : S196 => (x.f0, x.f1, x.f2))
def rd_T196 (xs : List S196) (i : Int) : S196 := xs.getD i.toNat z196
/-! #### struct type 54 -/
structure S54 where
  f0 : Bool
  f1 : Bool
  f2 : Bool
  f3 : Bool
  f4 : Int
  f5 : Int
  f6 : Int
def z54 : S54 := ⟨false, false, false, false, (0 : Int), (0 : Int), (0 : Int)⟩
def k54 : Kd S54 := Kd.iso (Kd.pair Kd.bool (Kd.pair Kd.bool (Kd.pair Kd.bool (Kd.pair Kd.bool (Kd.pair (Kd.int .i64) (Kd.pair (Kd.int .i64) (Kd.int .u8))))))) (fun x : S54 => (x.f0, x.f1, x.f2, x.f3, x.f4, x.f5, x.f6))
def rd_T54 (xs : List S54) (i : Int) : S54 := xs.getD i.toNat z54
/-! #### struct type 33 -/
structure S33 where
  f0 : ByteArray
  f1 : Int
def z33 : S33 := ⟨(⟨#[]⟩ : ByteArray), (0 : Int)⟩
def k33 : Kd S33 := Kd.iso (Kd.pair Kd.string (Kd.int .i64)) (fun x : S33 => (x.f0, x.f1))
def rd_T33 (xs : List S33) (i : Int) : S33 := xs.getD i.toNat z33
end Go.Proofs.YtpgpnijdimehlaaDoor.Q

-- Laid by a program of this session that drives the kit's printer with switches of its own: it is no text of the print.
import Derived.Test.YtnidklakgdmkeaaProg
import Derived.Below
import Derived.Deep.Draws
import Derived.Deep.AppendLies
import Derived.Maps.AppendAt
import Derived.OwnWalk
import Derived.Laws.BytesArg
import Derived.Laws.MakeOwn
import Derived.Laws.OwnMore
import Derived.Deep.OwnRows
import Derived.Tactics
import Derived.Lib.ConvBytes
import Derived.Laws.Slices
import Derived.WalkKit
import Derived.KernelRfl
import Derived.RowKit3
import Derived.Deep.LoopGhost
import Derived.Deep.QuietTactic
import Derived.BigQuiet
import Derived.WideLaws
import Derived.Deep.DeepCutAuto
import Derived.Deep.CutBlock
import Derived.Deep.RegionHeld3
import Derived.Laws.Rows
import Derived.Lib.AppendStr
import Derived.ArgAppend
import Derived.Laws.IdiomCopy
import Derived.OrdersHeld
import Derived.Laws.BitsLemmas
import Derived.RowKit
import Derived.Test.YtnidklakgdmkeaaWWords
import Derived.Test.YtnidklakgdmkeaaWLast
import Derived.Test.YtnidklakgdmkeaaWTab
import Derived.Test.YtnidklakgdmkeaaWFour
import Derived.Test.YtnidklakgdmkeaaWQPut
import Derived.Test.YtnidklakgdmkeaaWApart
import Derived.Test.YtnidklakgdmkeaaWArr
import Derived.Test.YtnidklakgdmkeaaWZeros
import Derived.Test.YtnidklakgdmkeaaWFoot
import Derived.Test.YtnidklakgdmkeaaWKept
import Derived.Test.YtnidklakgdmkeaaWShare
import Derived.Test.YtnidklakgdmkeaaWN
import Derived.Test.YtnidklakgdmkeaaWFootNe
import Derived.Test.YtnidklakgdmkeaaWAt
import Derived.Test.YtnidklakgdmkeaaWEqStruct
import Derived.Test.YtnidklakgdmkeaaWRepsOne
import Derived.Test.YtnidklakgdmkeaaWInv
import Derived.Test.YtnidklakgdmkeaaWInvWords
import Derived.Test.YtnidklakgdmkeaaWGuard
import Derived.Test.YtnidklakgdmkeaaWNEv
import Derived.Test.YtnidklakgdmkeaaWMore
namespace Go.Proofs.Ytnidklakgdmkeaa.PFnSigns
open Go.RowKit Go.Proofs.YtnidklakgdmkeaaW.PrintWords Go.Proofs.YtnidklakgdmkeaaW.PrintLast Go.Proofs.YtnidklakgdmkeaaW.PrintMore
attribute [local go_sem] max2_int min2_int max_two min_two max_three min_three max_four min_four   -- for this text's walks alone
set_option linter.unusedVariables false
set_option linter.unusedSimpArgs false



def errW : Option Int → Value
  | none => .nilIface
  | some c => .iface 0 (.int .i64 c)
theorem errW_none : errW none = .nilIface := rfl
theorem errW_some (c : Int) : errW (some c) = .iface 0 (.int .i64 c) := rfl

theorem info2 : (Try.prog.info? 2).map (fun i => (i.zero, i.size, i.bytes)) = some (some (.int .i64 0), 1, 8) := by kernel_rfl
theorem info5 : (Try.prog.info? 5).map (fun i => (i.zero, i.size, i.bytes)) = some (some (.int .u8 0), 1, 1) := by kernel_rfl
-- the values' own types

end Go.Proofs.Ytnidklakgdmkeaa.PFnSigns

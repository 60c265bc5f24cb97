-- Laid by a program of this session that drives the kit's printer with switches of its own: it is no text of the print.
import Derived.Test.YtpeipalgpbkagaaProg
import Derived.Below
import Derived.Deep.Draws
import Derived.Deep.AppendLies
import Derived.Maps.AppendAt
import Derived.OwnWalk
import Derived.Laws.BytesArg
import Derived.Laws.MakeOwn
import Derived.Laws.OwnMore
import Derived.Deep.OwnRows
import Derived.Tactics
import Derived.Lib.ConvBytes
import Derived.Laws.Slices
import Derived.WalkKit
import Derived.KernelRfl
import Derived.RowKit3
import Derived.Deep.LoopGhost
import Derived.Deep.QuietTactic
import Derived.BigQuiet
import Derived.WideLaws
import Derived.Deep.DeepCutAuto
import Derived.Deep.CutBlock
import Derived.Deep.RegionHeld3
import Derived.Laws.Rows
import Derived.Lib.AppendStr
import Derived.ArgAppend
import Derived.Laws.IdiomCopy
import Derived.OrdersHeld
import Derived.Laws.BitsLemmas
import Derived.RowKit
import Derived.Test.YtpeipalgpbkagaaWWords
import Derived.Test.YtpeipalgpbkagaaWLast
import Derived.Test.YtpeipalgpbkagaaWTab
import Derived.Test.YtpeipalgpbkagaaWFour
import Derived.Test.YtpeipalgpbkagaaWQPut
import Derived.Test.YtpeipalgpbkagaaWApart
import Derived.Test.YtpeipalgpbkagaaWArr
import Derived.Test.YtpeipalgpbkagaaWZeros
import Derived.Test.YtpeipalgpbkagaaWFoot
import Derived.Test.YtpeipalgpbkagaaWKept
import Derived.Test.YtpeipalgpbkagaaWShare
import Derived.Test.YtpeipalgpbkagaaWN
import Derived.Test.YtpeipalgpbkagaaWFootNe
import Derived.Test.YtpeipalgpbkagaaWAt
import Derived.Test.YtpeipalgpbkagaaWEqStruct
import Derived.Test.YtpeipalgpbkagaaWRepsOne
import Derived.Test.YtpeipalgpbkagaaWInv
import Derived.Test.YtpeipalgpbkagaaWInvWords
import Derived.Test.YtpeipalgpbkagaaWGuard
import Derived.Test.YtpeipalgpbkagaaWNEv
import Derived.Test.YtpeipalgpbkagaaWMore
namespace Go.Proofs.Ytpeipalgpbkagaa.PFnRadius
open Go.RowKit Go.Proofs.YtpeipalgpbkagaaW.PrintWords Go.Proofs.YtpeipalgpbkagaaW.PrintLast Go.Proofs.YtpeipalgpbkagaaW.PrintMore
attribute [local go_sem] max2_int min2_int max_two min_two max_three min_three max_four min_four   -- for this text's walks alone
set_option linter.unusedVariables false
set_option linter.unusedSimpArgs false



def errW : Option Int → Value
  | none => .nilIface
  | some c => .iface 0 (.int .i64 c)
theorem errW_none : errW none = .nilIface := rfl
theorem errW_some (c : Int) : errW (some c) = .iface 0 (.int .i64 c) := rfl

theorem info2 : (Try.prog.info? 2).map (fun i => (i.zero, i.size, i.bytes)) = some (some (.int .i64 0), 1, 8) := by kernel_rfl
-- the values' own types

end Go.Proofs.Ytpeipalgpbkagaa.PFnRadius

-- by wip/xprint.py: printed out of the translation by this session's program.
import Derived.Test.YtkcemdfhhdjdaaaDoorProg
import Derived.Below
import Derived.Deep.Draws
import Derived.Deep.AppendLies
import Derived.Maps.AppendAt
import Derived.OwnWalk
import Derived.Laws.BytesArg
import Derived.Laws.MakeOwn
import Derived.Laws.OwnMore
import Derived.Deep.OwnRows
import Derived.Tactics
import Derived.Lib.ConvBytes
import Derived.Laws.Slices
import Derived.WalkKit
import Derived.KernelRfl
import Derived.RowKit3
import Derived.Deep.LoopGhost
import Derived.Deep.QuietTactic
import Derived.BigQuiet
import Derived.WideLaws
import Derived.Deep.DeepCutAuto
import Derived.Deep.CutBlock
import Derived.Deep.RegionHeld3
import Derived.Laws.Rows
import Derived.Lib.AppendStr
import Derived.ArgAppend
import Derived.Laws.IdiomCopy
import Derived.OrdersHeld
import Derived.Laws.BitsLemmas
import Derived.RowKit
import Derived.Test.YtkcemdfhhdjdaaaDoorExt1
import Derived.Test.YtkcemdfhhdjdaaaDoorWWords
import Derived.Test.YtkcemdfhhdjdaaaDoorWLast
import Derived.Test.YtkcemdfhhdjdaaaDoorWTab
import Derived.Test.YtkcemdfhhdjdaaaDoorWFour
import Derived.Test.YtkcemdfhhdjdaaaDoorWQPut
import Derived.Test.YtkcemdfhhdjdaaaDoorWApart
import Derived.Test.YtkcemdfhhdjdaaaDoorWArr
import Derived.Test.YtkcemdfhhdjdaaaDoorWZeros
import Derived.Test.YtkcemdfhhdjdaaaDoorWFoot
import Derived.Test.YtkcemdfhhdjdaaaDoorWKept
import Derived.Test.YtkcemdfhhdjdaaaDoorWShare
import Derived.Test.YtkcemdfhhdjdaaaDoorWN
import Derived.Test.YtkcemdfhhdjdaaaDoorWFootNe
import Derived.Test.YtkcemdfhhdjdaaaDoorWAt
import Derived.Test.YtkcemdfhhdjdaaaDoorWEqStruct
import Derived.Test.YtkcemdfhhdjdaaaDoorWRepsOne
import Derived.Test.YtkcemdfhhdjdaaaDoorWInv
import Derived.Test.YtkcemdfhhdjdaaaDoorWInvWords
import Derived.Test.YtkcemdfhhdjdaaaDoorWGuard
import Derived.Test.YtkcemdfhhdjdaaaDoorWNEv
import Derived.Test.YtkcemdfhhdjdaaaDoorWMore
namespace Go.Proofs.YtkcemdfhhdjdaaaDoor.B
open Go.RowKit Go.Proofs.YtkcemdfhhdjdaaaDoor.Ext Go.Proofs.YtkcemdfhhdjdaaaDoorW.PrintWords Go.Proofs.YtkcemdfhhdjdaaaDoorW.PrintLast Go.Proofs.YtkcemdfhhdjdaaaDoorW.PrintMore
attribute [local go_sem] max2_int min2_int max_two min_two max_three min_three max_four min_four   -- for this text's walks alone
set_option linter.unusedVariables false
set_option linter.unusedSimpArgs false



def errW : Option Int → Value
  | none => .nilIface
  | some c => .iface 0 (.int .i64 c)
theorem errW_none : errW none = .nilIface := rfl
theorem errW_some (c : Int) : errW (some c) = .iface 0 (.int .i64 c) := rfl

theorem info5 : (Tryd.prog.info? 5).map (fun i => (i.zero, i.size, i.bytes)) = some (some (.int .u8 0), 1, 1) := by kernel_rfl
theorem info9 : (Tryd.prog.info? 9).map (fun i => (i.zero, i.size, i.bytes)) = some (some (.string ⟨#[]⟩), 1, 16) := by kernel_rfl
-- the values' own types

end Go.Proofs.YtkcemdfhhdjdaaaDoor.B

-- by wip/xprint.py: printed out of the translation by this session's program.
import Derived.Test.YtnangnnflmdjbaaDoorProg
import Derived.Below
import Derived.Deep.Draws
import Derived.Deep.AppendLies
import Derived.Maps.AppendAt
import Derived.OwnWalk
import Derived.Laws.BytesArg
import Derived.Laws.MakeOwn
import Derived.Laws.OwnMore
import Derived.Deep.OwnRows
import Derived.Tactics
import Derived.Lib.ConvBytes
import Derived.Laws.Slices
import Derived.WalkKit
import Derived.KernelRfl
import Derived.RowKit3
import Derived.Deep.LoopGhost
import Derived.Deep.QuietTactic
import Derived.BigQuiet
import Derived.WideLaws
import Derived.Deep.DeepCutAuto
import Derived.Deep.CutBlock
import Derived.Deep.RegionHeld3
import Derived.Laws.Rows
import Derived.Lib.AppendStr
import Derived.ArgAppend
import Derived.Laws.IdiomCopy
import Derived.OrdersHeld
import Derived.Laws.BitsLemmas
import Derived.RowKit
import Derived.Test.YtnangnnflmdjbaaDoorJoin
import Derived.Test.YtnangnnflmdjbaaDoorWWords
import Derived.Test.YtnangnnflmdjbaaDoorWLast
import Derived.Test.YtnangnnflmdjbaaDoorWTab
import Derived.Test.YtnangnnflmdjbaaDoorWFour
import Derived.Test.YtnangnnflmdjbaaDoorWQPut
import Derived.Test.YtnangnnflmdjbaaDoorWApart
import Derived.Test.YtnangnnflmdjbaaDoorWArr
import Derived.Test.YtnangnnflmdjbaaDoorWZeros
import Derived.Test.YtnangnnflmdjbaaDoorWFoot
import Derived.Test.YtnangnnflmdjbaaDoorWKept
import Derived.Test.YtnangnnflmdjbaaDoorWShare
import Derived.Test.YtnangnnflmdjbaaDoorWN
import Derived.Test.YtnangnnflmdjbaaDoorWFootNe
import Derived.Test.YtnangnnflmdjbaaDoorWAt
import Derived.Test.YtnangnnflmdjbaaDoorWEqStruct
import Derived.Test.YtnangnnflmdjbaaDoorWRepsOne
import Derived.Test.YtnangnnflmdjbaaDoorWInv
import Derived.Test.YtnangnnflmdjbaaDoorWInvWords
import Derived.Test.YtnangnnflmdjbaaDoorWGuard
import Derived.Test.YtnangnnflmdjbaaDoorWNEv
import Derived.Test.YtnangnnflmdjbaaDoorWMore
namespace Go.Proofs.YtnangnnflmdjbaaDoor.P
open Go.RowKit Go.Proofs.YtnangnnflmdjbaaDoor.Ext Go.Proofs.YtnangnnflmdjbaaDoorW.PrintWords Go.Proofs.YtnangnnflmdjbaaDoorW.PrintLast Go.Proofs.YtnangnnflmdjbaaDoorW.PrintMore
attribute [local go_sem] max2_int min2_int max_two min_two max_three min_three max_four min_four   -- for this text's walks alone
set_option linter.unusedVariables false
set_option linter.unusedSimpArgs false



def errW : Option Int → Value
  | none => .nilIface
  | some c => .iface 0 (.int .i64 c)
theorem errW_none : errW none = .nilIface := rfl
theorem errW_some (c : Int) : errW (some c) = .iface 0 (.int .i64 c) := rfl

theorem info9 : (Tryd.prog.info? 9).map (fun i => (i.zero, i.size, i.bytes)) = some (some (.string ⟨#[]⟩), 1, 16) := by kernel_rfl
-- the values' own types

end Go.Proofs.YtnangnnflmdjbaaDoor.P

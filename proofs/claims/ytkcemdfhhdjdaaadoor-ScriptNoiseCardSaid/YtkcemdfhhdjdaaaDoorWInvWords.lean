-- what this claim's texts reach of the words that the kit's print laid for this seat (cut by wip/prune.py)
import Derived.Test.YtkcemdfhhdjdaaaDoorWInv
import Derived.Test.YtkcemdfhhdjdaaaDoorWFootNe
namespace Go.Proofs.YtkcemdfhhdjdaaaDoorW.PrintWords
open Go.RowKit
end Go.Proofs.YtkcemdfhhdjdaaaDoorW.PrintWords
namespace Go.Proofs.YtkcemdfhhdjdaaaDoorW.PrintLast
section
variable {ops : Array Oper} {a : Act} {o og : Oper} {g : Nat} {t : Tmp} {u : Bool}
end
end Go.Proofs.YtkcemdfhhdjdaaaDoorW.PrintLast

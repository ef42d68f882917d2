-- what this claim's texts reach of the words that the kit's print laid for this seat (cut by wip/prune.py)
import Derived.Test.YtkcemdfhhdjdaaaDoorWTab
namespace Go.Proofs.YtkcemdfhhdjdaaaDoorW.PrintLast
section
variable {P : Program} {ops : Array Oper} {Q : Exit → Act → World → Prop} {md : Region.Mode} {S : World → Prop} {ds : List Nat} {T : Bool × List (List Nat × List Nat)}
end
end Go.Proofs.YtkcemdfhhdjdaaaDoorW.PrintLast

-- what this claim's texts reach of the words that the kit's print laid for this seat (cut by wip/prune.py)
import Derived.SizedLaws
import Derived.ChangeSlices
namespace Go.Proofs.YtkcemdfhhdjdaaaDoorW.PrintWords
open Go.ChangeShapes Go.WideShapes
end Go.Proofs.YtkcemdfhhdjdaaaDoorW.PrintWords

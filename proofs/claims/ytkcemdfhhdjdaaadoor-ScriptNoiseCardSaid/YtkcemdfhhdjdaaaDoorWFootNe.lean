-- what this claim's texts reach of the words that the kit's print laid for this seat (cut by wip/prune.py)
import Derived.Test.YtkcemdfhhdjdaaaDoorWN
namespace Go.Proofs.YtkcemdfhhdjdaaaDoorW.PrintWords
open Go.RowKit
namespace Kd
section
variable {α : Type} {d : Kd α} {W : World} {g n : Nat} {S ok : Nat → Prop} {A : Option Addr} {ad : Addr} {xs : List α}
end
end Kd
end Go.Proofs.YtkcemdfhhdjdaaaDoorW.PrintWords

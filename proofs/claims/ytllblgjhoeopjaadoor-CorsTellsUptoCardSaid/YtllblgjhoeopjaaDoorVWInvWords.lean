-- Out of YtllblgjhoeopjaaDoorWInvWords, which the kit's print or shelf wrote: what this claim uses of it (wip/myprint/vclaim.py). Lean checks it.
import Derived.Test.YtllblgjhoeopjaaDoorVWInv
import Derived.Test.YtllblgjhoeopjaaDoorVWFootNe
namespace Go.Proofs.YtllblgjhoeopjaaDoorW.PrintWords
open Go.RowKit
end Go.Proofs.YtllblgjhoeopjaaDoorW.PrintWords
namespace Go.Proofs.YtllblgjhoeopjaaDoorW.PrintLast
section
variable {ops : Array Oper} {a : Act} {o og : Oper} {g : Nat} {t : Tmp} {u : Bool}
end
end Go.Proofs.YtllblgjhoeopjaaDoorW.PrintLast

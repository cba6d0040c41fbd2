-- Out of YtekmgbeaoojdcaaDoorWInvWords, which the kit's print or shelf wrote: what this claim uses of it (wip/myprint/vclaim.py). Lean checks it.
import Derived.Test.YtekmgbeaoojdcaaDoorVWInv
import Derived.Test.YtekmgbeaoojdcaaDoorVWFootNe
namespace Go.Proofs.YtekmgbeaoojdcaaDoorW.PrintWords
open Go.RowKit
end Go.Proofs.YtekmgbeaoojdcaaDoorW.PrintWords
namespace Go.Proofs.YtekmgbeaoojdcaaDoorW.PrintLast
section
variable {ops : Array Oper} {a : Act} {o og : Oper} {g : Nat} {t : Tmp} {u : Bool}
end
end Go.Proofs.YtekmgbeaoojdcaaDoorW.PrintLast

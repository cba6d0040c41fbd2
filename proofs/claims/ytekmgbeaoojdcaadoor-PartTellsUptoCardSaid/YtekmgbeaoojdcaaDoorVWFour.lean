-- Out of YtekmgbeaoojdcaaDoorWFour, which the kit's print or shelf wrote: what this claim uses of it (wip/myprint/vclaim.py). Lean checks it.
import Derived.Test.YtekmgbeaoojdcaaDoorVWTab
/-! ### 56. Four, five, six operations that may come up next, in any order -/
namespace Go.Proofs.YtekmgbeaoojdcaaDoorW.PrintLast
section
variable {P : Program} {ops : Array Oper} {Q : Exit → Act → World → Prop} {md : Region.Mode} {S : World → Prop} {ds : List Nat} {T : Bool × List (List Nat × List Nat)}
end
end Go.Proofs.YtekmgbeaoojdcaaDoorW.PrintLast

-- Out of YtllblgjhoeopjaaDoorWEqStruct, which the kit's print or shelf wrote: what this claim uses of it (wip/myprint/vclaim.py). Lean checks it.
import Derived.Test.YtllblgjhoeopjaaDoorVWWords
import Derived.Laws.StructEq
/-! ### 53. '==' of structs as_ one Bool -/
namespace Go.Proofs.YtllblgjhoeopjaaDoorW.PrintWords
open Go.RowKit
section
variable {P : Program} {d : Nat} {xs ys : Array Value} {f : Field} {fs : List Field} {a b : Value} {r s : Bool} {w : World}
end
end Go.Proofs.YtllblgjhoeopjaaDoorW.PrintWords

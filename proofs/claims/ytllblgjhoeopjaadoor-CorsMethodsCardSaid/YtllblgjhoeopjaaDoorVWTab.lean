-- Out of YtllblgjhoeopjaaDoorWTab, which the kit's print or shelf wrote: what this claim uses of it (wip/myprint/vclaim.py). Lean checks it.
import Derived.Test.YtllblgjhoeopjaaDoorVWLast
import Derived.Test.YtllblgjhoeopjaaDoorVWWords
/-! ### 50. A region's order in a table, made once a region: each step asks the table (numbers alone), not the operations -/
namespace Go.Proofs.YtllblgjhoeopjaaDoorW.PrintLast
open Go.Proofs.YtllblgjhoeopjaaDoorW.PrintWords (Aside0)
section
variable {md : Region.Mode} {ops : Array Oper} {T : Bool × List (List Nat × List Nat)} {l l' li lj lk : Array Bool} {ds : List Nat} {i j k : Nat}
end
end Go.Proofs.YtllblgjhoeopjaaDoorW.PrintLast

-- Made by this session's changed copy of the kit's printer (wip/myprint). Not trusted: Lean checks it.
import Derived.Test.YtllblgjhoeopjaaDoorProg
import Derived.Below
import Derived.Deep.Draws
import Derived.Deep.AppendLies
import Derived.Maps.AppendAt
import Derived.OwnWalk
import Derived.Laws.BytesArg
import Derived.Laws.MakeOwn
import Derived.Laws.OwnMore
import Derived.Deep.OwnRows
import Derived.Tactics
import Derived.Lib.ConvBytes
import Derived.Laws.Slices
import Derived.WalkKit
import Derived.KernelRfl
import Derived.RowKit3
import Derived.Deep.LoopGhost
import Derived.Deep.QuietTactic
import Derived.BigQuiet
import Derived.WideLaws
import Derived.Deep.DeepCutAuto
import Derived.Deep.CutBlock
import Derived.Deep.RegionHeld3
import Derived.Laws.Rows
import Derived.Lib.AppendStr
import Derived.ArgAppend
import Derived.Laws.IdiomCopy
import Derived.OrdersHeld
import Derived.Laws.BitsLemmas
import Derived.RowKit
import Derived.Test.YtllblgjhoeopjaaDoorVWWords
import Derived.Test.YtllblgjhoeopjaaDoorVWLast
import Derived.Test.YtllblgjhoeopjaaDoorVWTab
import Derived.Test.YtllblgjhoeopjaaDoorVWFour
import Derived.Test.YtllblgjhoeopjaaDoorVWQPut
import Derived.Test.YtllblgjhoeopjaaDoorVWApart
import Derived.Test.YtllblgjhoeopjaaDoorVWArr
import Derived.Test.YtllblgjhoeopjaaDoorVWZeros
import Derived.Test.YtllblgjhoeopjaaDoorVWFoot
import Derived.Test.YtllblgjhoeopjaaDoorVWKept
import Derived.Test.YtllblgjhoeopjaaDoorVWShare
import Derived.Test.YtllblgjhoeopjaaDoorVWN
import Derived.Test.YtllblgjhoeopjaaDoorVWFootNe
import Derived.Test.YtllblgjhoeopjaaDoorVWAt
import Derived.Test.YtllblgjhoeopjaaDoorVWEqStruct
import Derived.Test.YtllblgjhoeopjaaDoorVWRepsOne
import Derived.Test.YtllblgjhoeopjaaDoorVWInv
import Derived.Test.YtllblgjhoeopjaaDoorVWInvWords
import Derived.Test.YtllblgjhoeopjaaDoorVWGuard
import Derived.Test.YtllblgjhoeopjaaDoorVWNEv
import Derived.Test.YtllblgjhoeopjaaDoorVWMore
import Derived.Test.YtllblgjhoeopjaaDoorVGPrex0
namespace Go.Proofs.YtllblgjhoeopjaaDoor.GUnsafe
open Go.RowKit Go.Proofs.YtllblgjhoeopjaaDoor.GPre  Go.Proofs.YtllblgjhoeopjaaDoorW.PrintWords Go.Proofs.YtllblgjhoeopjaaDoorW.PrintLast Go.Proofs.YtllblgjhoeopjaaDoorW.PrintMore
attribute [local go_sem] max2_int min2_int max_two min_two max_three min_three max_four min_four   -- for this text's walks alone
set_option linter.unusedVariables false
set_option linter.unusedSimpArgs false



def errW : Option Int → Value
  | none => .nilIface
  | some c => .iface 0 (.int .i64 c)
theorem errW_none : errW none = .nilIface := rfl
theorem errW_some (c : Int) : errW (some c) = .iface 0 (.int .i64 c) := rfl

-- the values' own types
/-! #### struct type 27 -/

end Go.Proofs.YtllblgjhoeopjaaDoor.GUnsafe

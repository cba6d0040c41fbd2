-- Made by this session's changed copy of the kit's printer (wip/myprint). Not trusted: Lean checks it.
import Derived.Test.YtekmgbeaoojdcaaDoorVGPartTellsx0
import Derived.Test.YtekmgbeaoojdcaaDoorVGPartTellsx1
import Derived.Test.YtekmgbeaoojdcaaDoorVGPartTellsx2
import Derived.Test.YtekmgbeaoojdcaaDoorVGPartTellsx3
import Derived.Test.YtekmgbeaoojdcaaDoorVGPartTellsx4
import Derived.Test.YtekmgbeaoojdcaaDoorVGPartTellsx5
import Derived.Test.YtekmgbeaoojdcaaDoorVGPartTellsx6
import Derived.Test.YtekmgbeaoojdcaaDoorVGPartTellsx7
namespace Go.Proofs.YtekmgbeaoojdcaaDoor.GPartTells
open Go.RowKit  Go.Proofs.YtekmgbeaoojdcaaDoorW.PrintWords Go.Proofs.YtekmgbeaoojdcaaDoorW.PrintLast Go.Proofs.YtekmgbeaoojdcaaDoorW.PrintMore
attribute [local go_sem] max2_int min2_int max_two min_two max_three min_three max_four min_four   -- for this text's walks alone
set_option linter.unusedVariables false
set_option linter.unusedSimpArgs false

end Go.Proofs.YtekmgbeaoojdcaaDoor.GPartTells

-- Made by this session's changed copy of the kit's printer (wip/myprint). Not trusted: Lean checks it.
import Derived.Test.YtllblgjhoeopjaaDoorVGReplyFormsx0
import Derived.Test.YtllblgjhoeopjaaDoorVGReplyFormsx1
import Derived.Test.YtllblgjhoeopjaaDoorVGReplyFormsx2
import Derived.Test.YtllblgjhoeopjaaDoorVGReplyFormsx3
import Derived.Test.YtllblgjhoeopjaaDoorVGReplyFormsx4
import Derived.Test.YtllblgjhoeopjaaDoorVGReplyFormsx5
import Derived.Test.YtllblgjhoeopjaaDoorVGReplyFormsx6
namespace Go.Proofs.YtllblgjhoeopjaaDoor.GReplyForms
open Go.RowKit  Go.Proofs.YtllblgjhoeopjaaDoorW.PrintWords Go.Proofs.YtllblgjhoeopjaaDoorW.PrintLast Go.Proofs.YtllblgjhoeopjaaDoorW.PrintMore
attribute [local go_sem] max2_int min2_int max_two min_two max_three min_three max_four min_four   -- for this text's walks alone
set_option linter.unusedVariables false
set_option linter.unusedSimpArgs false

end Go.Proofs.YtllblgjhoeopjaaDoor.GReplyForms

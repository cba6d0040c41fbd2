-- Made by this session's changed copy of the kit's printer (wip/myprint). Not trusted: Lean checks it.
import Derived.Test.YtllblgjhoeopjaaDoorVGReplyTellsx0
import Derived.Test.YtllblgjhoeopjaaDoorVGReplyTellsx1
import Derived.Test.YtllblgjhoeopjaaDoorVGReplyTellsx2
import Derived.Test.YtllblgjhoeopjaaDoorVGReplyTellsx3
import Derived.Test.YtllblgjhoeopjaaDoorVGReplyTellsx4
import Derived.Test.YtllblgjhoeopjaaDoorVGReplyTellsx5
import Derived.Test.YtllblgjhoeopjaaDoorVGReplyTellsx6
import Derived.Test.YtllblgjhoeopjaaDoorVGReplyTellsx7
import Derived.Test.YtllblgjhoeopjaaDoorVGReplyTellsx8
import Derived.Test.YtllblgjhoeopjaaDoorVGReplyTellsx9
import Derived.Test.YtllblgjhoeopjaaDoorVGReplyTellsx10
import Derived.Test.YtllblgjhoeopjaaDoorVGReplyTellsx11
import Derived.Test.YtllblgjhoeopjaaDoorVGReplyTellsx12
namespace Go.Proofs.YtllblgjhoeopjaaDoor.GReplyTells
open Go.RowKit  Go.Proofs.YtllblgjhoeopjaaDoorW.PrintWords Go.Proofs.YtllblgjhoeopjaaDoorW.PrintLast Go.Proofs.YtllblgjhoeopjaaDoorW.PrintMore
attribute [local go_sem] max2_int min2_int max_two min_two max_three min_three max_four min_four   -- for this text's walks alone
set_option linter.unusedVariables false
set_option linter.unusedSimpArgs false

end Go.Proofs.YtllblgjhoeopjaaDoor.GReplyTells

-- Made by this session's changed copy of the kit's printer (wip/myprint). Not trusted: Lean checks it.
import Derived.Test.YtiabjeeelgkneaaDoorGReplyCutsx0
import Derived.Test.YtiabjeeelgkneaaDoorGReplyCutsx1
import Derived.Test.YtiabjeeelgkneaaDoorGReplyCutsx2
import Derived.Test.YtiabjeeelgkneaaDoorGReplyCutsx3
import Derived.Test.YtiabjeeelgkneaaDoorGReplyCutsx4
import Derived.Test.YtiabjeeelgkneaaDoorGReplyCutsx5
namespace Go.Proofs.YtiabjeeelgkneaaDoor.GReplyCuts
open Go.RowKit  Go.Proofs.YtiabjeeelgkneaaDoorW.PrintWords Go.Proofs.YtiabjeeelgkneaaDoorW.PrintLast Go.Proofs.YtiabjeeelgkneaaDoorW.PrintMore
attribute [local go_sem] max2_int min2_int max_two min_two max_three min_three max_four min_four   -- for this text's walks alone
set_option linter.unusedVariables false
set_option linter.unusedSimpArgs false

end Go.Proofs.YtiabjeeelgkneaaDoor.GReplyCuts

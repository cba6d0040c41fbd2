-- Made by this session's changed copy of the kit's printer (wip/myprint). Not trusted: Lean checks it.
import Derived.Test.YtiabjeeelgkneaaDoorGPartFormsx0
import Derived.Test.YtiabjeeelgkneaaDoorGPartFormsx1
import Derived.Test.YtiabjeeelgkneaaDoorGPartFormsx2
import Derived.Test.YtiabjeeelgkneaaDoorGPartFormsx3
namespace Go.Proofs.YtiabjeeelgkneaaDoor.GPartForms
open Go.RowKit  Go.Proofs.YtiabjeeelgkneaaDoorW.PrintWords Go.Proofs.YtiabjeeelgkneaaDoorW.PrintLast Go.Proofs.YtiabjeeelgkneaaDoorW.PrintMore
attribute [local go_sem] max2_int min2_int max_two min_two max_three min_three max_four min_four   -- for this text's walks alone
set_option linter.unusedVariables false
set_option linter.unusedSimpArgs false

end Go.Proofs.YtiabjeeelgkneaaDoor.GPartForms

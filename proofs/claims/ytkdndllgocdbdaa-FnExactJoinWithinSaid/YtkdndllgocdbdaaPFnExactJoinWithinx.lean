-- Written by this session's program myprint.py over the kit's print and its own texts; Lean checks it.
import Derived.Test.YtkdndllgocdbdaaPFnExactJoinWithinx0
import Derived.Test.YtkdndllgocdbdaaPFnExactJoinWithinx1
import Derived.Test.YtkdndllgocdbdaaPFnExactJoinWithinx2
import Derived.Test.YtkdndllgocdbdaaPFnExactJoinWithinx3
import Derived.Test.YtkdndllgocdbdaaPFnExactJoinWithinx4
import Derived.Test.YtkdndllgocdbdaaPFnExactJoinWithinx5
import Derived.Test.YtkdndllgocdbdaaPFnExactJoinWithinx6
import Derived.Test.YtkdndllgocdbdaaPFnExactJoinWithinx7
namespace Go.Proofs.Ytkdndllgocdbdaa.PFnExactJoinWithin
open Go.RowKit Go.Proofs.YtkdndllgocdbdaaW.PrintWords Go.Proofs.YtkdndllgocdbdaaW.PrintLast Go.Proofs.YtkdndllgocdbdaaW.PrintMore
attribute [local go_sem] max2_int min2_int max_two min_two max_three min_three max_four min_four   -- for this text's walks alone
set_option linter.unusedVariables false
set_option linter.unusedSimpArgs false

end Go.Proofs.Ytkdndllgocdbdaa.PFnExactJoinWithin

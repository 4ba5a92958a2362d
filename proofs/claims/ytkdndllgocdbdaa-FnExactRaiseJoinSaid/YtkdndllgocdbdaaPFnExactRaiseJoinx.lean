-- Written by this session's program myprint.py over the kit's print and its own texts; Lean checks it.
import Derived.Test.YtkdndllgocdbdaaPFnExactRaiseJoinx0
import Derived.Test.YtkdndllgocdbdaaPFnExactRaiseJoinx1
import Derived.Test.YtkdndllgocdbdaaPFnExactRaiseJoinx2
import Derived.Test.YtkdndllgocdbdaaPFnExactRaiseJoinx3
import Derived.Test.YtkdndllgocdbdaaPFnExactRaiseJoinx4
import Derived.Test.YtkdndllgocdbdaaPFnExactRaiseJoinx5
import Derived.Test.YtkdndllgocdbdaaPFnExactRaiseJoinx6
import Derived.Test.YtkdndllgocdbdaaPFnExactRaiseJoinx7
import Derived.Test.YtkdndllgocdbdaaPFnExactRaiseJoinx8
namespace Go.Proofs.Ytkdndllgocdbdaa.PFnExactRaiseJoin
open Go.RowKit Go.Proofs.YtkdndllgocdbdaaW.PrintWords Go.Proofs.YtkdndllgocdbdaaW.PrintLast Go.Proofs.YtkdndllgocdbdaaW.PrintMore
attribute [local go_sem] max2_int min2_int max_two min_two max_three min_three max_four min_four   -- for this text's walks alone
set_option linter.unusedVariables false
set_option linter.unusedSimpArgs false

end Go.Proofs.Ytkdndllgocdbdaa.PFnExactRaiseJoin

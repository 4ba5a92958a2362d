-- Written by this session's program myprint.py over the kit's print and its own texts; Lean checks it.
import Derived.Test.YthacciliemgilaaPFnExactAtMostx0
import Derived.Test.YthacciliemgilaaPFnExactAtMostx1
import Derived.Test.YthacciliemgilaaPFnExactAtMostx2
import Derived.Test.YthacciliemgilaaPFnExactAtMostx3
import Derived.Test.YthacciliemgilaaPFnExactAtMostx4
namespace Go.Proofs.Ythacciliemgilaa.PFnExactAtMost
open Go.RowKit Go.Proofs.YthacciliemgilaaW.PrintWords Go.Proofs.YthacciliemgilaaW.PrintLast Go.Proofs.YthacciliemgilaaW.PrintMore
attribute [local go_sem] max2_int min2_int max_two min_two max_three min_three max_four min_four   -- for this text's walks alone
set_option linter.unusedVariables false
set_option linter.unusedSimpArgs false

end Go.Proofs.Ythacciliemgilaa.PFnExactAtMost

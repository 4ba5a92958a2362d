-- Written by this session's program myprint.py over the kit's print and its own texts; Lean checks it.
import Derived.Test.YthacciliemgilaaPFnExactAtLeastx0
import Derived.Test.YthacciliemgilaaPFnExactAtLeastx1
import Derived.Test.YthacciliemgilaaPFnExactAtLeastx2
import Derived.Test.YthacciliemgilaaPFnExactAtLeastx3
import Derived.Test.YthacciliemgilaaPFnExactAtLeastx4
namespace Go.Proofs.Ythacciliemgilaa.PFnExactAtLeast
open Go.RowKit Go.Proofs.YthacciliemgilaaW.PrintWords Go.Proofs.YthacciliemgilaaW.PrintLast Go.Proofs.YthacciliemgilaaW.PrintMore
attribute [local go_sem] max2_int min2_int max_two min_two max_three min_three max_four min_four   -- for this text's walks alone
set_option linter.unusedVariables false
set_option linter.unusedSimpArgs false

end Go.Proofs.Ythacciliemgilaa.PFnExactAtLeast

-- Written by this session's program myprint.py over the kit's print and its own texts; Lean checks it.
import Derived.Test.YthacciliemgilaaPFnExactSureOverx0
import Derived.Test.YthacciliemgilaaPFnExactSureOverx1
import Derived.Test.YthacciliemgilaaPFnExactSureOverx2
import Derived.Test.YthacciliemgilaaPFnExactSureOverx3
import Derived.Test.YthacciliemgilaaPFnExactSureOverx4
import Derived.Test.YthacciliemgilaaPFnExactSureOverx5
import Derived.Test.YthacciliemgilaaPFnExactSureOverx6
import Derived.Test.YthacciliemgilaaPFnExactSureOverx7
namespace Go.Proofs.Ythacciliemgilaa.PFnExactSureOver
open Go.RowKit Go.Proofs.YthacciliemgilaaW.PrintWords Go.Proofs.YthacciliemgilaaW.PrintLast Go.Proofs.YthacciliemgilaaW.PrintMore
attribute [local go_sem] max2_int min2_int max_two min_two max_three min_three max_four min_four   -- for this text's walks alone
set_option linter.unusedVariables false
set_option linter.unusedSimpArgs false

end Go.Proofs.Ythacciliemgilaa.PFnExactSureOver

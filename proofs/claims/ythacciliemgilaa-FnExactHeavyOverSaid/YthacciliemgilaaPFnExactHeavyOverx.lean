-- Written by this session's program myprint.py over the kit's print and its own texts; Lean checks it.
import Derived.Test.YthacciliemgilaaPFnExactHeavyOverx0
import Derived.Test.YthacciliemgilaaPFnExactHeavyOverx1
import Derived.Test.YthacciliemgilaaPFnExactHeavyOverx2
import Derived.Test.YthacciliemgilaaPFnExactHeavyOverx3
import Derived.Test.YthacciliemgilaaPFnExactHeavyOverx4
import Derived.Test.YthacciliemgilaaPFnExactHeavyOverx5
import Derived.Test.YthacciliemgilaaPFnExactHeavyOverx6
import Derived.Test.YthacciliemgilaaPFnExactHeavyOverx7
namespace Go.Proofs.Ythacciliemgilaa.PFnExactHeavyOver
open Go.RowKit Go.Proofs.YthacciliemgilaaW.PrintWords Go.Proofs.YthacciliemgilaaW.PrintLast Go.Proofs.YthacciliemgilaaW.PrintMore
attribute [local go_sem] max2_int min2_int max_two min_two max_three min_three max_four min_four   -- for this text's walks alone
set_option linter.unusedVariables false
set_option linter.unusedSimpArgs false

end Go.Proofs.Ythacciliemgilaa.PFnExactHeavyOver

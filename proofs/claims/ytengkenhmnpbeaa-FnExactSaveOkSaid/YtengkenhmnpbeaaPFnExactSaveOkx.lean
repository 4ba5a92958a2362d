-- Written by this session's program myprint.py over the kit's print and its own texts; Lean checks it.
import Derived.Test.YtengkenhmnpbeaaPFnExactSaveOkx0
import Derived.Test.YtengkenhmnpbeaaPFnExactSaveOkx1
import Derived.Test.YtengkenhmnpbeaaPFnExactSaveOkx2
import Derived.Test.YtengkenhmnpbeaaPFnExactSaveOkx3
import Derived.Test.YtengkenhmnpbeaaPFnExactSaveOkx4
import Derived.Test.YtengkenhmnpbeaaPFnExactSaveOkx5
import Derived.Test.YtengkenhmnpbeaaPFnExactSaveOkx6
namespace Go.Proofs.Ytengkenhmnpbeaa.PFnExactSaveOk
open Go.RowKit Go.Proofs.YtengkenhmnpbeaaW.PrintWords Go.Proofs.YtengkenhmnpbeaaW.PrintLast Go.Proofs.YtengkenhmnpbeaaW.PrintMore
attribute [local go_sem] max2_int min2_int max_two min_two max_three min_three max_four min_four   -- for this text's walks alone
set_option linter.unusedVariables false
set_option linter.unusedSimpArgs false

end Go.Proofs.Ytengkenhmnpbeaa.PFnExactSaveOk

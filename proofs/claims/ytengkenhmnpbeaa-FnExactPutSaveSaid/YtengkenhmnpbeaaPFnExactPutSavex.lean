-- Written by this session's program myprint.py over the kit's print and its own texts; Lean checks it.
import Derived.Test.YtengkenhmnpbeaaPFnExactPutSavex0
import Derived.Test.YtengkenhmnpbeaaPFnExactPutSavex1
import Derived.Test.YtengkenhmnpbeaaPFnExactPutSavex2
import Derived.Test.YtengkenhmnpbeaaPFnExactPutSavex3
import Derived.Test.YtengkenhmnpbeaaPFnExactPutSavex4
import Derived.Test.YtengkenhmnpbeaaPFnExactPutSavex5
import Derived.Test.YtengkenhmnpbeaaPFnExactPutSavex6
import Derived.Test.YtengkenhmnpbeaaPFnExactPutSavex7
import Derived.Test.YtengkenhmnpbeaaPFnExactPutSavex8
import Derived.Test.YtengkenhmnpbeaaPFnExactPutSavex9
namespace Go.Proofs.Ytengkenhmnpbeaa.PFnExactPutSave
open Go.RowKit Go.Proofs.YtengkenhmnpbeaaW.PrintWords Go.Proofs.YtengkenhmnpbeaaW.PrintLast Go.Proofs.YtengkenhmnpbeaaW.PrintMore
attribute [local go_sem] max2_int min2_int max_two min_two max_three min_three max_four min_four   -- for this text's walks alone
set_option linter.unusedVariables false
set_option linter.unusedSimpArgs false

end Go.Proofs.Ytengkenhmnpbeaa.PFnExactPutSave

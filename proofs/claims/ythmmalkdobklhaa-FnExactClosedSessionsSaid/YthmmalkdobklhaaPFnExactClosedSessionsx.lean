-- Written by this session's program myprint.py over the kit's print and its own texts; Lean checks it.
import Derived.Test.YthmmalkdobklhaaPFnExactClosedSessionsx0
import Derived.Test.YthmmalkdobklhaaPFnExactClosedSessionsx1
import Derived.Test.YthmmalkdobklhaaPFnExactClosedSessionsx2
import Derived.Test.YthmmalkdobklhaaPFnExactClosedSessionsx3
namespace Go.Proofs.Ythmmalkdobklhaa.PFnExactClosedSessions
open Go.RowKit Go.Proofs.YthmmalkdobklhaaW.PrintWords Go.Proofs.YthmmalkdobklhaaW.PrintLast Go.Proofs.YthmmalkdobklhaaW.PrintMore
attribute [local go_sem] max2_int min2_int max_two min_two max_three min_three max_four min_four   -- for this text's walks alone
set_option linter.unusedVariables false
set_option linter.unusedSimpArgs false

end Go.Proofs.Ythmmalkdobklhaa.PFnExactClosedSessions

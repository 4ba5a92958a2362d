/- FnExactNewJoin: the program's NewJoin makes a join with nothing in it as the reference does. -/
import Derived.Test.YtichhhmfihhplaaPFnExactNewJoinx3
import Derived.Test.YtichhhmfihhplaaKit
namespace Go.Proofs.Ytichhhmfihhplaa.Pure
open Go.RowKit Go.Proofs.Ytichhhmfihhplaa.PFnExactNewJoin Go.Proofs.YtichhhmfihhplaaW.PrintWords Go.Proofs.YtichhhmfihhplaaW.PrintLast Go.Proofs.Ytichhhmfihhplaa.Kit
set_option linter.unusedVariables false
set_option linter.unusedSimpArgs false

theorem FnExactNewJoin : laws_FnExactNewJoin.Pure := ⟨8, by decide +kernel⟩
end Go.Proofs.Ytichhhmfihhplaa.Pure

import Derived.Test.YtmllbjonjpbbkaaUp
import Derived.Test.YtmllbjonjpbbkaaPSa
import Derived.Test.YtmllbjonjpbbkaaPTy
namespace Go.Proofs.Ytmllbjonjpbbkaa.C
open Go.RowKit Go.Proofs.YtmllbjonjpbbkaaW Go.Proofs.YtmllbjonjpbbkaaW.PrintWords Go.Proofs.Ytmllbjonjpbbkaa.U
set_option maxHeartbeats 1000000
set_option maxRecDepth 100000
set_option linter.unusedVariables false
set_option linter.unusedSimpArgs false
instance : TSave Try.prog 60 92 := ⟨trivial⟩
end Go.Proofs.Ytmllbjonjpbbkaa.C

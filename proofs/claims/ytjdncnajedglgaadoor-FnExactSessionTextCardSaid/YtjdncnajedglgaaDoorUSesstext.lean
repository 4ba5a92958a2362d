import Derived.Test.YtjdncnajedglgaaDoorUp
import Derived.Test.YtjdncnajedglgaaDoorUText
import Derived.Test.YtjdncnajedglgaaDoorUSess
namespace Go.Proofs.YtjdncnajedglgaaDoor.C
open Go.RowKit Go.Proofs.YtjdncnajedglgaaDoorW Go.Proofs.YtjdncnajedglgaaDoorW.PrintWords Go.Proofs.YtjdncnajedglgaaDoor.U
set_option maxHeartbeats 1000000
set_option maxRecDepth 100000
set_option linter.unusedVariables false
set_option linter.unusedSimpArgs false
def sessT (s : Session) : ByteArray := strL (numT s.key) ++ ⟨#[64]⟩ ++ strL (numT s.frm) ++ ⟨#[45]⟩ ++ strL (numT s.till) ++ ⟨#[58]⟩ ++ strL (numT s.count) ++ ⟨#[32]⟩ ++ strL (numT s.sum)
def sessS (s : Session) : ByteArray := if okSess s then sessT s else ⟨#[]⟩
end Go.Proofs.YtjdncnajedglgaaDoor.C

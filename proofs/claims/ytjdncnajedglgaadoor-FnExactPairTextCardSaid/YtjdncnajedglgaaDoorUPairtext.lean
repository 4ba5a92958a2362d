import Derived.Test.YtjdncnajedglgaaDoorUp
import Derived.Test.YtjdncnajedglgaaDoorUText
namespace Go.Proofs.YtjdncnajedglgaaDoor.C
open Go.RowKit Go.Proofs.YtjdncnajedglgaaDoorW Go.Proofs.YtjdncnajedglgaaDoorW.PrintWords Go.Proofs.YtjdncnajedglgaaDoor.U
set_option maxHeartbeats 1000000
set_option maxRecDepth 100000
set_option linter.unusedVariables false
set_option linter.unusedSimpArgs false
def pairS (p : Pair) : ByteArray := strL (numT p.key) ++ ⟨#[58]⟩ ++ strL (numT p.lt) ++ ⟨#[61]⟩ ++ strL (numT p.left) ++ ⟨#[126]⟩ ++ strL (numT p.rt) ++ ⟨#[61]⟩ ++ strL (numT p.right)
def I64 (n : Int) : Prop := -9223372036854775808 ≤ n ∧ n ≤ 9223372036854775807
end Go.Proofs.YtjdncnajedglgaaDoor.C

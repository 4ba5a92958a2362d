-- Written by this session's program myprint.py over the kit's print and its own texts; Lean checks it.
import Derived.Test.YtichhhmfihhplaaProg
import Derived.Below
import Derived.Deep.Draws
import Derived.Deep.AppendLies
import Derived.Maps.AppendAt
import Derived.OwnWalk
import Derived.Laws.BytesArg
import Derived.Laws.MakeOwn
import Derived.Laws.OwnMore
import Derived.Deep.OwnRows
import Derived.Tactics
import Derived.Lib.ConvBytes
import Derived.Laws.Slices
import Derived.WalkKit
import Derived.KernelRfl
import Derived.RowKit3
import Derived.Deep.LoopGhost
import Derived.Deep.QuietTactic
import Derived.BigQuiet
import Derived.WideLaws
import Derived.Deep.DeepCutAuto
import Derived.Deep.CutBlock
import Derived.Deep.RegionHeld3
import Derived.Laws.Rows
import Derived.Lib.AppendStr
import Derived.ArgAppend
import Derived.Laws.IdiomCopy
import Derived.OrdersHeld
import Derived.Laws.BitsLemmas
import Derived.RowKit
import Derived.Test.YtichhhmfihhplaaWWords
import Derived.Test.YtichhhmfihhplaaWLast
import Derived.Test.YtichhhmfihhplaaWTab
import Derived.Test.YtichhhmfihhplaaWFour
import Derived.Test.YtichhhmfihhplaaWQPut
import Derived.Test.YtichhhmfihhplaaWApart
import Derived.Test.YtichhhmfihhplaaWArr
import Derived.Test.YtichhhmfihhplaaWZeros
import Derived.Test.YtichhhmfihhplaaWFoot
import Derived.Test.YtichhhmfihhplaaWKept
import Derived.Test.YtichhhmfihhplaaWShare
import Derived.Test.YtichhhmfihhplaaWN
import Derived.Test.YtichhhmfihhplaaWFootNe
import Derived.Test.YtichhhmfihhplaaWAt
import Derived.Test.YtichhhmfihhplaaWEqStruct
import Derived.Test.YtichhhmfihhplaaWRepsOne
import Derived.Test.YtichhhmfihhplaaWInv
import Derived.Test.YtichhhmfihhplaaWInvWords
import Derived.Test.YtichhhmfihhplaaWGuard
import Derived.Test.YtichhhmfihhplaaWNEv
import Derived.Test.YtichhhmfihhplaaWMore
namespace Go.Proofs.Ytichhhmfihhplaa.PFnExactSlidesOf
open Go.RowKit Go.Proofs.YtichhhmfihhplaaW.PrintWords Go.Proofs.YtichhhmfihhplaaW.PrintLast Go.Proofs.YtichhhmfihhplaaW.PrintMore
attribute [local go_sem] max2_int min2_int max_two min_two max_three min_three max_four min_four   -- for this text's walks alone
set_option linter.unusedVariables false
set_option linter.unusedSimpArgs false



def errW : Option Int → Value
  | none => .nilIface
  | some c => .iface 0 (.int .i64 c)
theorem errW_none : errW none = .nilIface := rfl
theorem errW_some (c : Int) : errW (some c) = .iface 0 (.int .i64 c) := rfl

theorem info3 : (Try.prog.info? 3).map (fun i => (i.zero, i.size, i.bytes)) = some (some (.int .i64 0), 1, 8) := by kernel_rfl
-- the values' own types

end Go.Proofs.Ytichhhmfihhplaa.PFnExactSlidesOf

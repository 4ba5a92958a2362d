/-
  No cell of these rows narrows 'for every input' (looked for: loops, veiled, ifaces, maps, wideKeys, modest, calm, conditions, laid).
  DERIVED. THE GIVEN ROWS OF THIS SEAT. 6 by the template 'for every input the law returns true; each argument reads behind the call as it read before'; 0 by the template 'total and deterministic' (their statements: YtichhhmfihhplaaTotals.lean).
  GIVEN WITH THE SEED: the statements are not yours to turn. If you find one false, say at which input.
  Laid BY PROGRAM, IN A SANDBOX (cutbox-rows.mjs): the forced cells as the released guide's own fill.sh prints them over the translation e22617947289c4d8… (all of the seat's roots in one cut). By AI agents, Wed Nov 11 2026. No macro, syntax, notation, axiom, sorry.
-/
import Derived.Test.YtichhhmfihhplaaChecked
import GoSem.Claim
import GoSem.ClaimJoined
import GoSem.ClaimMapViews
import Derived.JoinedTies
import Derived.KernelRfl
namespace Go.Proofs.Ytichhhmfihhplaa
/- THE CELL 'sum', in the pinned program and in every row, IS THE sha256 OF THE DUMP (.gsa) THAT YtichhhmfihhplaaProg.lean LOADS. Nothing in Lean hashes anything: it is a label: what it is worth is what the hold of that sum in a sandbox is worth. -/
noncomputable def Try.pinned : Pinned := { name := "ytichhhmfihhplaa", sum := "e22617947289c4d8c55d12d330fef5949699465d3ab1f41fe7d003b3d0014216", checked := Try.checked }
namespace Rows
def none {H : Type} : Left H := { results := [], args := [] }

/-- 'laws.FnExactTrueCounts': WHATEVER THE INPUT: true; the input reads as it did. -/
def fnExactTrueCountsSpec : ChangeSpec := { name := "fnExactTrueCounts", fn := fun _ => fun
  | [d1, d2] => { results := [.lit (.bool true)], args := [d1, d2] }
  | _ => none }
def fnExactTrueCountsRow : OpenClaim := { program := "ytichhhmfihhplaa", sum := "e22617947289c4d8c55d12d330fef5949699465d3ab1f41fe7d003b3d0014216", func := "loop.example/g00728/laws.FnExactTrueCounts", spec := "fnExactTrueCounts", apart := false }
def FnExactTrueCountsSaid : Prop := fnExactTrueCountsRow.holds Try.pinned (OpenSpec.ofChange fnExactTrueCountsSpec)

/-- ITS FALSE NEIGHBOUR: 'it returns false'. Refute it at one input. -/
def fnExactTrueCountsWrong : ChangeSpec := { name := "fnExactTrueCounts", fn := fun _ => fun
  | [d1, d2] => { results := [.lit (.bool false)], args := [d1, d2] }
  | _ => none }
def FnExactTrueCountsWrongFalsely : Prop := fnExactTrueCountsRow.holds Try.pinned (OpenSpec.ofChange fnExactTrueCountsWrong)

/-- 'laws.FnExactPairLess': WHATEVER THE INPUT: true; the input reads as it did. -/
def fnExactPairLessSpec : ChangeSpec := { name := "fnExactPairLess", fn := fun _ => fun
  | [d1, d2] => { results := [.lit (.bool true)], args := [d1, d2] }
  | _ => none }
def fnExactPairLessRow : OpenClaim := { program := "ytichhhmfihhplaa", sum := "e22617947289c4d8c55d12d330fef5949699465d3ab1f41fe7d003b3d0014216", func := "loop.example/g00728/laws.FnExactPairLess", spec := "fnExactPairLess", apart := false }
def FnExactPairLessSaid : Prop := fnExactPairLessRow.holds Try.pinned (OpenSpec.ofChange fnExactPairLessSpec)

/-- ITS FALSE NEIGHBOUR: 'it returns false'. Refute it at one input. -/
def fnExactPairLessWrong : ChangeSpec := { name := "fnExactPairLess", fn := fun _ => fun
  | [d1, d2] => { results := [.lit (.bool false)], args := [d1, d2] }
  | _ => none }
def FnExactPairLessWrongFalsely : Prop := fnExactPairLessRow.holds Try.pinned (OpenSpec.ofChange fnExactPairLessWrong)

/-- 'laws.FnExactSlidesOf': WHATEVER THE INPUT: true; the input reads as it did. -/
def fnExactSlidesOfSpec : ChangeSpec := { name := "fnExactSlidesOf", fn := fun _ => fun
  | [d1, d2, d3] => { results := [.lit (.bool true)], args := [d1, d2, d3] }
  | _ => none }
def fnExactSlidesOfRow : OpenClaim := { program := "ytichhhmfihhplaa", sum := "e22617947289c4d8c55d12d330fef5949699465d3ab1f41fe7d003b3d0014216", func := "loop.example/g00728/laws.FnExactSlidesOf", spec := "fnExactSlidesOf", apart := false }
def FnExactSlidesOfSaid : Prop := fnExactSlidesOfRow.holds Try.pinned (OpenSpec.ofChange fnExactSlidesOfSpec)

/-- ITS FALSE NEIGHBOUR: 'it returns false'. Refute it at one input. -/
def fnExactSlidesOfWrong : ChangeSpec := { name := "fnExactSlidesOf", fn := fun _ => fun
  | [d1, d2, d3] => { results := [.lit (.bool false)], args := [d1, d2, d3] }
  | _ => none }
def FnExactSlidesOfWrongFalsely : Prop := fnExactSlidesOfRow.holds Try.pinned (OpenSpec.ofChange fnExactSlidesOfWrong)

/-- 'laws.FnExactNewHeavy': WHATEVER THE INPUT: true; the input reads as it did. -/
def fnExactNewHeavySpec : ChangeSpec := { name := "fnExactNewHeavy", fn := fun _ => fun
  | [d] => { results := [.lit (.bool true)], args := [d] }
  | _ => none }
def fnExactNewHeavyRow : OpenClaim := { program := "ytichhhmfihhplaa", sum := "e22617947289c4d8c55d12d330fef5949699465d3ab1f41fe7d003b3d0014216", func := "loop.example/g00728/laws.FnExactNewHeavy", spec := "fnExactNewHeavy", apart := false }
def FnExactNewHeavySaid : Prop := fnExactNewHeavyRow.holds Try.pinned (OpenSpec.ofChange fnExactNewHeavySpec)

/-- ITS FALSE NEIGHBOUR: 'it returns false'. Refute it at one input. -/
def fnExactNewHeavyWrong : ChangeSpec := { name := "fnExactNewHeavy", fn := fun _ => fun
  | [d] => { results := [.lit (.bool false)], args := [d] }
  | _ => none }
def FnExactNewHeavyWrongFalsely : Prop := fnExactNewHeavyRow.holds Try.pinned (OpenSpec.ofChange fnExactNewHeavyWrong)

/-- 'laws.FnExactNewJoin': WHATEVER THE INPUT: true; the input reads as it did. -/
def fnExactNewJoinSpec : ChangeSpec := { name := "fnExactNewJoin", fn := fun _ => fun
  | [] => { results := [.lit (.bool true)], args := [] }
  | _ => none }
def fnExactNewJoinRow : OpenClaim := { program := "ytichhhmfihhplaa", sum := "e22617947289c4d8c55d12d330fef5949699465d3ab1f41fe7d003b3d0014216", func := "loop.example/g00728/laws.FnExactNewJoin", spec := "fnExactNewJoin", apart := false }
def FnExactNewJoinSaid : Prop := fnExactNewJoinRow.holds Try.pinned (OpenSpec.ofChange fnExactNewJoinSpec)

/-- ITS FALSE NEIGHBOUR: 'it returns false'. Refute it at one input. -/
def fnExactNewJoinWrong : ChangeSpec := { name := "fnExactNewJoin", fn := fun _ => fun
  | [] => { results := [.lit (.bool false)], args := [] }
  | _ => none }
def FnExactNewJoinWrongFalsely : Prop := fnExactNewJoinRow.holds Try.pinned (OpenSpec.ofChange fnExactNewJoinWrong)

/-- 'laws.FnExactLongestSession': WHATEVER THE INPUT: true; the input reads as it did. -/
def fnExactLongestSessionSpec : ChangeSpec := { name := "fnExactLongestSession", fn := fun _ => fun
  | [d] => { results := [.lit (.bool true)], args := [d] }
  | _ => none }
def fnExactLongestSessionRow : OpenClaim := { program := "ytichhhmfihhplaa", sum := "e22617947289c4d8c55d12d330fef5949699465d3ab1f41fe7d003b3d0014216", func := "loop.example/g00728/laws.FnExactLongestSession", spec := "fnExactLongestSession", apart := false }
def FnExactLongestSessionSaid : Prop := fnExactLongestSessionRow.holds Try.pinned (OpenSpec.ofChange fnExactLongestSessionSpec)

/-- ITS FALSE NEIGHBOUR: 'it returns false'. Refute it at one input. -/
def fnExactLongestSessionWrong : ChangeSpec := { name := "fnExactLongestSession", fn := fun _ => fun
  | [d] => { results := [.lit (.bool false)], args := [d] }
  | _ => none }
def FnExactLongestSessionWrongFalsely : Prop := fnExactLongestSessionRow.holds Try.pinned (OpenSpec.ofChange fnExactLongestSessionWrong)

/- THE SECOND FORM. 'bulk': how many values and letters a reading holds, each counted each time it is reached (what is shared counts as often as it is met; a slice's spare places count too). A statement '..UptoSaid' is the law's where the arguments, and the package variables that the reading takes, are together of bulk at most 1048576: NARROWER than '..Said'. Prove '..Said' where nothing that the law and all that it calls make is longer than what came in: it says more and counts as full. Else prove '..UptoSaid'. A law counts once. -/
mutual
def uptoBulk {H : Type} : DataW H → Nat
  | .lit (.string bytes) => bytes.length + 1
  | .lit _ => 1
  | .nil => 1
  | .ptr d => uptoBulk d + 1
  | .slice elems spare => uptoBulkAll elems + uptoBulkAll spare + 1
  | .agg parts => uptoBulkAll parts + 1
  | .iface _ d => uptoBulk d + 1
  | .map entries => uptoBulkEntries entries + 1
  | .held _ => 1
def uptoBulkAll {H : Type} : List (DataW H) → Nat
  | [] => 0
  | d :: r => uptoBulk d + uptoBulkAll r
def uptoBulkEntries {H : Type} : List (Lit × DataW H) → Nat
  | [] => 0
  | x :: r => uptoBulkEntry x + uptoBulkEntries r
def uptoBulkEntry {H : Type} : Lit × DataW H → Nat
  | (.string bytes, d) => bytes.length + uptoBulk d + 1
  | (_, d) => uptoBulk d + 1
 end
def uptoSmall : (H : Type) → List (DataW H) → Bool := fun _ ds => decide (uptoBulkAll ds ≤ 1048576)
def OpenSpec.upto (s : _root_.Go.ChangeSpec) : _root_.Go.OpenSpec := { _root_.Go.OpenSpec.ofChange s with cond := some uptoSmall }

/-- 'laws.FnExactTrueCounts', WHERE WHAT IT READS IS OF BULK AT MOST 1048576: true; the input reads as it did. -/
def fnExactTrueCountsUptoRow : OpenClaim := { program := "ytichhhmfihhplaa", sum := "e22617947289c4d8c55d12d330fef5949699465d3ab1f41fe7d003b3d0014216", func := "loop.example/g00728/laws.FnExactTrueCounts", spec := "fnExactTrueCounts", apart := false, narrowed := true }
def FnExactTrueCountsUptoSaid : Prop := fnExactTrueCountsUptoRow.holds Try.pinned (OpenSpec.upto fnExactTrueCountsSpec)

/-- 'laws.FnExactPairLess', WHERE WHAT IT READS IS OF BULK AT MOST 1048576: true; the input reads as it did. -/
def fnExactPairLessUptoRow : OpenClaim := { program := "ytichhhmfihhplaa", sum := "e22617947289c4d8c55d12d330fef5949699465d3ab1f41fe7d003b3d0014216", func := "loop.example/g00728/laws.FnExactPairLess", spec := "fnExactPairLess", apart := false, narrowed := true }
def FnExactPairLessUptoSaid : Prop := fnExactPairLessUptoRow.holds Try.pinned (OpenSpec.upto fnExactPairLessSpec)

/-- 'laws.FnExactSlidesOf', WHERE WHAT IT READS IS OF BULK AT MOST 1048576: true; the input reads as it did. -/
def fnExactSlidesOfUptoRow : OpenClaim := { program := "ytichhhmfihhplaa", sum := "e22617947289c4d8c55d12d330fef5949699465d3ab1f41fe7d003b3d0014216", func := "loop.example/g00728/laws.FnExactSlidesOf", spec := "fnExactSlidesOf", apart := false, narrowed := true }
def FnExactSlidesOfUptoSaid : Prop := fnExactSlidesOfUptoRow.holds Try.pinned (OpenSpec.upto fnExactSlidesOfSpec)

/-- 'laws.FnExactNewHeavy', WHERE WHAT IT READS IS OF BULK AT MOST 1048576: true; the input reads as it did. -/
def fnExactNewHeavyUptoRow : OpenClaim := { program := "ytichhhmfihhplaa", sum := "e22617947289c4d8c55d12d330fef5949699465d3ab1f41fe7d003b3d0014216", func := "loop.example/g00728/laws.FnExactNewHeavy", spec := "fnExactNewHeavy", apart := false, narrowed := true }
def FnExactNewHeavyUptoSaid : Prop := fnExactNewHeavyUptoRow.holds Try.pinned (OpenSpec.upto fnExactNewHeavySpec)

/-- 'laws.FnExactNewJoin', WHERE WHAT IT READS IS OF BULK AT MOST 1048576: true; the input reads as it did. -/
def fnExactNewJoinUptoRow : OpenClaim := { program := "ytichhhmfihhplaa", sum := "e22617947289c4d8c55d12d330fef5949699465d3ab1f41fe7d003b3d0014216", func := "loop.example/g00728/laws.FnExactNewJoin", spec := "fnExactNewJoin", apart := false, narrowed := true }
def FnExactNewJoinUptoSaid : Prop := fnExactNewJoinUptoRow.holds Try.pinned (OpenSpec.upto fnExactNewJoinSpec)

/-- 'laws.FnExactLongestSession', WHERE WHAT IT READS IS OF BULK AT MOST 1048576: true; the input reads as it did. -/
def fnExactLongestSessionUptoRow : OpenClaim := { program := "ytichhhmfihhplaa", sum := "e22617947289c4d8c55d12d330fef5949699465d3ab1f41fe7d003b3d0014216", func := "loop.example/g00728/laws.FnExactLongestSession", spec := "fnExactLongestSession", apart := false, narrowed := true }
def FnExactLongestSessionUptoSaid : Prop := fnExactLongestSessionUptoRow.holds Try.pinned (OpenSpec.upto fnExactLongestSessionSpec)

end Rows
end Go.Proofs.Ytichhhmfihhplaa

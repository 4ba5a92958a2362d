/-
  No cell of these rows narrows 'for every input' (looked for: loops, veiled, ifaces, maps, wideKeys, modest, calm, conditions, laid).
  DERIVED. THE GIVEN ROWS OF THIS SEAT. 9 by the template 'for every input the law returns true; each argument reads behind the call as it read before'; 0 by the template 'total and deterministic' (their statements: YthacciliemgilaaTotals.lean).
  GIVEN WITH THE SEED: the statements are not yours to turn. If you find one false, say at which input.
  Laid BY PROGRAM, IN A SANDBOX (cutbox-rows.mjs): the forced cells as the released guide's own fill.sh prints them over the translation 550f86231b4b62cc… (all of the seat's roots in one cut). By AI agents, Wed Nov 11 2026. No macro, syntax, notation, axiom, sorry.
-/
import Derived.Test.YthacciliemgilaaChecked
import GoSem.Claim
import GoSem.ClaimJoined
import GoSem.ClaimMapViews
import Derived.JoinedTies
import Derived.KernelRfl
namespace Go.Proofs.Ythacciliemgilaa
/- THE CELL 'sum', in the pinned program and in every row, IS THE sha256 OF THE DUMP (.gsa) THAT YthacciliemgilaaProg.lean LOADS. Nothing in Lean hashes anything: it is a label: what it is worth is what the hold of that sum in a sandbox is worth. -/
noncomputable def Try.pinned : Pinned := { name := "ythacciliemgilaa", sum := "550f86231b4b62cc8400966519ef509a25cfee77f8269e3fd34adfaa4a6df65c", checked := Try.checked }
namespace Rows
def none {H : Type} : Left H := { results := [], args := [] }

/-- 'laws.FnExactHeavyOk': WHATEVER THE INPUT: true; the input reads as it did. -/
def fnExactHeavyOkSpec : ChangeSpec := { name := "fnExactHeavyOk", fn := fun _ => fun
  | [d] => { results := [.lit (.bool true)], args := [d] }
  | _ => none }
def fnExactHeavyOkRow : OpenClaim := { program := "ythacciliemgilaa", sum := "550f86231b4b62cc8400966519ef509a25cfee77f8269e3fd34adfaa4a6df65c", func := "loop.example/g00728/laws.FnExactHeavyOk", spec := "fnExactHeavyOk", apart := false }
def FnExactHeavyOkSaid : Prop := fnExactHeavyOkRow.holds Try.pinned (OpenSpec.ofChange fnExactHeavyOkSpec)

/-- ITS FALSE NEIGHBOUR: 'it returns false'. Refute it at one input. -/
def fnExactHeavyOkWrong : ChangeSpec := { name := "fnExactHeavyOk", fn := fun _ => fun
  | [d] => { results := [.lit (.bool false)], args := [d] }
  | _ => none }
def FnExactHeavyOkWrongFalsely : Prop := fnExactHeavyOkRow.holds Try.pinned (OpenSpec.ofChange fnExactHeavyOkWrong)

/-- 'laws.FnExactAtLeast': WHATEVER THE INPUT: true; the input reads as it did. -/
def fnExactAtLeastSpec : ChangeSpec := { name := "fnExactAtLeast", fn := fun _ => fun
  | [d1, d2] => { results := [.lit (.bool true)], args := [d1, d2] }
  | _ => none }
def fnExactAtLeastRow : OpenClaim := { program := "ythacciliemgilaa", sum := "550f86231b4b62cc8400966519ef509a25cfee77f8269e3fd34adfaa4a6df65c", func := "loop.example/g00728/laws.FnExactAtLeast", spec := "fnExactAtLeast", unfollowed := true, recurses := true, apart := false }
def FnExactAtLeastSaid : Prop := fnExactAtLeastRow.holds Try.pinned (OpenSpec.ofChange fnExactAtLeastSpec)

/-- ITS FALSE NEIGHBOUR: 'it returns false'. Refute it at one input. -/
def fnExactAtLeastWrong : ChangeSpec := { name := "fnExactAtLeast", fn := fun _ => fun
  | [d1, d2] => { results := [.lit (.bool false)], args := [d1, d2] }
  | _ => none }
def FnExactAtLeastWrongFalsely : Prop := fnExactAtLeastRow.holds Try.pinned (OpenSpec.ofChange fnExactAtLeastWrong)

/-- 'laws.FnExactAtMost': WHATEVER THE INPUT: true; the input reads as it did. -/
def fnExactAtMostSpec : ChangeSpec := { name := "fnExactAtMost", fn := fun _ => fun
  | [d1, d2] => { results := [.lit (.bool true)], args := [d1, d2] }
  | _ => none }
def fnExactAtMostRow : OpenClaim := { program := "ythacciliemgilaa", sum := "550f86231b4b62cc8400966519ef509a25cfee77f8269e3fd34adfaa4a6df65c", func := "loop.example/g00728/laws.FnExactAtMost", spec := "fnExactAtMost", unfollowed := true, recurses := true, apart := false }
def FnExactAtMostSaid : Prop := fnExactAtMostRow.holds Try.pinned (OpenSpec.ofChange fnExactAtMostSpec)

/-- ITS FALSE NEIGHBOUR: 'it returns false'. Refute it at one input. -/
def fnExactAtMostWrong : ChangeSpec := { name := "fnExactAtMost", fn := fun _ => fun
  | [d1, d2] => { results := [.lit (.bool false)], args := [d1, d2] }
  | _ => none }
def FnExactAtMostWrongFalsely : Prop := fnExactAtMostRow.holds Try.pinned (OpenSpec.ofChange fnExactAtMostWrong)

/-- 'laws.FnExactSureOver': WHATEVER THE INPUT: true; the input reads as it did. -/
def fnExactSureOverSpec : ChangeSpec := { name := "fnExactSureOver", fn := fun _ => fun
  | [d1, d2] => { results := [.lit (.bool true)], args := [d1, d2] }
  | _ => none }
def fnExactSureOverRow : OpenClaim := { program := "ythacciliemgilaa", sum := "550f86231b4b62cc8400966519ef509a25cfee77f8269e3fd34adfaa4a6df65c", func := "loop.example/g00728/laws.FnExactSureOver", spec := "fnExactSureOver", unfollowed := true, recurses := true, apart := false }
def FnExactSureOverSaid : Prop := fnExactSureOverRow.holds Try.pinned (OpenSpec.ofChange fnExactSureOverSpec)

/-- ITS FALSE NEIGHBOUR: 'it returns false'. Refute it at one input. -/
def fnExactSureOverWrong : ChangeSpec := { name := "fnExactSureOver", fn := fun _ => fun
  | [d1, d2] => { results := [.lit (.bool false)], args := [d1, d2] }
  | _ => none }
def FnExactSureOverWrongFalsely : Prop := fnExactSureOverRow.holds Try.pinned (OpenSpec.ofChange fnExactSureOverWrong)

/-- 'laws.FnExactHeavyOver': WHATEVER THE INPUT: true; the input reads as it did. -/
def fnExactHeavyOverSpec : ChangeSpec := { name := "fnExactHeavyOver", fn := fun _ => fun
  | [d1, d2] => { results := [.lit (.bool true)], args := [d1, d2] }
  | _ => none }
def fnExactHeavyOverRow : OpenClaim := { program := "ythacciliemgilaa", sum := "550f86231b4b62cc8400966519ef509a25cfee77f8269e3fd34adfaa4a6df65c", func := "loop.example/g00728/laws.FnExactHeavyOver", spec := "fnExactHeavyOver", unfollowed := true, recurses := true, apart := false }
def FnExactHeavyOverSaid : Prop := fnExactHeavyOverRow.holds Try.pinned (OpenSpec.ofChange fnExactHeavyOverSpec)

/-- ITS FALSE NEIGHBOUR: 'it returns false'. Refute it at one input. -/
def fnExactHeavyOverWrong : ChangeSpec := { name := "fnExactHeavyOver", fn := fun _ => fun
  | [d1, d2] => { results := [.lit (.bool false)], args := [d1, d2] }
  | _ => none }
def FnExactHeavyOverWrongFalsely : Prop := fnExactHeavyOverRow.holds Try.pinned (OpenSpec.ofChange fnExactHeavyOverWrong)

/-- 'laws.FnExactAddHeavy': WHATEVER THE INPUT: true; the input reads as it did. -/
def fnExactAddHeavySpec : ChangeSpec := { name := "fnExactAddHeavy", fn := fun _ => fun
  | [d1, d2] => { results := [.lit (.bool true)], args := [d1, d2] }
  | _ => none }
def fnExactAddHeavyRow : OpenClaim := { program := "ythacciliemgilaa", sum := "550f86231b4b62cc8400966519ef509a25cfee77f8269e3fd34adfaa4a6df65c", func := "loop.example/g00728/laws.FnExactAddHeavy", spec := "fnExactAddHeavy", inPlace := ["slices.overlaps[loop.example/g00728/impl.Slot]"], unfollowed := true, recurses := true, apart := false }
def FnExactAddHeavySaid : Prop := fnExactAddHeavyRow.holds Try.pinned (OpenSpec.ofChange fnExactAddHeavySpec)

/-- ITS FALSE NEIGHBOUR: 'it returns false'. Refute it at one input. -/
def fnExactAddHeavyWrong : ChangeSpec := { name := "fnExactAddHeavy", fn := fun _ => fun
  | [d1, d2] => { results := [.lit (.bool false)], args := [d1, d2] }
  | _ => none }
def FnExactAddHeavyWrongFalsely : Prop := fnExactAddHeavyRow.holds Try.pinned (OpenSpec.ofChange fnExactAddHeavyWrong)

/-- 'laws.FnExactPlayHeavy': WHATEVER THE INPUT: true; the input reads as it did. -/
def fnExactPlayHeavySpec : ChangeSpec := { name := "fnExactPlayHeavy", fn := fun _ => fun
  | [d1, d2] => { results := [.lit (.bool true)], args := [d1, d2] }
  | _ => none }
def fnExactPlayHeavyRow : OpenClaim := { program := "ythacciliemgilaa", sum := "550f86231b4b62cc8400966519ef509a25cfee77f8269e3fd34adfaa4a6df65c", func := "loop.example/g00728/laws.FnExactPlayHeavy", spec := "fnExactPlayHeavy", inPlace := ["slices.overlaps[loop.example/g00728/impl.Slot]"], unfollowed := true, recurses := true, apart := false }
def FnExactPlayHeavySaid : Prop := fnExactPlayHeavyRow.holds Try.pinned (OpenSpec.ofChange fnExactPlayHeavySpec)

/-- ITS FALSE NEIGHBOUR: 'it returns false'. Refute it at one input. -/
def fnExactPlayHeavyWrong : ChangeSpec := { name := "fnExactPlayHeavy", fn := fun _ => fun
  | [d1, d2] => { results := [.lit (.bool false)], args := [d1, d2] }
  | _ => none }
def FnExactPlayHeavyWrongFalsely : Prop := fnExactPlayHeavyRow.holds Try.pinned (OpenSpec.ofChange fnExactPlayHeavyWrong)

/-- 'laws.FnExactShrinkHeavy': WHATEVER THE INPUT: true; the input reads as it did. -/
def fnExactShrinkHeavySpec : ChangeSpec := { name := "fnExactShrinkHeavy", fn := fun _ => fun
  | [d1, d2] => { results := [.lit (.bool true)], args := [d1, d2] }
  | _ => none }
def fnExactShrinkHeavyRow : OpenClaim := { program := "ythacciliemgilaa", sum := "550f86231b4b62cc8400966519ef509a25cfee77f8269e3fd34adfaa4a6df65c", func := "loop.example/g00728/laws.FnExactShrinkHeavy", spec := "fnExactShrinkHeavy", recurses := true, apart := false }
def FnExactShrinkHeavySaid : Prop := fnExactShrinkHeavyRow.holds Try.pinned (OpenSpec.ofChange fnExactShrinkHeavySpec)

/-- ITS FALSE NEIGHBOUR: 'it returns false'. Refute it at one input. -/
def fnExactShrinkHeavyWrong : ChangeSpec := { name := "fnExactShrinkHeavy", fn := fun _ => fun
  | [d1, d2] => { results := [.lit (.bool false)], args := [d1, d2] }
  | _ => none }
def FnExactShrinkHeavyWrongFalsely : Prop := fnExactShrinkHeavyRow.holds Try.pinned (OpenSpec.ofChange fnExactShrinkHeavyWrong)

/-- 'laws.FnExactMergeHeavy': WHATEVER THE INPUT: true; the input reads as it did. -/
def fnExactMergeHeavySpec : ChangeSpec := { name := "fnExactMergeHeavy", fn := fun _ => fun
  | [d1, d2] => { results := [.lit (.bool true)], args := [d1, d2] }
  | _ => none }
def fnExactMergeHeavyRow : OpenClaim := { program := "ythacciliemgilaa", sum := "550f86231b4b62cc8400966519ef509a25cfee77f8269e3fd34adfaa4a6df65c", func := "loop.example/g00728/laws.FnExactMergeHeavy", spec := "fnExactMergeHeavy", inPlace := ["slices.overlaps[loop.example/g00728/impl.Slot]"], unfollowed := true, recurses := true, apart := false }
def FnExactMergeHeavySaid : Prop := fnExactMergeHeavyRow.holds Try.pinned (OpenSpec.ofChange fnExactMergeHeavySpec)

/-- ITS FALSE NEIGHBOUR: 'it returns false'. Refute it at one input. -/
def fnExactMergeHeavyWrong : ChangeSpec := { name := "fnExactMergeHeavy", fn := fun _ => fun
  | [d1, d2] => { results := [.lit (.bool false)], args := [d1, d2] }
  | _ => none }
def FnExactMergeHeavyWrongFalsely : Prop := fnExactMergeHeavyRow.holds Try.pinned (OpenSpec.ofChange fnExactMergeHeavyWrong)

/- THE SECOND FORM. 'bulk': how many values and letters a reading holds, each counted each time it is reached (what is shared counts as often as it is met; a slice's spare places count too). A statement '..UptoSaid' is the law's where the arguments, and the package variables that the reading takes, are together of bulk at most 1048576: NARROWER than '..Said'. Prove '..Said' where nothing that the law and all that it calls make is longer than what came in: it says more and counts as full. Else prove '..UptoSaid'. A law counts once. -/
mutual
def uptoBulk {H : Type} : DataW H → Nat
  | .lit (.string bytes) => bytes.length + 1
  | .lit _ => 1
  | .nil => 1
  | .ptr d => uptoBulk d + 1
  | .slice elems spare => uptoBulkAll elems + uptoBulkAll spare + 1
  | .agg parts => uptoBulkAll parts + 1
  | .iface _ d => uptoBulk d + 1
  | .map entries => uptoBulkEntries entries + 1
  | .held _ => 1
def uptoBulkAll {H : Type} : List (DataW H) → Nat
  | [] => 0
  | d :: r => uptoBulk d + uptoBulkAll r
def uptoBulkEntries {H : Type} : List (Lit × DataW H) → Nat
  | [] => 0
  | x :: r => uptoBulkEntry x + uptoBulkEntries r
def uptoBulkEntry {H : Type} : Lit × DataW H → Nat
  | (.string bytes, d) => bytes.length + uptoBulk d + 1
  | (_, d) => uptoBulk d + 1
 end
def uptoSmall : (H : Type) → List (DataW H) → Bool := fun _ ds => decide (uptoBulkAll ds ≤ 1048576)
def OpenSpec.upto (s : _root_.Go.ChangeSpec) : _root_.Go.OpenSpec := { _root_.Go.OpenSpec.ofChange s with cond := some uptoSmall }

/-- 'laws.FnExactHeavyOk', WHERE WHAT IT READS IS OF BULK AT MOST 1048576: true; the input reads as it did. -/
def fnExactHeavyOkUptoRow : OpenClaim := { program := "ythacciliemgilaa", sum := "550f86231b4b62cc8400966519ef509a25cfee77f8269e3fd34adfaa4a6df65c", func := "loop.example/g00728/laws.FnExactHeavyOk", spec := "fnExactHeavyOk", apart := false, narrowed := true }
def FnExactHeavyOkUptoSaid : Prop := fnExactHeavyOkUptoRow.holds Try.pinned (OpenSpec.upto fnExactHeavyOkSpec)

/-- 'laws.FnExactAtLeast', WHERE WHAT IT READS IS OF BULK AT MOST 1048576: true; the input reads as it did. -/
def fnExactAtLeastUptoRow : OpenClaim := { program := "ythacciliemgilaa", sum := "550f86231b4b62cc8400966519ef509a25cfee77f8269e3fd34adfaa4a6df65c", func := "loop.example/g00728/laws.FnExactAtLeast", spec := "fnExactAtLeast", unfollowed := true, recurses := true, apart := false, narrowed := true }
def FnExactAtLeastUptoSaid : Prop := fnExactAtLeastUptoRow.holds Try.pinned (OpenSpec.upto fnExactAtLeastSpec)

/-- 'laws.FnExactAtMost', WHERE WHAT IT READS IS OF BULK AT MOST 1048576: true; the input reads as it did. -/
def fnExactAtMostUptoRow : OpenClaim := { program := "ythacciliemgilaa", sum := "550f86231b4b62cc8400966519ef509a25cfee77f8269e3fd34adfaa4a6df65c", func := "loop.example/g00728/laws.FnExactAtMost", spec := "fnExactAtMost", unfollowed := true, recurses := true, apart := false, narrowed := true }
def FnExactAtMostUptoSaid : Prop := fnExactAtMostUptoRow.holds Try.pinned (OpenSpec.upto fnExactAtMostSpec)

/-- 'laws.FnExactSureOver', WHERE WHAT IT READS IS OF BULK AT MOST 1048576: true; the input reads as it did. -/
def fnExactSureOverUptoRow : OpenClaim := { program := "ythacciliemgilaa", sum := "550f86231b4b62cc8400966519ef509a25cfee77f8269e3fd34adfaa4a6df65c", func := "loop.example/g00728/laws.FnExactSureOver", spec := "fnExactSureOver", unfollowed := true, recurses := true, apart := false, narrowed := true }
def FnExactSureOverUptoSaid : Prop := fnExactSureOverUptoRow.holds Try.pinned (OpenSpec.upto fnExactSureOverSpec)

/-- 'laws.FnExactHeavyOver', WHERE WHAT IT READS IS OF BULK AT MOST 1048576: true; the input reads as it did. -/
def fnExactHeavyOverUptoRow : OpenClaim := { program := "ythacciliemgilaa", sum := "550f86231b4b62cc8400966519ef509a25cfee77f8269e3fd34adfaa4a6df65c", func := "loop.example/g00728/laws.FnExactHeavyOver", spec := "fnExactHeavyOver", unfollowed := true, recurses := true, apart := false, narrowed := true }
def FnExactHeavyOverUptoSaid : Prop := fnExactHeavyOverUptoRow.holds Try.pinned (OpenSpec.upto fnExactHeavyOverSpec)

/-- 'laws.FnExactAddHeavy', WHERE WHAT IT READS IS OF BULK AT MOST 1048576: true; the input reads as it did. -/
def fnExactAddHeavyUptoRow : OpenClaim := { program := "ythacciliemgilaa", sum := "550f86231b4b62cc8400966519ef509a25cfee77f8269e3fd34adfaa4a6df65c", func := "loop.example/g00728/laws.FnExactAddHeavy", spec := "fnExactAddHeavy", inPlace := ["slices.overlaps[loop.example/g00728/impl.Slot]"], unfollowed := true, recurses := true, apart := false, narrowed := true }
def FnExactAddHeavyUptoSaid : Prop := fnExactAddHeavyUptoRow.holds Try.pinned (OpenSpec.upto fnExactAddHeavySpec)

/-- 'laws.FnExactPlayHeavy', WHERE WHAT IT READS IS OF BULK AT MOST 1048576: true; the input reads as it did. -/
def fnExactPlayHeavyUptoRow : OpenClaim := { program := "ythacciliemgilaa", sum := "550f86231b4b62cc8400966519ef509a25cfee77f8269e3fd34adfaa4a6df65c", func := "loop.example/g00728/laws.FnExactPlayHeavy", spec := "fnExactPlayHeavy", inPlace := ["slices.overlaps[loop.example/g00728/impl.Slot]"], unfollowed := true, recurses := true, apart := false, narrowed := true }
def FnExactPlayHeavyUptoSaid : Prop := fnExactPlayHeavyUptoRow.holds Try.pinned (OpenSpec.upto fnExactPlayHeavySpec)

/-- 'laws.FnExactShrinkHeavy', WHERE WHAT IT READS IS OF BULK AT MOST 1048576: true; the input reads as it did. -/
def fnExactShrinkHeavyUptoRow : OpenClaim := { program := "ythacciliemgilaa", sum := "550f86231b4b62cc8400966519ef509a25cfee77f8269e3fd34adfaa4a6df65c", func := "loop.example/g00728/laws.FnExactShrinkHeavy", spec := "fnExactShrinkHeavy", recurses := true, apart := false, narrowed := true }
def FnExactShrinkHeavyUptoSaid : Prop := fnExactShrinkHeavyUptoRow.holds Try.pinned (OpenSpec.upto fnExactShrinkHeavySpec)

/-- 'laws.FnExactMergeHeavy', WHERE WHAT IT READS IS OF BULK AT MOST 1048576: true; the input reads as it did. -/
def fnExactMergeHeavyUptoRow : OpenClaim := { program := "ythacciliemgilaa", sum := "550f86231b4b62cc8400966519ef509a25cfee77f8269e3fd34adfaa4a6df65c", func := "loop.example/g00728/laws.FnExactMergeHeavy", spec := "fnExactMergeHeavy", inPlace := ["slices.overlaps[loop.example/g00728/impl.Slot]"], unfollowed := true, recurses := true, apart := false, narrowed := true }
def FnExactMergeHeavyUptoSaid : Prop := fnExactMergeHeavyUptoRow.holds Try.pinned (OpenSpec.upto fnExactMergeHeavySpec)

end Rows
end Go.Proofs.Ythacciliemgilaa

/-
  No cell of these rows narrows 'for every input' (looked for: loops, veiled, ifaces, maps, wideKeys, modest, calm, conditions, laid).
  DERIVED. THE GIVEN ROWS OF THIS SEAT. 12 by the template 'for every input the law returns true; each argument reads behind the call as it read before'; 0 by the template 'total and deterministic' (their statements: YtengkenhmnpbeaaTotals.lean).
  GIVEN WITH THE SEED: the statements are not yours to turn. If you find one false, say at which input.
  Laid BY PROGRAM, IN A SANDBOX (cutbox-rows.mjs): the forced cells as the released guide's own fill.sh prints them over the translation 1ee9a89df6bfde83… (all of the seat's roots in one cut). By AI agents, Wed Nov 11 2026. No macro, syntax, notation, axiom, sorry.
-/
import Derived.Test.YtengkenhmnpbeaaChecked
import GoSem.Claim
import GoSem.ClaimJoined
import GoSem.ClaimMapViews
import Derived.JoinedTies
import Derived.KernelRfl
namespace Go.Proofs.Ytengkenhmnpbeaa
/- THE CELL 'sum', in the pinned program and in every row, IS THE sha256 OF THE DUMP (.gsa) THAT YtengkenhmnpbeaaProg.lean LOADS. Nothing in Lean hashes anything: it is a label: what it is worth is what the hold of that sum in a sandbox is worth. -/
noncomputable def Try.pinned : Pinned := { name := "ytengkenhmnpbeaa", sum := "1ee9a89df6bfde8323628157f576e7aa3d7d436eb6289579e7153f8fd55e3af9", checked := Try.checked }
namespace Rows
def none {H : Type} : Left H := { results := [], args := [] }

/-- 'laws.FnExactSameShard': WHATEVER THE INPUT: true; the input reads as it did. -/
def fnExactSameShardSpec : ChangeSpec := { name := "fnExactSameShard", fn := fun _ => fun
  | [d1, d2] => { results := [.lit (.bool true)], args := [d1, d2] }
  | _ => none }
def fnExactSameShardRow : OpenClaim := { program := "ytengkenhmnpbeaa", sum := "1ee9a89df6bfde8323628157f576e7aa3d7d436eb6289579e7153f8fd55e3af9", func := "loop.example/g00728/laws.FnExactSameShard", spec := "fnExactSameShard", apart := false }
def FnExactSameShardSaid : Prop := fnExactSameShardRow.holds Try.pinned (OpenSpec.ofChange fnExactSameShardSpec)

/-- ITS FALSE NEIGHBOUR: 'it returns false'. Refute it at one input. -/
def fnExactSameShardWrong : ChangeSpec := { name := "fnExactSameShard", fn := fun _ => fun
  | [d1, d2] => { results := [.lit (.bool false)], args := [d1, d2] }
  | _ => none }
def FnExactSameShardWrongFalsely : Prop := fnExactSameShardRow.holds Try.pinned (OpenSpec.ofChange fnExactSameShardWrong)

/-- 'laws.FnExactSaveOk': WHATEVER THE INPUT: true; the input reads as it did. -/
def fnExactSaveOkSpec : ChangeSpec := { name := "fnExactSaveOk", fn := fun _ => fun
  | [d] => { results := [.lit (.bool true)], args := [d] }
  | _ => none }
def fnExactSaveOkRow : OpenClaim := { program := "ytengkenhmnpbeaa", sum := "1ee9a89df6bfde8323628157f576e7aa3d7d436eb6289579e7153f8fd55e3af9", func := "loop.example/g00728/laws.FnExactSaveOk", spec := "fnExactSaveOk", unfollowed := true, recurses := true, apart := false }
def FnExactSaveOkSaid : Prop := fnExactSaveOkRow.holds Try.pinned (OpenSpec.ofChange fnExactSaveOkSpec)

/-- ITS FALSE NEIGHBOUR: 'it returns false'. Refute it at one input. -/
def fnExactSaveOkWrong : ChangeSpec := { name := "fnExactSaveOk", fn := fun _ => fun
  | [d] => { results := [.lit (.bool false)], args := [d] }
  | _ => none }
def FnExactSaveOkWrongFalsely : Prop := fnExactSaveOkRow.holds Try.pinned (OpenSpec.ofChange fnExactSaveOkWrong)

/-- 'laws.FnExactPruneSaves': WHATEVER THE INPUT: true; the input reads as it did. -/
def fnExactPruneSavesSpec : ChangeSpec := { name := "fnExactPruneSaves", fn := fun _ => fun
  | [d1, d2] => { results := [.lit (.bool true)], args := [d1, d2] }
  | _ => none }
def fnExactPruneSavesRow : OpenClaim := { program := "ytengkenhmnpbeaa", sum := "1ee9a89df6bfde8323628157f576e7aa3d7d436eb6289579e7153f8fd55e3af9", func := "loop.example/g00728/laws.FnExactPruneSaves", spec := "fnExactPruneSaves", apart := false }
def FnExactPruneSavesSaid : Prop := fnExactPruneSavesRow.holds Try.pinned (OpenSpec.ofChange fnExactPruneSavesSpec)

/-- ITS FALSE NEIGHBOUR: 'it returns false'. Refute it at one input. -/
def fnExactPruneSavesWrong : ChangeSpec := { name := "fnExactPruneSaves", fn := fun _ => fun
  | [d1, d2] => { results := [.lit (.bool false)], args := [d1, d2] }
  | _ => none }
def FnExactPruneSavesWrongFalsely : Prop := fnExactPruneSavesRow.holds Try.pinned (OpenSpec.ofChange fnExactPruneSavesWrong)

/-- 'laws.FnExactPutSave': WHATEVER THE INPUT: true; the input reads as it did. -/
def fnExactPutSaveSpec : ChangeSpec := { name := "fnExactPutSave", fn := fun _ => fun
  | [d] => { results := [.lit (.bool true)], args := [d] }
  | _ => none }
def fnExactPutSaveRow : OpenClaim := { program := "ytengkenhmnpbeaa", sum := "1ee9a89df6bfde8323628157f576e7aa3d7d436eb6289579e7153f8fd55e3af9", func := "loop.example/g00728/laws.FnExactPutSave", spec := "fnExactPutSave", unfollowed := true, recurses := true, apart := false }
def FnExactPutSaveSaid : Prop := fnExactPutSaveRow.holds Try.pinned (OpenSpec.ofChange fnExactPutSaveSpec)

/-- ITS FALSE NEIGHBOUR: 'it returns false'. Refute it at one input. -/
def fnExactPutSaveWrong : ChangeSpec := { name := "fnExactPutSave", fn := fun _ => fun
  | [d] => { results := [.lit (.bool false)], args := [d] }
  | _ => none }
def FnExactPutSaveWrongFalsely : Prop := fnExactPutSaveRow.holds Try.pinned (OpenSpec.ofChange fnExactPutSaveWrong)

/-- 'laws.FnExactTakeSave': WHATEVER THE INPUT: true; the input reads as it did. -/
def fnExactTakeSaveSpec : ChangeSpec := { name := "fnExactTakeSave", fn := fun _ => fun
  | [d] => { results := [.lit (.bool true)], args := [d] }
  | _ => none }
def fnExactTakeSaveRow : OpenClaim := { program := "ytengkenhmnpbeaa", sum := "1ee9a89df6bfde8323628157f576e7aa3d7d436eb6289579e7153f8fd55e3af9", func := "loop.example/g00728/laws.FnExactTakeSave", spec := "fnExactTakeSave", unfollowed := true, recurses := true, apart := false }
def FnExactTakeSaveSaid : Prop := fnExactTakeSaveRow.holds Try.pinned (OpenSpec.ofChange fnExactTakeSaveSpec)

/-- ITS FALSE NEIGHBOUR: 'it returns false'. Refute it at one input. -/
def fnExactTakeSaveWrong : ChangeSpec := { name := "fnExactTakeSave", fn := fun _ => fun
  | [d] => { results := [.lit (.bool false)], args := [d] }
  | _ => none }
def FnExactTakeSaveWrongFalsely : Prop := fnExactTakeSaveRow.holds Try.pinned (OpenSpec.ofChange fnExactTakeSaveWrong)

/-- 'laws.FnExactResumeAt': WHATEVER THE INPUT: true; the input reads as it did. -/
def fnExactResumeAtSpec : ChangeSpec := { name := "fnExactResumeAt", fn := fun _ => fun
  | [d1, d2] => { results := [.lit (.bool true)], args := [d1, d2] }
  | _ => none }
def fnExactResumeAtRow : OpenClaim := { program := "ytengkenhmnpbeaa", sum := "1ee9a89df6bfde8323628157f576e7aa3d7d436eb6289579e7153f8fd55e3af9", func := "loop.example/g00728/laws.FnExactResumeAt", spec := "fnExactResumeAt", unfollowed := true, recurses := true, apart := false }
def FnExactResumeAtSaid : Prop := fnExactResumeAtRow.holds Try.pinned (OpenSpec.ofChange fnExactResumeAtSpec)

/-- ITS FALSE NEIGHBOUR: 'it returns false'. Refute it at one input. -/
def fnExactResumeAtWrong : ChangeSpec := { name := "fnExactResumeAt", fn := fun _ => fun
  | [d1, d2] => { results := [.lit (.bool false)], args := [d1, d2] }
  | _ => none }
def FnExactResumeAtWrongFalsely : Prop := fnExactResumeAtRow.holds Try.pinned (OpenSpec.ofChange fnExactResumeAtWrong)

/-- 'laws.FnExactPutSaves': WHATEVER THE INPUT: true; the input reads as it did. -/
def fnExactPutSavesSpec : ChangeSpec := { name := "fnExactPutSaves", fn := fun _ => fun
  | [d] => { results := [.lit (.bool true)], args := [d] }
  | _ => none }
def fnExactPutSavesRow : OpenClaim := { program := "ytengkenhmnpbeaa", sum := "1ee9a89df6bfde8323628157f576e7aa3d7d436eb6289579e7153f8fd55e3af9", func := "loop.example/g00728/laws.FnExactPutSaves", spec := "fnExactPutSaves", unfollowed := true, recurses := true, apart := false }
def FnExactPutSavesSaid : Prop := fnExactPutSavesRow.holds Try.pinned (OpenSpec.ofChange fnExactPutSavesSpec)

/-- ITS FALSE NEIGHBOUR: 'it returns false'. Refute it at one input. -/
def fnExactPutSavesWrong : ChangeSpec := { name := "fnExactPutSaves", fn := fun _ => fun
  | [d] => { results := [.lit (.bool false)], args := [d] }
  | _ => none }
def FnExactPutSavesWrongFalsely : Prop := fnExactPutSavesRow.holds Try.pinned (OpenSpec.ofChange fnExactPutSavesWrong)

/-- 'laws.FnExactTakeSaves': WHATEVER THE INPUT: true; the input reads as it did. -/
def fnExactTakeSavesSpec : ChangeSpec := { name := "fnExactTakeSaves", fn := fun _ => fun
  | [d] => { results := [.lit (.bool true)], args := [d] }
  | _ => none }
def fnExactTakeSavesRow : OpenClaim := { program := "ytengkenhmnpbeaa", sum := "1ee9a89df6bfde8323628157f576e7aa3d7d436eb6289579e7153f8fd55e3af9", func := "loop.example/g00728/laws.FnExactTakeSaves", spec := "fnExactTakeSaves", unfollowed := true, recurses := true, apart := false }
def FnExactTakeSavesSaid : Prop := fnExactTakeSavesRow.holds Try.pinned (OpenSpec.ofChange fnExactTakeSavesSpec)

/-- ITS FALSE NEIGHBOUR: 'it returns false'. Refute it at one input. -/
def fnExactTakeSavesWrong : ChangeSpec := { name := "fnExactTakeSaves", fn := fun _ => fun
  | [d] => { results := [.lit (.bool false)], args := [d] }
  | _ => none }
def FnExactTakeSavesWrongFalsely : Prop := fnExactTakeSavesRow.holds Try.pinned (OpenSpec.ofChange fnExactTakeSavesWrong)

/-- 'laws.FnExactAddAll': WHATEVER THE INPUT: true; the input reads as it did. -/
def fnExactAddAllSpec : ChangeSpec := { name := "fnExactAddAll", fn := fun _ => fun
  | [d1, d2, d3, d4, d5] => { results := [.lit (.bool true)], args := [d1, d2, d3, d4, d5] }
  | _ => none }
def fnExactAddAllRow : OpenClaim := { program := "ytengkenhmnpbeaa", sum := "1ee9a89df6bfde8323628157f576e7aa3d7d436eb6289579e7153f8fd55e3af9", func := "loop.example/g00728/laws.FnExactAddAll", spec := "fnExactAddAll", inPlace := ["slices.overlaps[loop.example/g00728/impl.Agg]"], unfollowed := true, recurses := true, apart := false }
def FnExactAddAllSaid : Prop := fnExactAddAllRow.holds Try.pinned (OpenSpec.ofChange fnExactAddAllSpec)

/-- ITS FALSE NEIGHBOUR: 'it returns false'. Refute it at one input. -/
def fnExactAddAllWrong : ChangeSpec := { name := "fnExactAddAll", fn := fun _ => fun
  | [d1, d2, d3, d4, d5] => { results := [.lit (.bool false)], args := [d1, d2, d3, d4, d5] }
  | _ => none }
def FnExactAddAllWrongFalsely : Prop := fnExactAddAllRow.holds Try.pinned (OpenSpec.ofChange fnExactAddAllWrong)

/-- 'laws.FnExactSavesOf': WHATEVER THE INPUT: true; the input reads as it did. -/
def fnExactSavesOfSpec : ChangeSpec := { name := "fnExactSavesOf", fn := fun _ => fun
  | [d1, d2, d3, d4] => { results := [.lit (.bool true)], args := [d1, d2, d3, d4] }
  | _ => none }
def fnExactSavesOfRow : OpenClaim := { program := "ytengkenhmnpbeaa", sum := "1ee9a89df6bfde8323628157f576e7aa3d7d436eb6289579e7153f8fd55e3af9", func := "loop.example/g00728/laws.FnExactSavesOf", spec := "fnExactSavesOf", inPlace := ["slices.overlaps[loop.example/g00728/impl.Agg]"], unfollowed := true, recurses := true, apart := false }
def FnExactSavesOfSaid : Prop := fnExactSavesOfRow.holds Try.pinned (OpenSpec.ofChange fnExactSavesOfSpec)

/-- ITS FALSE NEIGHBOUR: 'it returns false'. Refute it at one input. -/
def fnExactSavesOfWrong : ChangeSpec := { name := "fnExactSavesOf", fn := fun _ => fun
  | [d1, d2, d3, d4] => { results := [.lit (.bool false)], args := [d1, d2, d3, d4] }
  | _ => none }
def FnExactSavesOfWrongFalsely : Prop := fnExactSavesOfRow.holds Try.pinned (OpenSpec.ofChange fnExactSavesOfWrong)

/-- 'laws.FnExactCrashAt': WHATEVER THE INPUT: true; the input reads as it did. -/
def fnExactCrashAtSpec : ChangeSpec := { name := "fnExactCrashAt", fn := fun _ => fun
  | [d1, d2, d3, d4, d5] => { results := [.lit (.bool true)], args := [d1, d2, d3, d4, d5] }
  | _ => none }
def fnExactCrashAtRow : OpenClaim := { program := "ytengkenhmnpbeaa", sum := "1ee9a89df6bfde8323628157f576e7aa3d7d436eb6289579e7153f8fd55e3af9", func := "loop.example/g00728/laws.FnExactCrashAt", spec := "fnExactCrashAt", inPlace := ["slices.overlaps[loop.example/g00728/impl.Agg]"], unfollowed := true, recurses := true, apart := false }
def FnExactCrashAtSaid : Prop := fnExactCrashAtRow.holds Try.pinned (OpenSpec.ofChange fnExactCrashAtSpec)

/-- ITS FALSE NEIGHBOUR: 'it returns false'. Refute it at one input. -/
def fnExactCrashAtWrong : ChangeSpec := { name := "fnExactCrashAt", fn := fun _ => fun
  | [d1, d2, d3, d4, d5] => { results := [.lit (.bool false)], args := [d1, d2, d3, d4, d5] }
  | _ => none }
def FnExactCrashAtWrongFalsely : Prop := fnExactCrashAtRow.holds Try.pinned (OpenSpec.ofChange fnExactCrashAtWrong)

/-- 'laws.FnSaves': WHATEVER THE INPUT: true; the input reads as it did. -/
def fnSavesSpec : ChangeSpec := { name := "fnSaves", fn := fun _ => fun
  | [d] => { results := [.lit (.bool true)], args := [d] }
  | _ => none }
def fnSavesRow : OpenClaim := { program := "ytengkenhmnpbeaa", sum := "1ee9a89df6bfde8323628157f576e7aa3d7d436eb6289579e7153f8fd55e3af9", func := "loop.example/g00728/laws.FnSaves", spec := "fnSaves", unfollowed := true, recurses := true, apart := false }
def FnSavesSaid : Prop := fnSavesRow.holds Try.pinned (OpenSpec.ofChange fnSavesSpec)

/-- ITS FALSE NEIGHBOUR: 'it returns false'. Refute it at one input. -/
def fnSavesWrong : ChangeSpec := { name := "fnSaves", fn := fun _ => fun
  | [d] => { results := [.lit (.bool false)], args := [d] }
  | _ => none }
def FnSavesWrongFalsely : Prop := fnSavesRow.holds Try.pinned (OpenSpec.ofChange fnSavesWrong)

/- THE SECOND FORM. 'bulk': how many values and letters a reading holds, each counted each time it is reached (what is shared counts as often as it is met; a slice's spare places count too). A statement '..UptoSaid' is the law's where the arguments, and the package variables that the reading takes, are together of bulk at most 1048576: NARROWER than '..Said'. Prove '..Said' where nothing that the law and all that it calls make is longer than what came in: it says more and counts as full. Else prove '..UptoSaid'. A law counts once. -/
mutual
def uptoBulk {H : Type} : DataW H → Nat
  | .lit (.string bytes) => bytes.length + 1
  | .lit _ => 1
  | .nil => 1
  | .ptr d => uptoBulk d + 1
  | .slice elems spare => uptoBulkAll elems + uptoBulkAll spare + 1
  | .agg parts => uptoBulkAll parts + 1
  | .iface _ d => uptoBulk d + 1
  | .map entries => uptoBulkEntries entries + 1
  | .held _ => 1
def uptoBulkAll {H : Type} : List (DataW H) → Nat
  | [] => 0
  | d :: r => uptoBulk d + uptoBulkAll r
def uptoBulkEntries {H : Type} : List (Lit × DataW H) → Nat
  | [] => 0
  | x :: r => uptoBulkEntry x + uptoBulkEntries r
def uptoBulkEntry {H : Type} : Lit × DataW H → Nat
  | (.string bytes, d) => bytes.length + uptoBulk d + 1
  | (_, d) => uptoBulk d + 1
 end
def uptoSmall : (H : Type) → List (DataW H) → Bool := fun _ ds => decide (uptoBulkAll ds ≤ 1048576)
def OpenSpec.upto (s : _root_.Go.ChangeSpec) : _root_.Go.OpenSpec := { _root_.Go.OpenSpec.ofChange s with cond := some uptoSmall }

/-- 'laws.FnExactSameShard', WHERE WHAT IT READS IS OF BULK AT MOST 1048576: true; the input reads as it did. -/
def fnExactSameShardUptoRow : OpenClaim := { program := "ytengkenhmnpbeaa", sum := "1ee9a89df6bfde8323628157f576e7aa3d7d436eb6289579e7153f8fd55e3af9", func := "loop.example/g00728/laws.FnExactSameShard", spec := "fnExactSameShard", apart := false, narrowed := true }
def FnExactSameShardUptoSaid : Prop := fnExactSameShardUptoRow.holds Try.pinned (OpenSpec.upto fnExactSameShardSpec)

/-- 'laws.FnExactSaveOk', WHERE WHAT IT READS IS OF BULK AT MOST 1048576: true; the input reads as it did. -/
def fnExactSaveOkUptoRow : OpenClaim := { program := "ytengkenhmnpbeaa", sum := "1ee9a89df6bfde8323628157f576e7aa3d7d436eb6289579e7153f8fd55e3af9", func := "loop.example/g00728/laws.FnExactSaveOk", spec := "fnExactSaveOk", unfollowed := true, recurses := true, apart := false, narrowed := true }
def FnExactSaveOkUptoSaid : Prop := fnExactSaveOkUptoRow.holds Try.pinned (OpenSpec.upto fnExactSaveOkSpec)

/-- 'laws.FnExactPruneSaves', WHERE WHAT IT READS IS OF BULK AT MOST 1048576: true; the input reads as it did. -/
def fnExactPruneSavesUptoRow : OpenClaim := { program := "ytengkenhmnpbeaa", sum := "1ee9a89df6bfde8323628157f576e7aa3d7d436eb6289579e7153f8fd55e3af9", func := "loop.example/g00728/laws.FnExactPruneSaves", spec := "fnExactPruneSaves", apart := false, narrowed := true }
def FnExactPruneSavesUptoSaid : Prop := fnExactPruneSavesUptoRow.holds Try.pinned (OpenSpec.upto fnExactPruneSavesSpec)

/-- 'laws.FnExactPutSave', WHERE WHAT IT READS IS OF BULK AT MOST 1048576: true; the input reads as it did. -/
def fnExactPutSaveUptoRow : OpenClaim := { program := "ytengkenhmnpbeaa", sum := "1ee9a89df6bfde8323628157f576e7aa3d7d436eb6289579e7153f8fd55e3af9", func := "loop.example/g00728/laws.FnExactPutSave", spec := "fnExactPutSave", unfollowed := true, recurses := true, apart := false, narrowed := true }
def FnExactPutSaveUptoSaid : Prop := fnExactPutSaveUptoRow.holds Try.pinned (OpenSpec.upto fnExactPutSaveSpec)

/-- 'laws.FnExactTakeSave', WHERE WHAT IT READS IS OF BULK AT MOST 1048576: true; the input reads as it did. -/
def fnExactTakeSaveUptoRow : OpenClaim := { program := "ytengkenhmnpbeaa", sum := "1ee9a89df6bfde8323628157f576e7aa3d7d436eb6289579e7153f8fd55e3af9", func := "loop.example/g00728/laws.FnExactTakeSave", spec := "fnExactTakeSave", unfollowed := true, recurses := true, apart := false, narrowed := true }
def FnExactTakeSaveUptoSaid : Prop := fnExactTakeSaveUptoRow.holds Try.pinned (OpenSpec.upto fnExactTakeSaveSpec)

/-- 'laws.FnExactResumeAt', WHERE WHAT IT READS IS OF BULK AT MOST 1048576: true; the input reads as it did. -/
def fnExactResumeAtUptoRow : OpenClaim := { program := "ytengkenhmnpbeaa", sum := "1ee9a89df6bfde8323628157f576e7aa3d7d436eb6289579e7153f8fd55e3af9", func := "loop.example/g00728/laws.FnExactResumeAt", spec := "fnExactResumeAt", unfollowed := true, recurses := true, apart := false, narrowed := true }
def FnExactResumeAtUptoSaid : Prop := fnExactResumeAtUptoRow.holds Try.pinned (OpenSpec.upto fnExactResumeAtSpec)

/-- 'laws.FnExactPutSaves', WHERE WHAT IT READS IS OF BULK AT MOST 1048576: true; the input reads as it did. -/
def fnExactPutSavesUptoRow : OpenClaim := { program := "ytengkenhmnpbeaa", sum := "1ee9a89df6bfde8323628157f576e7aa3d7d436eb6289579e7153f8fd55e3af9", func := "loop.example/g00728/laws.FnExactPutSaves", spec := "fnExactPutSaves", unfollowed := true, recurses := true, apart := false, narrowed := true }
def FnExactPutSavesUptoSaid : Prop := fnExactPutSavesUptoRow.holds Try.pinned (OpenSpec.upto fnExactPutSavesSpec)

/-- 'laws.FnExactTakeSaves', WHERE WHAT IT READS IS OF BULK AT MOST 1048576: true; the input reads as it did. -/
def fnExactTakeSavesUptoRow : OpenClaim := { program := "ytengkenhmnpbeaa", sum := "1ee9a89df6bfde8323628157f576e7aa3d7d436eb6289579e7153f8fd55e3af9", func := "loop.example/g00728/laws.FnExactTakeSaves", spec := "fnExactTakeSaves", unfollowed := true, recurses := true, apart := false, narrowed := true }
def FnExactTakeSavesUptoSaid : Prop := fnExactTakeSavesUptoRow.holds Try.pinned (OpenSpec.upto fnExactTakeSavesSpec)

/-- 'laws.FnExactAddAll', WHERE WHAT IT READS IS OF BULK AT MOST 1048576: true; the input reads as it did. -/
def fnExactAddAllUptoRow : OpenClaim := { program := "ytengkenhmnpbeaa", sum := "1ee9a89df6bfde8323628157f576e7aa3d7d436eb6289579e7153f8fd55e3af9", func := "loop.example/g00728/laws.FnExactAddAll", spec := "fnExactAddAll", inPlace := ["slices.overlaps[loop.example/g00728/impl.Agg]"], unfollowed := true, recurses := true, apart := false, narrowed := true }
def FnExactAddAllUptoSaid : Prop := fnExactAddAllUptoRow.holds Try.pinned (OpenSpec.upto fnExactAddAllSpec)

/-- 'laws.FnExactSavesOf', WHERE WHAT IT READS IS OF BULK AT MOST 1048576: true; the input reads as it did. -/
def fnExactSavesOfUptoRow : OpenClaim := { program := "ytengkenhmnpbeaa", sum := "1ee9a89df6bfde8323628157f576e7aa3d7d436eb6289579e7153f8fd55e3af9", func := "loop.example/g00728/laws.FnExactSavesOf", spec := "fnExactSavesOf", inPlace := ["slices.overlaps[loop.example/g00728/impl.Agg]"], unfollowed := true, recurses := true, apart := false, narrowed := true }
def FnExactSavesOfUptoSaid : Prop := fnExactSavesOfUptoRow.holds Try.pinned (OpenSpec.upto fnExactSavesOfSpec)

/-- 'laws.FnExactCrashAt', WHERE WHAT IT READS IS OF BULK AT MOST 1048576: true; the input reads as it did. -/
def fnExactCrashAtUptoRow : OpenClaim := { program := "ytengkenhmnpbeaa", sum := "1ee9a89df6bfde8323628157f576e7aa3d7d436eb6289579e7153f8fd55e3af9", func := "loop.example/g00728/laws.FnExactCrashAt", spec := "fnExactCrashAt", inPlace := ["slices.overlaps[loop.example/g00728/impl.Agg]"], unfollowed := true, recurses := true, apart := false, narrowed := true }
def FnExactCrashAtUptoSaid : Prop := fnExactCrashAtUptoRow.holds Try.pinned (OpenSpec.upto fnExactCrashAtSpec)

/-- 'laws.FnSaves', WHERE WHAT IT READS IS OF BULK AT MOST 1048576: true; the input reads as it did. -/
def fnSavesUptoRow : OpenClaim := { program := "ytengkenhmnpbeaa", sum := "1ee9a89df6bfde8323628157f576e7aa3d7d436eb6289579e7153f8fd55e3af9", func := "loop.example/g00728/laws.FnSaves", spec := "fnSaves", unfollowed := true, recurses := true, apart := false, narrowed := true }
def FnSavesUptoSaid : Prop := fnSavesUptoRow.holds Try.pinned (OpenSpec.upto fnSavesSpec)

end Rows
end Go.Proofs.Ytengkenhmnpbeaa

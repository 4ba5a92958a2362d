import Derived.Test.YtplcjkgbjapbmaaUp
import Derived.Test.YtplcjkgbjapbmaaPMc
namespace Go.Proofs.Ytplcjkgbjapbmaa.C
open Go.RowKit Go.Proofs.YtplcjkgbjapbmaaW Go.Proofs.YtplcjkgbjapbmaaW.PrintWords Go.Proofs.Ytplcjkgbjapbmaa.U
set_option maxHeartbeats 1000000
set_option maxRecDepth 100000
set_option linter.unusedVariables false
set_option linter.unusedSimpArgs false
def and64 (x y : Int) : Int := IntKind.i64.wrap (((BitVec.ofInt IntKind.i64.bits x &&& BitVec.ofInt IntKind.i64.bits y).toNat : Nat) : Int)
def xor64 (x y : Int) : Int := IntKind.i64.wrap (((BitVec.ofInt IntKind.i64.bits x ^^^ BitVec.ofInt IntKind.i64.bits y).toNat : Nat) : Int)
theorem and64_le (x : Int) : 0 ≤ and64 x 255 ∧ and64 x 255 ≤ 255 := by
  have h : (BitVec.ofInt IntKind.i64.bits x &&& BitVec.ofInt IntKind.i64.bits 255).toNat ≤ 255 := by
    rw [BitVec.toNat_and]
    exact Nat.le_trans Nat.and_le_right (by decide)
  unfold and64
  generalize (BitVec.ofInt IntKind.i64.bits x &&& BitVec.ofInt IntKind.i64.bits 255).toNat = n at h
  rw [IntKind.wrap_i64]
  omega
def stepH (h : Int) : Int := IntKind.i64.wrap (IntKind.i64.wrap (h * 6364136223846793005) + 1442695040888963407)
def mixH (h : Int) : Int := and64 (xor64 (h.fdiv (2 ^ min (Int.toNat 33) IntKind.i64.bits)) (h.fdiv (2 ^ min (Int.toNat 45) IntKind.i64.bits))) 255
theorem mixH_le (h : Int) : 0 ≤ mixH h ∧ mixH h ≤ 255 := and64_le _
def iterS {S F : Type} (G : S → F × S) (s : S) : Nat → S
  | 0 => s
  | k + 1 => (G (iterS G s k)).2
def iterF {S F : Type} (G : S → F × S) (s : S) (k : Nat) : List F := (List.range k).map (fun j => (G (iterS G s j)).1)
theorem iterF_succ {S F : Type} (G : S → F × S) (s : S) (k : Nat) : iterF G s (k + 1) = iterF G s k ++ [(G (iterS G s k)).1] := by
  rw [iterF, List.range_succ, List.map_append]
  rfl
theorem iterF_len {S F : Type} (G : S → F × S) (s : S) (k : Nat) : (iterF G s k).length = k := by rw [iterF, List.length_map, List.length_range]
end Go.Proofs.Ytplcjkgbjapbmaa.C

import Derived.Test.YtengkenhmnpbeaaUp
import Derived.Test.YtengkenhmnpbeaaUPutsave
namespace Go.Proofs.Ytengkenhmnpbeaa.C
open Go.RowKit Go.Proofs.YtengkenhmnpbeaaW Go.Proofs.YtengkenhmnpbeaaW.PrintWords Go.Proofs.Ytengkenhmnpbeaa.U
set_option maxHeartbeats 1000000
set_option maxRecDepth 100000
set_option linter.unusedVariables false
set_option linter.unusedSimpArgs false
def putsTo (xs : List Save) : List Int := xs.flatMap putL
theorem putsTo_snoc {xs : List Save} {k : Nat} {x : Save} (h : xs[k]? = some x) : putsTo (xs.take (k + 1)) = putsTo (xs.take k) ++ putL x := by
  have e : xs.take (k + 1) = xs.take k ++ [x] := by rw [List.take_add_one, h]; rfl
  rw [putsTo, e, List.flatMap_append]
  simp [putsTo]
theorem putsTo_len (xs : List Save) : (putsTo xs).length ≤ 984 * xs.length := by
  induction xs with
  | nil => exact Nat.zero_le _
  | cons x r ih => simp only [putsTo, List.flatMap_cons, List.length_append, List.length_cons] at ih ⊢; have := putL_len x; omega
def putsOk (xs : List Save) : Bool := decide (xs.length ≤ 20) && xs.all okSave
def putsL (xs : List Save) : List Int := if putsOk xs then putsTo xs else []
theorem putsL_len (xs : List Save) : (putsL xs).length ≤ 20000 := by
  unfold putsL
  split
  · rename_i h
    rw [putsOk, Bool.and_eq_true, decide_eq_true_iff] at h
    have := putsTo_len xs
    omega
  · exact Nat.zero_le _
end Go.Proofs.Ytengkenhmnpbeaa.C

import Derived.Test.YtengkenhmnpbeaaUp
import Derived.Test.YtengkenhmnpbeaaUSaveb
import Derived.Test.YtengkenhmnpbeaaPPl
namespace Go.Proofs.Ytengkenhmnpbeaa.C
open Go.RowKit Go.Proofs.YtengkenhmnpbeaaW Go.Proofs.YtengkenhmnpbeaaW.PrintWords Go.Proofs.Ytengkenhmnpbeaa.U
set_option maxHeartbeats 1000000
set_option maxRecDepth 100000
set_option linter.unusedVariables false
set_option linter.unusedSimpArgs false
def pruneL (xs : List Save) (keep : Int) : List Save := xs.drop (xs.length - min (max keep 0).toNat xs.length)
theorem pruneL_len (xs : List Save) (keep : Int) : (pruneL xs keep).length ≤ xs.length := by unfold pruneL; rw [List.length_drop]; omega
theorem aggSum_drop (xs : List Save) (k : Nat) : aggSum (xs.drop k) ≤ aggSum xs := by
  have h : aggSum xs = aggSum (xs.take k) + aggSum (xs.drop k) := by
    conv => lhs; rw [← List.take_append_drop k xs]
    unfold aggSum
    rw [List.map_append, List.sum_append]
  omega
theorem pruneL_sum (xs : List Save) (keep : Int) : aggSum (pruneL xs keep) ≤ aggSum xs := aggSum_drop _ _
theorem drop_snoc {α : Type} {l : List α} {k d : Nat} {x : α} (h : l[k]? = some x) (hd : d ≤ k) : (l.take (k + 1)).drop d = (l.take k).drop d ++ [x] := by
  rw [← take_snoc h, List.drop_append_of_le_length (by rw [List.length_take]; have := (List.getElem?_eq_some_iff.1 h).1; omega)]
end Go.Proofs.Ytengkenhmnpbeaa.C

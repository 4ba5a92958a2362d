import Derived.Test.YtkdndllgocdbdaaUp
import Derived.Test.YtkdndllgocdbdaaUPairs
namespace Go.Proofs.Ytkdndllgocdbdaa.C
open Go.RowKit Go.Proofs.YtkdndllgocdbdaaW Go.Proofs.YtkdndllgocdbdaaW.PrintWords Go.Proofs.Ytkdndllgocdbdaa.U
set_option maxHeartbeats 1000000
set_option maxRecDepth 100000
set_option linter.unusedVariables false
set_option linter.unusedSimpArgs false
def sortP (l : List Pair) : List Pair := if l.length ≤ 1600 then sortL pairLt l else []
theorem sortP_len (l : List Pair) : (sortP l).length ≤ 1600 := by
  unfold sortP
  split
  · rw [sortL_len]; assumption
  · simp
theorem lexLt_step {X Y : List Int} {k : Nat} {a b : Int} (hx : X[k]? = some a) (hy : Y[k]? = some b) : lexLt (X.drop k) (Y.drop k) = if a = b then lexLt (X.drop (k + 1)) (Y.drop (k + 1)) else decide (a < b) := by
  obtain ⟨h1, rfl⟩ := List.getElem?_eq_some_iff.1 hx
  obtain ⟨h2, rfl⟩ := List.getElem?_eq_some_iff.1 hy
  rw [List.drop_eq_getElem_cons h1, List.drop_eq_getElem_cons h2, lexLt]
def samePre {α : Type} (X Y : List α) (k : Nat) : Prop := ∀ j, j < k → X[j]? = Y[j]?
theorem samePre_succ {α : Type} {X Y : List α} {k : Nat} (h : samePre X Y k) (e : X[k]? = Y[k]?) : samePre X Y (k + 1) := fun j hj => by
  rcases Nat.lt_or_ge j k with h1 | h1
  · exact h j h1
  · obtain rfl : j = k := by omega
    exact e
theorem samePre_eq {α : Type} {X Y : List α} (h : samePre X Y X.length) (hl : X.length = Y.length) : X = Y := by
  apply List.ext_getElem?
  intro j
  rcases Nat.lt_or_ge j X.length with h1 | h1
  · exact h j h1
  · rw [List.getElem?_eq_none h1, List.getElem?_eq_none (by omega)]
end Go.Proofs.Ytkdndllgocdbdaa.C

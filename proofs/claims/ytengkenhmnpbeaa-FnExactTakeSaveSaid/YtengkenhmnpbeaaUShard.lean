import Derived.Test.YtengkenhmnpbeaaUp
import Derived.Test.YtengkenhmnpbeaaPPl
import Derived.Test.YtengkenhmnpbeaaUPairs
namespace Go.Proofs.Ytengkenhmnpbeaa.C
open Go.RowKit Go.Proofs.YtengkenhmnpbeaaW Go.Proofs.YtengkenhmnpbeaaW.PrintWords Go.Proofs.Ytengkenhmnpbeaa.U
set_option maxHeartbeats 1000000
set_option maxRecDepth 100000
set_option linter.unusedVariables false
set_option linter.unusedSimpArgs false
def aggC (x y : Agg) : Int := orJ (cmps [x.win, x.key] [y.win, y.key])
theorem aggC_lt (x y : Agg) : decide (aggC x y < 0) = aggLt x y := by
  unfold aggC
  rw [orJ_cmps, aggLt, Bool.eq_iff_iff, decide_eq_true_iff]
  simp only [lexLt]
  by_cases h1 : x.win = y.win
  · rw [if_pos h1]
    by_cases h2 : x.key = y.key
    · rw [if_pos h2]; simp; omega
    · rw [if_neg h2, decide_eq_true_iff]; omega
  · rw [if_neg h1, decide_eq_true_iff]; omega
theorem aggC_ge (x y : Agg) : decide (0 ≤ aggC x y) = !aggLt x y := by
  rw [← aggC_lt]
  by_cases h : aggC x y < 0
  · rw [decide_eq_true h, decide_eq_false (by omega)]; rfl
  · rw [decide_eq_false h, decide_eq_true (by omega)]; rfl
theorem aggC_eq (x y : Agg) : aggC x y = 0 ↔ x.win = y.win ∧ x.key = y.key := by
  unfold aggC cmps cmps cmps orJ orJ orJ
  by_cases h1 : x.win = y.win
  · rw [if_pos (cmpJ_zero.2 h1)]
    by_cases h2 : x.key = y.key
    · rw [if_pos (cmpJ_zero.2 h2)]; simp [h1, h2]
    · rw [if_neg (fun e => h2 (cmpJ_zero.1 e))]
      exact ⟨fun e => absurd (cmpJ_zero.1 e) h2, fun e => absurd e.2 h2⟩
  · rw [if_neg (fun e => h1 (cmpJ_zero.1 e))]
    exact ⟨fun e => absurd (cmpJ_zero.1 e) h1, fun e => absurd e.1 h1⟩
theorem sorted_snoc {l : List Agg} {k : Nat} {x y : Agg} (h : ∀ i a b, i + 1 < k → l[i]? = some a → l[i + 1]? = some b → aggLt a b = true) (hy : l[k - 1]? = some y) (hx : l[k]? = some x) (hk : 0 < k) (hlt : aggLt y x = true) : ∀ i a b, i + 1 < k + 1 → l[i]? = some a → l[i + 1]? = some b → aggLt a b = true := fun i a b hi ha hb => by
  rcases Nat.lt_or_ge (i + 1) k with h1 | h1
  · exact h i a b h1 ha hb
  · obtain rfl : k = i + 1 := by omega
    rw [Nat.add_sub_cancel] at hy
    rw [ha] at hy
    rw [hb] at hx
    cases hy
    cases hx
    exact hlt
theorem sortedB_of {l : List Agg} (h : ∀ i a b, i + 1 < l.length → l[i]? = some a → l[i + 1]? = some b → aggLt a b = true) : sortedB aggLt l = true := (sortedB_iff _ _).2 (fun i a b ha hb => h i a b (List.getElem?_eq_some_iff.1 hb).1 ha hb)
theorem sortedB_not {l : List Agg} {k : Nat} {x y : Agg} (hk : 0 < k) (hy : l[k - 1]? = some y) (hx : l[k]? = some x) (h : aggLt y x = false) : sortedB aggLt l = false := by
  rw [← Bool.not_eq_true, sortedB_iff]
  intro h2
  have := h2 (k - 1) y x hy (by rw [show k - 1 + 1 = k by omega]; exact hx)
  rw [h] at this
  cases this
end Go.Proofs.Ytengkenhmnpbeaa.C

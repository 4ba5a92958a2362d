import Derived.Test.YtplcjkgbjapbmaaUp
import Derived.Test.YtplcjkgbjapbmaaPPl
namespace Go.Proofs.Ytplcjkgbjapbmaa.C
open Go.RowKit Go.Proofs.YtplcjkgbjapbmaaW Go.Proofs.YtplcjkgbjapbmaaW.PrintWords Go.Proofs.Ytplcjkgbjapbmaa.U
set_option maxHeartbeats 1000000
set_option maxRecDepth 100000
set_option linter.unusedVariables false
set_option linter.unusedSimpArgs false
theorem spec_l05Ahead (x y : Agg) (w : World) : Calls Try.prog 57 #[.agg #[.int .i64 x.win, .int .i64 x.key, .int .i64 x.count, .int .i64 x.sum, .int .i64 x.min, .int .i64 x.max], .agg #[.int .i64 y.win, .int .i64 y.key, .int .i64 y.count, .int .i64 y.sum, .int .i64 y.min, .int .i64 y.max]] w fun e w' => e = .returned (.bool (aggLt x y)) ∧ Below w.heap.size w w' := by
  go_enter Try.func57, Try.ntmps57
  go_wp2
  all_goals (go_ret; refine ⟨ret_bool ?_, by go_grown⟩; go_light; simp only [aggLt]; (repeat' split) <;> (first | omega | (simp_all; done) | (simp_all; omega) | (rw [Bool.eq_iff_iff]; simp_all; done) | (rw [Bool.eq_iff_iff]; simp_all; omega)))
end Go.Proofs.Ytplcjkgbjapbmaa.C

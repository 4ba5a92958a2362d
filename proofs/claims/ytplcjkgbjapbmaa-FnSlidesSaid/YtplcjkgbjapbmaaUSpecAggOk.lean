import Derived.Test.YtplcjkgbjapbmaaUp
import Derived.Test.YtplcjkgbjapbmaaPOb
namespace Go.Proofs.Ytplcjkgbjapbmaa.C
open Go.RowKit Go.Proofs.YtplcjkgbjapbmaaW Go.Proofs.YtplcjkgbjapbmaaW.PrintWords Go.Proofs.Ytplcjkgbjapbmaa.U
set_option maxHeartbeats 1000000
set_option maxRecDepth 100000
set_option linter.unusedVariables false
set_option linter.unusedSimpArgs false
theorem spec_AggOk (x : Agg) (w : World) : Calls Try.prog 66 #[.agg #[.int .i64 x.win, .int .i64 x.key, .int .i64 x.count, .int .i64 x.sum, .int .i64 x.min, .int .i64 x.max]] w fun e w' => e = .returned (.bool (okAgg x)) ∧ Below w.heap.size w w' := by
  go_enter Try.func66, Try.ntmps66
  go_wp2_with (first | (go_at_call 37; refine (spec_l01In _ _ _ _).mono ?_; rintro e w' ⟨rfl, rfl⟩) | (go_at_call 79; refine (spec_l05Value _ _).mono ?_; rintro e w' ⟨rfl, rfl⟩))
  all_goals (go_ret; exact ⟨by first | rfl | (simp [okAgg, *]; done) | (simp [okAgg, *]; omega) | (simp_all [okAgg]; done) | (simp_all [okAgg]; omega), by go_grown⟩)
end Go.Proofs.Ytplcjkgbjapbmaa.C

import Derived.Test.YtplcjkgbjapbmaaUp
import Derived.Test.YtplcjkgbjapbmaaPPl
namespace Go.Proofs.Ytplcjkgbjapbmaa.C
open Go.RowKit Go.Proofs.YtplcjkgbjapbmaaW Go.Proofs.YtplcjkgbjapbmaaW.PrintWords Go.Proofs.Ytplcjkgbjapbmaa.U
set_option maxHeartbeats 1000000
set_option maxRecDepth 100000
set_option linter.unusedVariables false
set_option linter.unusedSimpArgs false
theorem impl_within (n a b : Int) (w : World) : Calls Try.prog 58 #[.int .i64 n, .int .i64 a, .int .i64 b] w fun e w' => e = .returned (.bool (inB n a b)) ∧ w = w' := by
  go_enter Try.func58, Try.ntmps58
  go_wp2
  all_goals (go_ret; exact ⟨by first | rfl | (simp [inB, *]; done) | (simp [inB, *]; omega) | (simp_all [inB]; done) | (simp_all [inB]; omega), rfl⟩)
theorem impl_isKey (n : Int) (w : World) : Calls Try.prog 63 #[.int .i64 n] w fun e w' => e = .returned (.bool (inB n 0 65535)) ∧ w = w' := by
  go_enter Try.func63, Try.ntmps63
  go_wp2_with (go_at_call 58; refine (impl_within _ _ _ _).mono ?_; rintro e w' ⟨rfl, rfl⟩)
  go_ret
  exact ⟨rfl, rfl⟩
theorem impl_isTime (n : Int) (w : World) : Calls Try.prog 38 #[.int .i64 n] w fun e w' => e = .returned (.bool (inB n 0 1000000)) ∧ w = w' := by
  go_enter Try.func38, Try.ntmps38
  go_wp2_with (go_at_call 58; refine (impl_within _ _ _ _).mono ?_; rintro e w' ⟨rfl, rfl⟩)
  go_ret
  exact ⟨rfl, rfl⟩
theorem impl_isValue (n : Int) (w : World) : Calls Try.prog 65 #[.int .i64 n] w fun e w' => e = .returned (.bool (inB n (-1000000) 1000000)) ∧ w = w' := by
  go_enter Try.func65, Try.ntmps65
  go_wp2_with (go_at_call 58; refine (impl_within _ _ _ _).mono ?_; rintro e w' ⟨rfl, rfl⟩)
  go_ret
  exact ⟨rfl, rfl⟩
theorem impl_isSize (n : Int) (w : World) : Calls Try.prog 32 #[.int .i64 n] w fun e w' => e = .returned (.bool (inB n 1 1000000)) ∧ w = w' := by
  go_enter Try.func32, Try.ntmps32
  go_wp2_with (go_at_call 58; refine (impl_within _ _ _ _).mono ?_; rintro e w' ⟨rfl, rfl⟩)
  go_ret
  exact ⟨rfl, rfl⟩
theorem impl_isSum (n : Int) (w : World) : Calls Try.prog 64 #[.int .i64 n] w fun e w' => e = .returned (.bool (inB n (-1000000000) 1000000000)) ∧ w = w' := by
  go_enter Try.func64, Try.ntmps64
  go_wp2_with (go_at_call 58; refine (impl_within _ _ _ _).mono ?_; rintro e w' ⟨rfl, rfl⟩)
  go_ret
  exact ⟨rfl, rfl⟩
theorem spec_l01In (n a b : Int) (w : World) : Calls Try.prog 37 #[.int .i64 n, .int .i64 a, .int .i64 b] w fun e w' => e = .returned (.bool (inB n a b)) ∧ w = w' := by
  go_enter Try.func37, Try.ntmps37
  go_wp2
  all_goals (go_ret; exact ⟨by first | rfl | (simp [inB, *]; done) | (simp [inB, *]; omega) | (simp_all [inB]; done) | (simp_all [inB]; omega), rfl⟩)
theorem spec_FrameOk (x : Frame) (w : World) : Calls Try.prog 10 #[.agg #[.int .i64 x.kind, .int .i64 x.key, .int .i64 x.time, .int .i64 x.value]] w fun e w' => e = .returned (.bool (okFrame x)) ∧ Below w.heap.size w w' := by
  go_enter Try.func10, Try.ntmps10
  go_wp2_with (go_at_call 37; refine (spec_l01In _ _ _ _).mono ?_; rintro e w' ⟨rfl, rfl⟩)
  all_goals (go_ret; refine ⟨ret_bool ?_, by go_grown⟩; go_light; simp only [okFrame]; (repeat' split) <;> (first | omega | (simp_all; done) | (simp_all; omega) | (rw [Bool.eq_iff_iff]; simp_all; done) | (rw [Bool.eq_iff_iff]; simp_all; omega)))
theorem spec_l05Value (n : Int) (w : World) : Calls Try.prog 79 #[.int .i64 n] w fun e w' => e = .returned (.bool (inB n (-1000000) 1000000)) ∧ w = w' := by
  go_enter Try.func79, Try.ntmps79
  go_wp2_with (go_at_call 37; refine (spec_l01In _ _ _ _).mono ?_; rintro e w' ⟨rfl, rfl⟩)
  go_ret
  exact ⟨rfl, rfl⟩
theorem impl_FrameOk (x : Frame) (w : World) : Calls Try.prog 59 #[.agg #[.int .i64 x.kind, .int .i64 x.key, .int .i64 x.time, .int .i64 x.value]] w fun e w' => e = .returned (.bool (okFrame x)) ∧ Below w.heap.size w w' := by
  go_enter Try.func59, Try.ntmps59
  go_wp2_with (first | (go_at_call 38; refine (impl_isTime _ _).mono ?_; rintro e w' ⟨rfl, rfl⟩) | (go_at_call 63; refine (impl_isKey _ _).mono ?_; rintro e w' ⟨rfl, rfl⟩) | (go_at_call 65; refine (impl_isValue _ _).mono ?_; rintro e w' ⟨rfl, rfl⟩))
  all_goals (go_ret; refine ⟨ret_bool ?_, by go_grown⟩; go_light; simp only [okFrame]; (repeat' split) <;> (first | omega | (simp_all; done) | (simp_all; omega) | (rw [Bool.eq_iff_iff]; simp_all; done) | (rw [Bool.eq_iff_iff]; simp_all; omega)))
theorem impl_isEvent (x : Frame) (w : World) : Calls Try.prog 33 #[.agg #[.int .i64 x.kind, .int .i64 x.key, .int .i64 x.time, .int .i64 x.value]] w fun e w' => e = .returned (.bool (okEv x)) ∧ Below w.heap.size w w' := by
  obtain ⟨k, a, b, c⟩ := x
  have cF := impl_FrameOk ⟨k, a, b, c⟩
  rw [okEv]
  dsimp only at cF ⊢
  by_cases hk : k = 1
  · subst hk
    go_enter Try.func33, Try.ntmps33
    go_wp2_with (go_at_call 59; refine (cF _).mono ?_; rintro e w1 ⟨rfl, hb⟩)
    go_ret; exact ⟨ret_bool (by simp), below_step (below_alloc (Below.refl _ _) _) hb⟩
  · go_enter Try.func33, Try.ntmps33
    go_wp2
    go_ret; refine ⟨ret_bool ?_, by go_grown⟩; go_light; simp [hk]
end Go.Proofs.Ytplcjkgbjapbmaa.C

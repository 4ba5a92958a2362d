import Derived.Test.YtkhphdmciohcgaaUp
import Derived.Test.YtkhphdmciohcgaaPPl
namespace Go.Proofs.Ytkhphdmciohcgaa.C
open Go.RowKit Go.Proofs.YtkhphdmciohcgaaW Go.Proofs.YtkhphdmciohcgaaW.PrintWords Go.Proofs.Ytkhphdmciohcgaa.U
set_option maxHeartbeats 1000000
set_option maxRecDepth 100000
set_option linter.unusedVariables false
set_option linter.unusedSimpArgs false
theorem impl_within (n a b : Int) (w : World) : Calls Try.prog 47 #[.int .i64 n, .int .i64 a, .int .i64 b] w fun e w' => e = .returned (.bool (inB n a b)) ∧ w = w' := by
  go_enter Try.func47, Try.ntmps47
  go_wp2
  all_goals (go_ret; exact ⟨by first | rfl | (simp [inB, *]; done) | (simp [inB, *]; omega) | (simp_all [inB]; done) | (simp_all [inB]; omega), rfl⟩)
theorem impl_isKey (n : Int) (w : World) : Calls Try.prog 53 #[.int .i64 n] w fun e w' => e = .returned (.bool (inB n 0 65535)) ∧ w = w' := by
  go_enter Try.func53, Try.ntmps53
  go_wp2_with (go_at_call 47; refine (impl_within _ _ _ _).mono ?_; rintro e w' ⟨rfl, rfl⟩)
  go_ret
  exact ⟨rfl, rfl⟩
theorem impl_isTime (n : Int) (w : World) : Calls Try.prog 49 #[.int .i64 n] w fun e w' => e = .returned (.bool (inB n 0 1000000)) ∧ w = w' := by
  go_enter Try.func49, Try.ntmps49
  go_wp2_with (go_at_call 47; refine (impl_within _ _ _ _).mono ?_; rintro e w' ⟨rfl, rfl⟩)
  go_ret
  exact ⟨rfl, rfl⟩
theorem impl_isValue (n : Int) (w : World) : Calls Try.prog 55 #[.int .i64 n] w fun e w' => e = .returned (.bool (inB n (-1000000) 1000000)) ∧ w = w' := by
  go_enter Try.func55, Try.ntmps55
  go_wp2_with (go_at_call 47; refine (impl_within _ _ _ _).mono ?_; rintro e w' ⟨rfl, rfl⟩)
  go_ret
  exact ⟨rfl, rfl⟩
theorem impl_isSize (n : Int) (w : World) : Calls Try.prog 33 #[.int .i64 n] w fun e w' => e = .returned (.bool (inB n 1 1000000)) ∧ w = w' := by
  go_enter Try.func33, Try.ntmps33
  go_wp2_with (go_at_call 47; refine (impl_within _ _ _ _).mono ?_; rintro e w' ⟨rfl, rfl⟩)
  go_ret
  exact ⟨rfl, rfl⟩
theorem impl_isSum (n : Int) (w : World) : Calls Try.prog 54 #[.int .i64 n] w fun e w' => e = .returned (.bool (inB n (-1000000000) 1000000000)) ∧ w = w' := by
  go_enter Try.func54, Try.ntmps54
  go_wp2_with (go_at_call 47; refine (impl_within _ _ _ _).mono ?_; rintro e w' ⟨rfl, rfl⟩)
  go_ret
  exact ⟨rfl, rfl⟩
theorem spec_l01In (n a b : Int) (w : World) : Calls Try.prog 39 #[.int .i64 n, .int .i64 a, .int .i64 b] w fun e w' => e = .returned (.bool (inB n a b)) ∧ w = w' := by
  go_enter Try.func39, Try.ntmps39
  go_wp2
  all_goals (go_ret; exact ⟨by first | rfl | (simp [inB, *]; done) | (simp [inB, *]; omega) | (simp_all [inB]; done) | (simp_all [inB]; omega), rfl⟩)
theorem spec_FrameOk (x : Frame) (w : World) : Calls Try.prog 28 #[.agg #[.int .i64 x.kind, .int .i64 x.key, .int .i64 x.time, .int .i64 x.value]] w fun e w' => e = .returned (.bool (okFrame x)) ∧ Below w.heap.size w w' := by
  go_enter Try.func28, Try.ntmps28
  go_wp2_with (go_at_call 39; refine (spec_l01In _ _ _ _).mono ?_; rintro e w' ⟨rfl, rfl⟩)
  all_goals (go_ret; refine ⟨ret_bool ?_, by go_grown⟩; go_light; simp only [okFrame]; (repeat' split) <;> (first | omega | (simp_all; done) | (simp_all; omega) | (rw [Bool.eq_iff_iff]; simp_all; done) | (rw [Bool.eq_iff_iff]; simp_all; omega)))
theorem spec_l05Value (n : Int) (w : World) : Calls Try.prog 40 #[.int .i64 n] w fun e w' => e = .returned (.bool (inB n (-1000000) 1000000)) ∧ w = w' := by
  go_enter Try.func40, Try.ntmps40
  go_wp2_with (go_at_call 39; refine (spec_l01In _ _ _ _).mono ?_; rintro e w' ⟨rfl, rfl⟩)
  go_ret
  exact ⟨rfl, rfl⟩
theorem impl_FrameOk (x : Frame) (w : World) : Calls Try.prog 48 #[.agg #[.int .i64 x.kind, .int .i64 x.key, .int .i64 x.time, .int .i64 x.value]] w fun e w' => e = .returned (.bool (okFrame x)) ∧ Below w.heap.size w w' := by
  go_enter Try.func48, Try.ntmps48
  go_wp2_with (first | (go_at_call 49; refine (impl_isTime _ _).mono ?_; rintro e w' ⟨rfl, rfl⟩) | (go_at_call 53; refine (impl_isKey _ _).mono ?_; rintro e w' ⟨rfl, rfl⟩) | (go_at_call 55; refine (impl_isValue _ _).mono ?_; rintro e w' ⟨rfl, rfl⟩))
  all_goals (go_ret; refine ⟨ret_bool ?_, by go_grown⟩; go_light; simp only [okFrame]; (repeat' split) <;> (first | omega | (simp_all; done) | (simp_all; omega) | (rw [Bool.eq_iff_iff]; simp_all; done) | (rw [Bool.eq_iff_iff]; simp_all; omega)))
theorem impl_isEvent (x : Frame) (w : World) : Calls Try.prog 34 #[.agg #[.int .i64 x.kind, .int .i64 x.key, .int .i64 x.time, .int .i64 x.value]] w fun e w' => e = .returned (.bool (okEv x)) ∧ Below w.heap.size w w' := by
  obtain ⟨k, a, b, c⟩ := x
  have cF := impl_FrameOk ⟨k, a, b, c⟩
  rw [okEv]
  dsimp only at cF ⊢
  by_cases hk : k = 1
  · subst hk
    go_enter Try.func34, Try.ntmps34
    go_wp2_with (go_at_call 48; refine (cF _).mono ?_; rintro e w1 ⟨rfl, hb⟩)
    go_ret; exact ⟨ret_bool (by simp), below_step (below_alloc (Below.refl _ _) _) hb⟩
  · go_enter Try.func34, Try.ntmps34
    go_wp2
    go_ret; refine ⟨ret_bool ?_, by go_grown⟩; go_light; simp [hk]
end Go.Proofs.Ytkhphdmciohcgaa.C

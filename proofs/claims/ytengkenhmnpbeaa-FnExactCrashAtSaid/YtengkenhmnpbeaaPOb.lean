import Derived.Test.YtengkenhmnpbeaaUp
import Derived.Test.YtengkenhmnpbeaaPPl
namespace Go.Proofs.Ytengkenhmnpbeaa.C
open Go.RowKit Go.Proofs.YtengkenhmnpbeaaW Go.Proofs.YtengkenhmnpbeaaW.PrintWords Go.Proofs.Ytengkenhmnpbeaa.U
set_option maxHeartbeats 1000000
set_option maxRecDepth 100000
set_option linter.unusedVariables false
set_option linter.unusedSimpArgs false
theorem impl_within (n a b : Int) (w : World) : Calls Try.prog 70 #[.int .i64 n, .int .i64 a, .int .i64 b] w fun e w' => e = .returned (.bool (inB n a b)) ∧ w = w' := by
  go_enter Try.func70, Try.ntmps70
  go_wp2
  all_goals (go_ret; exact ⟨by first | rfl | (simp [inB, *]; done) | (simp [inB, *]; omega) | (simp_all [inB]; done) | (simp_all [inB]; omega), rfl⟩)
theorem impl_isKey (n : Int) (w : World) : Calls Try.prog 129 #[.int .i64 n] w fun e w' => e = .returned (.bool (inB n 0 65535)) ∧ w = w' := by
  go_enter Try.func129, Try.ntmps129
  go_wp2_with (go_at_call 70; refine (impl_within _ _ _ _).mono ?_; rintro e w' ⟨rfl, rfl⟩)
  go_ret
  exact ⟨rfl, rfl⟩
theorem impl_isTime (n : Int) (w : World) : Calls Try.prog 130 #[.int .i64 n] w fun e w' => e = .returned (.bool (inB n 0 1000000)) ∧ w = w' := by
  go_enter Try.func130, Try.ntmps130
  go_wp2_with (go_at_call 70; refine (impl_within _ _ _ _).mono ?_; rintro e w' ⟨rfl, rfl⟩)
  go_ret
  exact ⟨rfl, rfl⟩
theorem impl_isValue (n : Int) (w : World) : Calls Try.prog 131 #[.int .i64 n] w fun e w' => e = .returned (.bool (inB n (-1000000) 1000000)) ∧ w = w' := by
  go_enter Try.func131, Try.ntmps131
  go_wp2_with (go_at_call 70; refine (impl_within _ _ _ _).mono ?_; rintro e w' ⟨rfl, rfl⟩)
  go_ret
  exact ⟨rfl, rfl⟩
theorem impl_isMark (n : Int) (w : World) : Calls Try.prog 106 #[.int .i64 n] w fun e w' => e = .returned (.bool (inB n (-1) 1000000)) ∧ w = w' := by
  go_enter Try.func106, Try.ntmps106
  go_wp2_with (go_at_call 70; refine (impl_within _ _ _ _).mono ?_; rintro e w' ⟨rfl, rfl⟩)
  go_ret
  exact ⟨rfl, rfl⟩
theorem impl_isSize (n : Int) (w : World) : Calls Try.prog 92 #[.int .i64 n] w fun e w' => e = .returned (.bool (inB n 1 1000000)) ∧ w = w' := by
  go_enter Try.func92, Try.ntmps92
  go_wp2_with (go_at_call 70; refine (impl_within _ _ _ _).mono ?_; rintro e w' ⟨rfl, rfl⟩)
  go_ret
  exact ⟨rfl, rfl⟩
theorem impl_isSum (n : Int) (w : World) : Calls Try.prog 146 #[.int .i64 n] w fun e w' => e = .returned (.bool (inB n (-1000000000) 1000000000)) ∧ w = w' := by
  go_enter Try.func146, Try.ntmps146
  go_wp2_with (go_at_call 70; refine (impl_within _ _ _ _).mono ?_; rintro e w' ⟨rfl, rfl⟩)
  go_ret
  exact ⟨rfl, rfl⟩
theorem impl_isMany (n : Int) (w : World) : Calls Try.prog 107 #[.int .i64 n] w fun e w' => e = .returned (.bool (inB n 0 1000000000)) ∧ w = w' := by
  go_enter Try.func107, Try.ntmps107
  go_wp2_with (go_at_call 70; refine (impl_within _ _ _ _).mono ?_; rintro e w' ⟨rfl, rfl⟩)
  go_ret
  exact ⟨rfl, rfl⟩
theorem spec_l01In (n a b : Int) (w : World) : Calls Try.prog 68 #[.int .i64 n, .int .i64 a, .int .i64 b] w fun e w' => e = .returned (.bool (inB n a b)) ∧ w = w' := by
  go_enter Try.func68, Try.ntmps68
  go_wp2
  all_goals (go_ret; exact ⟨by first | rfl | (simp [inB, *]; done) | (simp [inB, *]; omega) | (simp_all [inB]; done) | (simp_all [inB]; omega), rfl⟩)
theorem spec_FrameOk (x : Frame) (w : World) : Calls Try.prog 88 #[.agg #[.int .i64 x.kind, .int .i64 x.key, .int .i64 x.time, .int .i64 x.value]] w fun e w' => e = .returned (.bool (okFrame x)) ∧ Below w.heap.size w w' := by
  go_enter Try.func88, Try.ntmps88
  go_wp2_with (go_at_call 68; refine (spec_l01In _ _ _ _).mono ?_; rintro e w' ⟨rfl, rfl⟩)
  all_goals (go_ret; refine ⟨ret_bool ?_, by go_grown⟩; go_light; simp only [okFrame]; (repeat' split) <;> (first | omega | (simp_all; done) | (simp_all; omega) | (rw [Bool.eq_iff_iff]; simp_all; done) | (rw [Bool.eq_iff_iff]; simp_all; omega)))
theorem spec_l04Mark (n : Int) (w : World) : Calls Try.prog 101 #[.int .i64 n] w fun e w' => e = .returned (.bool (inB n (-1) 1000000)) ∧ w = w' := by
  go_enter Try.func101, Try.ntmps101
  go_wp2_with (go_at_call 68; refine (spec_l01In _ _ _ _).mono ?_; rintro e w' ⟨rfl, rfl⟩)
  go_ret
  exact ⟨rfl, rfl⟩
theorem spec_l05Value (n : Int) (w : World) : Calls Try.prog 123 #[.int .i64 n] w fun e w' => e = .returned (.bool (inB n (-1000000) 1000000)) ∧ w = w' := by
  go_enter Try.func123, Try.ntmps123
  go_wp2_with (go_at_call 68; refine (spec_l01In _ _ _ _).mono ?_; rintro e w' ⟨rfl, rfl⟩)
  go_ret
  exact ⟨rfl, rfl⟩
theorem impl_FrameOk (x : Frame) (w : World) : Calls Try.prog 116 #[.agg #[.int .i64 x.kind, .int .i64 x.key, .int .i64 x.time, .int .i64 x.value]] w fun e w' => e = .returned (.bool (okFrame x)) ∧ Below w.heap.size w w' := by
  go_enter Try.func116, Try.ntmps116
  go_wp2_with (first | (go_at_call 130; refine (impl_isTime _ _).mono ?_; rintro e w' ⟨rfl, rfl⟩) | (go_at_call 129; refine (impl_isKey _ _).mono ?_; rintro e w' ⟨rfl, rfl⟩) | (go_at_call 131; refine (impl_isValue _ _).mono ?_; rintro e w' ⟨rfl, rfl⟩))
  all_goals (go_ret; refine ⟨ret_bool ?_, by go_grown⟩; go_light; simp only [okFrame]; (repeat' split) <;> (first | omega | (simp_all; done) | (simp_all; omega) | (rw [Bool.eq_iff_iff]; simp_all; done) | (rw [Bool.eq_iff_iff]; simp_all; omega)))
theorem impl_isEvent (x : Frame) (w : World) : Calls Try.prog 132 #[.agg #[.int .i64 x.kind, .int .i64 x.key, .int .i64 x.time, .int .i64 x.value]] w fun e w' => e = .returned (.bool (okEv x)) ∧ Below w.heap.size w w' := by
  obtain ⟨k, a, b, c⟩ := x
  have cF := impl_FrameOk ⟨k, a, b, c⟩
  rw [okEv]
  dsimp only at cF ⊢
  by_cases hk : k = 1
  · subst hk
    go_enter Try.func132, Try.ntmps132
    go_wp2_with (go_at_call 116; refine (cF _).mono ?_; rintro e w1 ⟨rfl, hb⟩)
    go_ret; exact ⟨ret_bool (by simp), below_step (below_alloc (Below.refl _ _) _) hb⟩
  · go_enter Try.func132, Try.ntmps132
    go_wp2
    go_ret; refine ⟨ret_bool ?_, by go_grown⟩; go_light; simp [hk]
end Go.Proofs.Ytengkenhmnpbeaa.C

import Derived.Test.YtkdndllgocdbdaaCylawAddJoin6
import Derived.Test.YtkdndllgocdbdaaCylawAddJoin7
namespace Go.Proofs.Ytkdndllgocdbdaa.C
open Go.RowKit Go.Proofs.YtkdndllgocdbdaaW Go.Proofs.YtkdndllgocdbdaaW.PrintWords Go.Proofs.Ytkdndllgocdbdaa.U
set_option maxHeartbeats 1000000
set_option maxRecDepth 100000
set_option linter.unusedVariables false
set_option linter.unusedSimpArgs false
theorem impl_FrameOk (x : Frame) (w : World) : Calls Try.prog 83 #[.agg #[.int .i64 x.kind, .int .i64 x.key, .int .i64 x.time, .int .i64 x.value]] w fun e w' => e = .returned (.bool (okFrame x)) ∧ Below w.heap.size w w' := by
  go_enter Try.func83, Try.ntmps83
  go_wp2_with (first | (go_at_call 66; refine (impl_isTime _ _).mono ?_; rintro e w' ⟨rfl, rfl⟩) | (go_at_call 100; refine (impl_isKey _ _).mono ?_; rintro e w' ⟨rfl, rfl⟩) | (go_at_call 101; refine (impl_isValue _ _).mono ?_; rintro e w' ⟨rfl, rfl⟩))
  all_goals (go_ret; refine ⟨ret_bool ?_, by go_grown⟩; go_light; simp only [okFrame]; (repeat' split) <;> (first | omega | (simp_all; done) | (simp_all; omega) | (rw [Bool.eq_iff_iff]; simp_all; done) | (rw [Bool.eq_iff_iff]; simp_all; omega)))
theorem spec_l12Event (x : Frame) (w : World) : Calls Try.prog 76 #[.agg #[.int .i64 x.kind, .int .i64 x.key, .int .i64 x.time, .int .i64 x.value]] w fun e w' => e = .returned (.bool (okEv x)) ∧ Below w.heap.size w w' := by
  have cF := spec_FrameOk x
  rw [okEv]
  generalize okFrame x = bb at cF ⊢
  cases bb
  all_goals
    go_enter Try.func76, Try.ntmps76
    go_wp2_with (go_at_call 81; refine (cF _).mono ?_; rintro e w1 ⟨rfl, hb⟩; obtain ⟨hc, hf⟩ := bcell hb; have hz0 : w.heap.size < w1.heap.size := (by have := hb.size; simp at this; omega))
    all_goals (go_ret; refine ⟨ret_bool ?_, below_step (below_alloc (Below.refl _ _) _) hb⟩; go_light; first | rfl | (simp; done) | simp_all)
end Go.Proofs.Ytkdndllgocdbdaa.C

import Derived.Test.YtkdndllgocdbdaaCylawAddJoin2
import Derived.Test.YtkdndllgocdbdaaCylawAddJoin6
import Derived.Test.YtkdndllgocdbdaaCylawAddJoin7
import Derived.Test.YtkdndllgocdbdaaCylawAddJoin13
namespace Go.Proofs.Ytkdndllgocdbdaa.C
open Go.RowKit Go.Proofs.YtkdndllgocdbdaaW Go.Proofs.YtkdndllgocdbdaaW.PrintWords Go.Proofs.Ytkdndllgocdbdaa.U
set_option maxHeartbeats 1000000
set_option maxRecDepth 100000
set_option linter.unusedVariables false
set_option linter.unusedSimpArgs false
theorem impl_JoinOk (A A' : Option Addr) (c c' : Nat) (l l' : List Frame) (m : Int) (w : World) (h : Kd.C kFrame w A l.length l) (h' : Kd.C kFrame w A' l'.length l') : Calls Try.prog 16 #[.agg #[.slice A l.length c, .slice A' l'.length c', .int .i64 m]] w fun e w' => e = .returned (.bool (okJoin l l' m)) ∧ Below w.heap.size w w' := by
  have cE := fun W (hW : Kd.C kFrame W A l.length l) => impl_areEvents A c l W hW
  have cE' := fun W (hW : Kd.C kFrame W A' l'.length l') => impl_areEvents A' c' l' W hW
  have H := Aside0.mk h
  have H' := Aside0.mk h'
  clear h h'
  rw [okJoin]
  generalize okEvs l = b1 at cE ⊢
  generalize okEvs l' = b2 at cE' ⊢
  cases b1 <;> cases b2
  all_goals
    go_enter Try.func16, Try.ntmps16
    go_wp2_with (first
      | (go_at_call 57; (with_reducible refine (cE _ ?_).mono ?_); (· exact Kd.C_below H.out (by go_grown)); rintro e w1 ⟨rfl, hb⟩; have HB := Aside0.mk (below_step (below_alloc (Below.refl w.heap.size w) _) hb); obtain ⟨hc, hf⟩ := bcell hb; have hz0 : w.heap.size < w1.heap.size := (by have := hb.size; simp at this; omega))
      | (go_at_call 57; (with_reducible refine (cE' _ ?_).mono ?_); (· exact Kd.C_below H'.out HB.out); rintro e w2 ⟨rfl, hb2⟩; have HB2 := Aside0.mk (below_step HB.out hb2); obtain ⟨hc2, hf2⟩ := bcell hb2; have hz2 : w.heap.size < w2.heap.size := (by have := hb2.size; omega))
      | (go_at_call 58; refine (impl_isMark _ _).mono ?_; rintro e w' ⟨rfl, rfl⟩))
    all_goals (go_ret; refine ⟨ret_bool ?_, by first | exact HB2.out | exact HB.out⟩; go_light; first | rfl | (simp; done) | simp_all)
end Go.Proofs.Ytkdndllgocdbdaa.C

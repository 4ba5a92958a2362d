import Derived.Test.YtkdndllgocdbdaaCylawAddJoin6
import Derived.Test.YtkdndllgocdbdaaCylawAddJoin12
namespace Go.Proofs.Ytkdndllgocdbdaa.C
open Go.RowKit Go.Proofs.YtkdndllgocdbdaaW Go.Proofs.YtkdndllgocdbdaaW.PrintWords Go.Proofs.Ytkdndllgocdbdaa.U
set_option maxHeartbeats 1000000
set_option maxRecDepth 100000
set_option linter.unusedVariables false
set_option linter.unusedSimpArgs false
theorem impl_areEvents (A : Option Addr) (c : Nat) (l : List Frame) (w : World) (h : Kd.C kFrame w A l.length l) : Calls Try.prog 57 #[.slice A l.length c] w fun e w' => e = .returned (.bool (okEvs l)) ∧ Below w.heap.size w w' := by
  have hl : l.length ≤ 9223372036854775807 := h.2.1
  rw [okEvs]
  by_cases hlen : l.length ≤ 40
  · have hd : decide ((l.length : Int) ≤ 40) = true := by simp; omega
    go_enter Try.func57, Try.ntmps57
    go_wp2_with (go_at_call 60; refine (slices_ContainsFunc_Frame A c l _ h).mono ?_; rintro e w1 ⟨rfl, hb⟩)
    go_ret
    exact ⟨ret_bool (by simp [hlen]), hb⟩
  · have hd : decide ((l.length : Int) ≤ 40) = false := by simp; omega
    go_enter Try.func57, Try.ntmps57
    go_wp2
    go_ret
    exact ⟨ret_bool (by simp [hlen]), by go_grown⟩
end Go.Proofs.Ytkdndllgocdbdaa.C

import Derived.Test.YtkdndllgocdbdaaUp
import Derived.Test.YtkdndllgocdbdaaWEqStruct
import Derived.Test.YtkdndllgocdbdaaUAxn
import Derived.Test.YtkdndllgocdbdaaUPairsb
import Derived.Test.YtkdndllgocdbdaaPHP
namespace Go.Proofs.Ytkdndllgocdbdaa.C
open Go.RowKit Go.Proofs.YtkdndllgocdbdaaW Go.Proofs.YtkdndllgocdbdaaW.PrintWords Go.Proofs.Ytkdndllgocdbdaa.U
set_option maxHeartbeats 1000000
set_option maxRecDepth 100000
set_option linter.unusedVariables false
set_option linter.unusedSimpArgs false
theorem eqA_Pair (d : Nat) (w : World) (x y : Pair) : (Op.equalIn (d + 2) 84 (.agg x.enc.toArray) (.agg y.enc.toArray)).run Try.prog w = .ok (decide (x = y)) w := by
  have e : decide (x = y) = (x.key == y.key && (x.lt == y.lt && (x.rt == y.rt && (x.left == y.left && (x.right == y.right))))) := by
    rw [Bool.eq_iff_iff, decide_eq_true_iff]
    simp only [Bool.and_eq_true, beq_iff_eq]
    exact ⟨fun h => by subst h; simp, fun h => Pair.ext' ⟨h.1, h.2.1, h.2.2.1, h.2.2.2.1, h.2.2.2.2⟩⟩
  rw [e]
  obtain ⟨x0, x1, x2, x3, x4⟩ := x
  obtain ⟨y0, y1, y2, y3, y4⟩ := y
  show (Op.equalIn (d + 2) 84 (.agg #[.int .i64 x0, .int .i64 x1, .int .i64 x2, .int .i64 x3, .int .i64 x4]) (.agg #[.int .i64 y0, .int .i64 y1, .int .i64 y2, .int .i64 y3, .int .i64 y4])).run Try.prog w = _
  refine eqA_of Try.underlying84 (by kernel_rfl) ?_
  refine eqf_cons (by rfl) (by go_simp; rfl) (by go_simp; rfl) (by go_simp) ?_
  refine eqf_cons (by rfl) (by go_simp; rfl) (by go_simp; rfl) (by go_simp) ?_
  refine eqf_cons (by rfl) (by go_simp; rfl) (by go_simp; rfl) (by go_simp) ?_
  refine eqf_cons (by rfl) (by go_simp; rfl) (by go_simp; rfl) (by go_simp) ?_
  exact eqf_last (by rfl) (by go_simp; rfl) (by go_simp; rfl) (by go_simp)
theorem neq_Pair (X Y : Operand) (x y : Pair) (w : World) : (do eqGuard .neq 84 X Y (.agg x.enc.toArray) (.agg y.enc.toArray); binOp .neq 84 (.agg x.enc.toArray) (.agg y.enc.toArray) : Sem Value).run Try.prog w = .ok (.bool (!decide (x = y))) w :=
  run_neqS (by kernel_rfl) (eqA_Pair 9998 w x y)
end Go.Proofs.Ytkdndllgocdbdaa.C

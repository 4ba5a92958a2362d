import Derived.Test.YtengkenhmnpbeaaUp
import Derived.Test.YtengkenhmnpbeaaPSm
import Derived.Test.YtengkenhmnpbeaaUYHShard
import Derived.Test.YtengkenhmnpbeaaUYHFrameN
import Derived.Test.YtengkenhmnpbeaaPMb
namespace Go.Proofs.Ytengkenhmnpbeaa.C
open Go.RowKit Go.Proofs.YtengkenhmnpbeaaW Go.Proofs.YtengkenhmnpbeaaW.PrintWords Go.Proofs.Ytengkenhmnpbeaa.U
set_option maxHeartbeats 1000000
set_option maxRecDepth 100000
set_option linter.unusedVariables false
set_option linter.unusedSimpArgs false
set_option maxHeartbeats 8000000 in
theorem y_lawCrashAt (size : Int) (room : Int) (l : List Frame) (e : Int) (a : Int) (hl : l.length ≤ 9223372036854775807) (ha : -9223372036854775808 ≤ a ∧ a ≤ 9223372036854775807) : FnR Try.prog 13 [.o (.c (.int .i64 size)), .o (.c (.int .i64 room)), .o (.r kFrame 107 l), .o (.c (.int .i64 e)), .o (.c (.int .i64 a))] (.one (.o (.c (.bool true)))) := by
  have cS0 := y_szFrameS l 1048576 (by omega) hl
  by_cases hc0 : (1048576 : Int) < l.length
  · rw [if_pos hc0] at cS0
    refine fnR_of_ax Try.func13 rfl Try.ntmps13 rfl (fun w => ?_)
    (repeat (first | (with_reducible first | refine then_normal ?_ | refine then_ret ?_ | refine ax_seq ?_ | refine ax_plain ?_ | refine ax_ret ?_ | refine LX.nil ?_) | refine ax_condT rfl ?_ | (refine withG (by first | exact gon_none rfl | exact gon_some rfl rfl rfl) (fun hg => ?_); (first | refine x_call hg (by rfl) (cS0) (by rfl) (by rfl) Try.func48 (by kernel_rfl) (by rfl) (by rfl) (by first | ((repeat (first | exact .nil | refine .cons ?_ ?_ | refine .o ?_ | refine .a ?_ | exact .c _ | exact .r rfl .ro | exact .r rfl (.row _) | exact .nil _ _)); done) | fail) (by rfl) ?_ | refine Lx.move hg rfl rfl rfl ?_ | refine Lx.assign hg rfl rfl rfl ?_ | refine Lx.bin hg rfl rfl rfl rfl (fun _ => rfl) ?_); clear hg)))
    (refine ends_res1 Try.results13 (by first | exact item_tmp rfl | exact item_cellS rfl rfl rfl | exact item_cellO rfl rfl) ?_ ?_; (repeat (first | exact .nil | refine .cons ?_ ?_ | refine .o ?_ | refine .a ?_ | exact .c rfl | exact .r (by rfl) rfl | exact .nil _ _ rfl | (refine .c ?_; rotate_left) | (refine .r (by rfl) ?_; rotate_left) | (refine .nil _ _ ?_; rotate_left))); all_goals (try rfl))
  rw [if_neg hc0] at cS0
  have hd0 : decide ((1048576 : Int) - (l.length : Int) < 0) = false := by simp; omega
  have b0 : l.length ≤ 1048576 := by omega
  clear hl
  have cT2 := y_toFrameS l (by omega)
  have cE2 := y_eqFrameS l l (by omega)
  rw [decide_eq_true rfl] at cE2
  have cK2 := y_markFrameS l 1 (by omega) (by omega)
  have dk : decide (1 + (l.length : Int) * 4 < 0) = false := by simp; omega
  have hb := crash_len size room l e a
  have cSp := yS_crash size room l e a (by omega) ha
  have cIm := yI_crash size room l e a (by omega) ha
  generalize crashL size room l e a = Q at cSp cIm hb
  generalize crashN size room l e a = n at cSp cIm
  generalize crashOk size room l e a = okb at cSp cIm
  obtain ⟨q1, q2, q3, q4⟩ := Q
  dsimp only at cSp cIm hb
  have cR0 := y_eqShard q1 q2 q3 q4 q1 q2 q3 q4 (by omega)
  rw [decide_eq_true ⟨rfl, rfl, rfl, rfl⟩] at cR0
  have cM0 := y_markShard q1 q2 q3 q4 1 (by omega) (by omega)
  have cH0 := y_heldShard q1.length q2 q3 q4 1 (by omega) (by omega)
  have dq0 : decide (1 + (q1.length : Int) * 6 < 0) = false := by simp; omega
  have e1 : (n != n) = false := by simp
  have e2 : (okb != okb) = false := by simp
  have f2 : (!(okb == okb)) = false := by simp
  have dm : (1 + (q1.length : Int) * 6 != 1 + (q1.length : Int) * 6) = false := by simp
  refine fnR_of_ax Try.func13 rfl Try.ntmps13 rfl (fun w => ?_)
  (repeat (first | (with_reducible first | refine then_normal ?_ | refine ax_seq ?_ | refine ax_plain ?_ | refine ax_skip ?_ | refine ax_ret ?_ | refine LX.nil ?_) | refine ax_condF rfl ?_ | (refine withG (by first | exact gon_none rfl | exact gon_some rfl rfl rfl) (fun hg => ?_); (first | refine x_call hg (by rfl) (cS0) (by rfl) (by rfl) Try.func48 (by kernel_rfl) (by rfl) (by rfl) (by first | ((repeat (first | exact .nil | refine .cons ?_ ?_ | refine .o ?_ | refine .a ?_ | exact .c _ | exact .r rfl .ro | exact .r rfl (.row _) | exact .nil _ _)); done) | fail) (by rfl) ?_ | refine x_call hg (by rfl) (cT2) (by rfl) (by rfl) Try.func50 (by kernel_rfl) (by rfl) (by rfl) (by first | ((repeat (first | exact .nil | refine .cons ?_ ?_ | refine .o ?_ | refine .a ?_ | exact .c _ | exact .r rfl .ro | exact .r rfl (.row _) | exact .nil _ _)); done) | fail) (by rfl) ?_ | refine x_call hg (by rfl) (cE2) (by rfl) (by rfl) Try.func52 (by kernel_rfl) (by rfl) (by rfl) (by first | ((repeat (first | exact .nil | refine .cons ?_ ?_ | refine .o ?_ | refine .a ?_ | exact .c _ | exact .r rfl .ro | exact .r rfl (.row _) | exact .nil _ _)); done) | fail) (by rfl) ?_ | refine x_callW hg (by rfl) (cK2) (by (repeat (first | exact .nil | refine .cons ?_ ?_ | refine .o ?_ | refine .a ?_ | exact .c _ | exact .r _ _ _ _))) (by rfl) Try.func54 (by kernel_rfl) (by rfl) (by rfl) (by first | ((repeat (first | exact .nil | refine .cons ?_ ?_ | refine .o ?_ | refine .a ?_ | exact .c (by rfl) | exact .r (by rfl) (by rfl) | exact .nil _ _ rfl)); done) | fail) (by rfl) ?_ | refine x_call hg (by rfl) (cSp) (by rfl) (by rfl) Try.func58 (by kernel_rfl) (by rfl) (by rfl) (by first | ((repeat (first | exact .nil | refine .cons ?_ ?_ | refine .o ?_ | refine .a ?_ | exact .c _ | exact .r rfl .ro | exact .r rfl (.row _) | exact .nil _ _)); done) | fail) (by rfl) ?_ | refine x_call hg (by rfl) (cIm) (by rfl) (by rfl) Try.func59 (by kernel_rfl) (by rfl) (by rfl) (by first | ((repeat (first | exact .nil | refine .cons ?_ ?_ | refine .o ?_ | refine .a ?_ | exact .c _ | exact .r rfl .ro | exact .r rfl (.row _) | exact .nil _ _)); done) | fail) (by rfl) ?_ | refine x_call hg (by rfl) (cR0) (by rfl) (by rfl) Try.func19 (by kernel_rfl) (by rfl) (by rfl) (by first | ((repeat (first | exact .nil | refine .cons ?_ ?_ | refine .o ?_ | refine .a ?_ | exact .c _ | exact .r rfl .ro | exact .r rfl (.row _) | exact .nil _ _)); done) | fail) (by rfl) ?_ | refine x_callW hg (by rfl) (cM0) (by (repeat (first | exact .nil | refine .cons ?_ ?_ | refine .o ?_ | refine .a ?_ | exact .c _ | exact .r _ _ _ _))) (by rfl) Try.func53 (by kernel_rfl) (by rfl) (by rfl) (by first | ((repeat (first | exact .nil | refine .cons ?_ ?_ | refine .o ?_ | refine .a ?_ | exact .c (by rfl) | exact .r (by rfl) (by rfl) | exact .nil _ _ rfl)); done) | fail) (by rfl) ?_ | refine x_call hg (by rfl) (cH0) (by rfl) (by rfl) Try.func55 (by kernel_rfl) (by rfl) (by rfl) (by first | ((repeat (first | exact .nil | refine .cons ?_ ?_ | refine .o ?_ | refine .a ?_ | exact .c _ | exact .r rfl .ro | exact .r rfl (.row _) | exact .nil _ _)); done) | fail) (by rfl) ?_ | (refine gate gCmp rfl ?_; refine x_binH hg rfl rfl rfl rfl (fun _ => rfl) (by assumption) ?_) | refine Lx.move hg rfl rfl rfl ?_ | refine Lx.extract hg rfl rfl rfl rfl ?_ | refine Lx.assign hg rfl rfl rfl ?_ | refine x_loadA hg rfl rfl rfl rfl (by rfl) ?_ | refine Lx.un hg rfl rfl rfl (fun _ => rfl) ?_ | refine x_storeA hg rfl rfl rfl rfl rfl rfl (by rfl) (by rfl) ?_ | refine x_alloc hg rfl rfl rfl rfl ?_ | refine x_pickF hg rfl rfl rfl rfl ?_); clear hg)))
  (refine ends_res1 Try.results13 (by first | exact item_tmp rfl | exact item_cellS rfl rfl rfl | exact item_cellO rfl rfl) ?_ ?_; (repeat (first | exact .nil | refine .cons ?_ ?_ | refine .o ?_ | refine .a ?_ | exact .c rfl | exact .r (by rfl) rfl | exact .nil _ _ rfl | (refine .c ?_; rotate_left) | (refine .r (by rfl) ?_; rotate_left) | (refine .nil _ _ ?_; rotate_left))); all_goals (try rfl))
end Go.Proofs.Ytengkenhmnpbeaa.C

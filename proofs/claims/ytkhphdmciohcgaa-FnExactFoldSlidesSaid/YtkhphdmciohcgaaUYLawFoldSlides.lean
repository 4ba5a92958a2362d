import Derived.Test.YtkhphdmciohcgaaUp
import Derived.Test.YtkhphdmciohcgaaUYFsS
import Derived.Test.YtkhphdmciohcgaaUYFsI
import Derived.Test.YtkhphdmciohcgaaPHA
import Derived.Test.YtkhphdmciohcgaaUYHFrameN
import Derived.Test.YtkhphdmciohcgaaPMb
namespace Go.Proofs.Ytkhphdmciohcgaa.C
open Go.RowKit Go.Proofs.YtkhphdmciohcgaaW Go.Proofs.YtkhphdmciohcgaaW.PrintWords Go.Proofs.Ytkhphdmciohcgaa.U
set_option maxHeartbeats 1000000
set_option maxRecDepth 100000
set_option linter.unusedVariables false
set_option linter.unusedSimpArgs false
set_option maxHeartbeats 8000000 in
theorem y_lawFoldSlides (l : List Frame) (size : Int) (hop : Int) (hl : l.length ≤ 9223372036854775807) : FnR Try.prog 4 [.o (.r kFrame 57 l), .o (.c (.int .i64 size)), .o (.c (.int .i64 hop))] (.one (.o (.c (.bool true)))) := by
  have cS0 := y_szFrameS l 1048576 (by omega) hl
  by_cases hc0 : (1048576 : Int) < l.length
  · rw [if_pos hc0] at cS0
    refine fnR_of_ax Try.func4 rfl Try.ntmps4 rfl (fun w => ?_)
    (repeat (first | (with_reducible first | refine then_normal ?_ | refine then_exit ?_ | refine then_ret ?_ | refine out_same ?_ | refine out_other rfl ?_ | refine out_ret ?_ | refine out_normal ?_ | refine ax_seq ?_ | refine ax_plain ?_ | refine ax_drawn (by kernel_rfl) ?_ | refine ax_block ?_ | refine ax_skip ?_ | refine ax_exit ?_ | refine ax_ret ?_ | refine LX.nil ?_) | refine And.intro (by kernel_rfl) ?_ | refine ax_condT rfl ?_ | refine ax_condF rfl ?_ | refine ax_condHT rfl (by assumption) ?_ | refine ax_condHF rfl (by assumption) ?_ | refine Lx.off (goff_some rfl rfl rfl rfl) rfl ?_ | refine Lx.off (goff_undef rfl rfl rfl) rfl ?_ | (refine withG (by first | exact gon_none rfl | exact gon_some rfl rfl rfl) (fun hg => ?_); (first | refine x_call hg (by rfl) (cS0) (by rfl) (by rfl) Try.func14 (by kernel_rfl) (by rfl) (by rfl) (by first | ((repeat (first | exact .nil | refine .cons ?_ ?_ | refine .o ?_ | refine .a ?_ | exact .c _ | exact .r rfl .ro | exact .r rfl (.row _) | exact .nil _ _)); done) | fail) (by rfl) ?_ | (refine gate gCmp rfl ?_; refine x_binH hg rfl rfl rfl rfl (fun _ => rfl) (by assumption) ?_) | refine Lx.move hg rfl rfl rfl ?_ | refine Lx.assign hg rfl rfl rfl ?_ | refine Lx.bin hg rfl rfl rfl rfl (fun _ => rfl) ?_ | refine Lx.un hg rfl rfl rfl (fun _ => rfl) ?_ | refine x_pickT hg rfl rfl rfl rfl ?_ | refine x_pickF hg rfl rfl rfl rfl ?_); clear hg)))
    (refine ends_res1 Try.results4 (by first | exact item_tmp rfl | exact item_cellS rfl rfl rfl | exact item_cellO rfl rfl) ?_ ?_; (repeat (first | exact .nil | refine .cons ?_ ?_ | refine .o ?_ | refine .a ?_ | exact .c rfl | exact .r (by rfl) rfl | exact .nil _ _ rfl | (refine .c ?_; rotate_left) | (refine .r (by rfl) ?_; rotate_left) | (refine .nil _ _ ?_; rotate_left))); all_goals (try rfl))
  rw [if_neg hc0] at cS0
  have hd0 : decide ((1048576 : Int) - (l.length : Int) < 0) = false := by simp; omega
  have b0 : l.length ≤ 1048576 := by omega
  clear hl
  have cT0 := y_toFrameS l (by omega)
  have cE0 := y_eqFrameS l l (by omega)
  rw [decide_eq_true rfl] at cE0
  have cK0 := y_markFrameS l 1 (by omega) (by omega)
  have dk : decide (1 + (l.length : Int) * 4 < 0) = false := by simp; omega
  have hb := foldSl_len l size hop
  have cSp := yS_foldSl l size hop (by omega)
  have cIm := yI_foldSl l size hop (by omega)
  generalize foldSl l size hop = q at cSp cIm hb
  have cR0 := y_eqAggS q q (by omega)
  rw [decide_eq_true rfl] at cR0
  have cM0 := y_markAggS q 1 (by omega) (by omega)
  have cH0 := y_heldAggS q.length 1 (by omega) (by omega)
  have dq0 : decide (1 + (q.length : Int) * 6 < 0) = false := by simp; omega
  have dm : (1 + (q.length : Int) * 6 != 1 + (q.length : Int) * 6) = false := by simp
  refine fnR_of_ax Try.func4 rfl Try.ntmps4 rfl (fun w => ?_)
  (repeat (first | (with_reducible first | refine then_normal ?_ | refine then_exit ?_ | refine then_ret ?_ | refine out_same ?_ | refine out_other rfl ?_ | refine out_ret ?_ | refine out_normal ?_ | refine ax_seq ?_ | refine ax_plain ?_ | refine ax_drawn (by kernel_rfl) ?_ | refine ax_block ?_ | refine ax_skip ?_ | refine ax_exit ?_ | refine ax_ret ?_ | refine LX.nil ?_) | refine And.intro (by kernel_rfl) ?_ | refine ax_condT rfl ?_ | refine ax_condF rfl ?_ | refine ax_condHT rfl (by assumption) ?_ | refine ax_condHF rfl (by assumption) ?_ | refine Lx.off (goff_some rfl rfl rfl rfl) rfl ?_ | refine Lx.off (goff_undef rfl rfl rfl) rfl ?_ | (refine withG (by first | exact gon_none rfl | exact gon_some rfl rfl rfl) (fun hg => ?_); (first | refine x_call hg (by rfl) (cS0) (by rfl) (by rfl) Try.func14 (by kernel_rfl) (by rfl) (by rfl) (by first | ((repeat (first | exact .nil | refine .cons ?_ ?_ | refine .o ?_ | refine .a ?_ | exact .c _ | exact .r rfl .ro | exact .r rfl (.row _) | exact .nil _ _)); done) | fail) (by rfl) ?_ | refine x_call hg (by rfl) (cT0) (by rfl) (by rfl) Try.func16 (by kernel_rfl) (by rfl) (by rfl) (by first | ((repeat (first | exact .nil | refine .cons ?_ ?_ | refine .o ?_ | refine .a ?_ | exact .c _ | exact .r rfl .ro | exact .r rfl (.row _) | exact .nil _ _)); done) | fail) (by rfl) ?_ | refine x_call hg (by rfl) (cE0) (by rfl) (by rfl) Try.func18 (by kernel_rfl) (by rfl) (by rfl) (by first | ((repeat (first | exact .nil | refine .cons ?_ ?_ | refine .o ?_ | refine .a ?_ | exact .c _ | exact .r rfl .ro | exact .r rfl (.row _) | exact .nil _ _)); done) | fail) (by rfl) ?_ | refine x_callW hg (by rfl) (cK0) (by (repeat (first | exact .nil | refine .cons ?_ ?_ | refine .o ?_ | refine .a ?_ | exact .c _ | exact .r _ _ _ _))) (by rfl) Try.func19 (by kernel_rfl) (by rfl) (by rfl) (by first | ((repeat (first | exact .nil | refine .cons ?_ ?_ | refine .o ?_ | refine .a ?_ | exact .c (by rfl) | exact .r (by rfl) (by rfl) | exact .nil _ _ rfl)); done) | fail) (by rfl) ?_ | refine x_call hg (by rfl) (cSp) (by rfl) (by rfl) Try.func15 (by kernel_rfl) (by rfl) (by rfl) (by first | ((repeat (first | exact .nil | refine .cons ?_ ?_ | refine .o ?_ | refine .a ?_ | exact .c _ | exact .r rfl .ro | exact .r rfl (.row _) | exact .nil _ _)); done) | fail) (by rfl) ?_ | refine x_call hg (by rfl) (cIm) (by rfl) (by rfl) Try.func17 (by kernel_rfl) (by rfl) (by rfl) (by first | ((repeat (first | exact .nil | refine .cons ?_ ?_ | refine .o ?_ | refine .a ?_ | exact .c _ | exact .r rfl .ro | exact .r rfl (.row _) | exact .nil _ _)); done) | fail) (by rfl) ?_ | refine x_call hg (by rfl) (cR0) (by rfl) (by rfl) Try.func10 (by kernel_rfl) (by rfl) (by rfl) (by first | ((repeat (first | exact .nil | refine .cons ?_ ?_ | refine .o ?_ | refine .a ?_ | exact .c _ | exact .r rfl .ro | exact .r rfl (.row _) | exact .nil _ _)); done) | fail) (by rfl) ?_ | refine x_callW hg (by rfl) (cM0) (by (repeat (first | exact .nil | refine .cons ?_ ?_ | refine .o ?_ | refine .a ?_ | exact .c _ | exact .r _ _ _ _))) (by rfl) Try.func11 (by kernel_rfl) (by rfl) (by rfl) (by first | ((repeat (first | exact .nil | refine .cons ?_ ?_ | refine .o ?_ | refine .a ?_ | exact .c (by rfl) | exact .r (by rfl) (by rfl) | exact .nil _ _ rfl)); done) | fail) (by rfl) ?_ | refine x_call hg (by rfl) (cH0) (by rfl) (by rfl) Try.func20 (by kernel_rfl) (by rfl) (by rfl) (by first | ((repeat (first | exact .nil | refine .cons ?_ ?_ | refine .o ?_ | refine .a ?_ | exact .c _ | exact .r rfl .ro | exact .r rfl (.row _) | exact .nil _ _)); done) | fail) (by rfl) ?_ | (refine gate gCmp rfl ?_; refine x_binH hg rfl rfl rfl rfl (fun _ => rfl) (by assumption) ?_) | refine Lx.move hg rfl rfl rfl ?_ | refine Lx.assign hg rfl rfl rfl ?_ | refine Lx.bin hg rfl rfl rfl rfl (fun _ => rfl) ?_ | refine Lx.un hg rfl rfl rfl (fun _ => rfl) ?_ | refine x_pickT hg rfl rfl rfl rfl ?_ | refine x_pickF hg rfl rfl rfl rfl ?_); clear hg)))
  (refine ends_res1 Try.results4 (by first | exact item_tmp rfl | exact item_cellS rfl rfl rfl | exact item_cellO rfl rfl) ?_ ?_; (repeat (first | exact .nil | refine .cons ?_ ?_ | refine .o ?_ | refine .a ?_ | exact .c rfl | exact .r (by rfl) rfl | exact .nil _ _ rfl | (refine .c ?_; rotate_left) | (refine .r (by rfl) ?_; rotate_left) | (refine .nil _ _ ?_; rotate_left))); all_goals (try rfl))
end Go.Proofs.Ytkhphdmciohcgaa.C

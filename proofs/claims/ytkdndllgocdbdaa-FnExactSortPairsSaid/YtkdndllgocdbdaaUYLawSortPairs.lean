import Derived.Test.YtkdndllgocdbdaaUp
import Derived.Test.YtkdndllgocdbdaaUYSortI
import Derived.Test.YtkdndllgocdbdaaUYSortS
import Derived.Test.YtkdndllgocdbdaaPHP
import Derived.Test.YtkdndllgocdbdaaPMb
namespace Go.Proofs.Ytkdndllgocdbdaa.C
open Go.RowKit Go.Proofs.YtkdndllgocdbdaaW Go.Proofs.YtkdndllgocdbdaaW.PrintWords Go.Proofs.Ytkdndllgocdbdaa.U
set_option maxHeartbeats 1000000
set_option maxRecDepth 100000
set_option linter.unusedVariables false
set_option linter.unusedSimpArgs false
set_option maxHeartbeats 8000000 in
theorem y_lawSortPairs (l : List Pair) (hl : l.length ≤ 9223372036854775807) : FnR Try.prog 11 [.o (.r kPair 93 l)] (.one (.o (.c (.bool true)))) := by
  have cS0 := y_szPairS l 1048576 (by omega) hl
  by_cases hc0 : (1048576 : Int) < l.length
  · rw [if_pos hc0] at cS0
    refine fnR_of_ax Try.func11 rfl Try.ntmps11 rfl (fun w => ?_)
    (repeat (first | (with_reducible first | refine then_normal ?_ | refine then_exit ?_ | refine then_ret ?_ | refine out_same ?_ | refine out_other rfl ?_ | refine out_ret ?_ | refine out_normal ?_ | refine ax_seq ?_ | refine ax_plain ?_ | refine ax_drawn (by kernel_rfl) ?_ | refine ax_block ?_ | refine ax_skip ?_ | refine ax_exit ?_ | refine ax_ret ?_ | refine LX.nil ?_) | refine And.intro (by kernel_rfl) ?_ | refine ax_condT rfl ?_ | refine ax_condF rfl ?_ | refine ax_condHT rfl (by assumption) ?_ | refine ax_condHF rfl (by assumption) ?_ | refine Lx.off (goff_some rfl rfl rfl rfl) rfl ?_ | refine Lx.off (goff_undef rfl rfl rfl) rfl ?_ | (refine withG (by first | exact gon_none rfl | exact gon_some rfl rfl rfl) (fun hg => ?_); (first | refine x_call hg (by rfl) (cS0) (by rfl) (by rfl) Try.func41 (by kernel_rfl) (by rfl) (by rfl) (by first | ((repeat (first | exact .nil | refine .cons ?_ ?_ | refine .o ?_ | refine .a ?_ | exact .c _ | exact .r rfl .ro | exact .r rfl (.row _) | exact .nil _ _)); done) | fail) (by rfl) ?_ | (refine gate gCmp rfl ?_; refine x_binH hg rfl rfl rfl rfl (fun _ => rfl) (by assumption) ?_) | refine Lx.move hg rfl rfl rfl ?_ | refine Lx.assign hg rfl rfl rfl ?_ | refine Lx.bin hg rfl rfl rfl rfl (fun _ => rfl) ?_ | refine Lx.un hg rfl rfl rfl (fun _ => rfl) ?_ | refine x_pickT hg rfl rfl rfl rfl ?_ | refine x_pickF hg rfl rfl rfl rfl ?_); clear hg)))
    (refine ends_res1 Try.results11 (by first | exact item_tmp rfl | exact item_cellS rfl rfl rfl | exact item_cellO rfl rfl) ?_ ?_; (repeat (first | exact .nil | refine .cons ?_ ?_ | refine .o ?_ | refine .a ?_ | exact .c rfl | exact .r (by rfl) rfl | exact .nil _ _ rfl | (refine .c ?_; rotate_left) | (refine .r (by rfl) ?_; rotate_left) | (refine .nil _ _ ?_; rotate_left))); all_goals (try rfl))
  rw [if_neg hc0] at cS0
  have hd0 : decide ((1048576 : Int) - (l.length : Int) < 0) = false := by simp; omega
  have b0 : l.length ≤ 1048576 := by omega
  clear hl
  have cT0 := y_toPairS l (by omega)
  have cE0 := y_eqPairS l l (by omega)
  rw [decide_eq_true rfl] at cE0
  have cK0 := y_markPairS l 1 (by omega) (by omega)
  have dk : decide (1 + (l.length : Int) * 5 < 0) = false := by simp; omega
  have cSp := yS_sortP l (by omega)
  have cIm := yI_sortP l (by omega)
  have qq : (sortP l).length ≤ 1600 := sortP_len l
  generalize sortP l = q at cSp cIm qq
  have cR0 := y_eqPairS q q (by omega)
  rw [decide_eq_true rfl] at cR0
  have cM0 := y_markPairS q 1 (by omega) (by omega)
  have cH0 := y_heldPairS q.length 1 (by omega) (by omega)
  have dq0 : decide (1 + (q.length : Int) * 5 < 0) = false := by simp; omega
  have dm : (1 + (q.length : Int) * 5 != 1 + (q.length : Int) * 5) = false := by simp
  refine fnR_of_ax Try.func11 rfl Try.ntmps11 rfl (fun w => ?_)
  (repeat (first | (with_reducible first | refine then_normal ?_ | refine then_exit ?_ | refine then_ret ?_ | refine out_same ?_ | refine out_other rfl ?_ | refine out_ret ?_ | refine out_normal ?_ | refine ax_seq ?_ | refine ax_plain ?_ | refine ax_drawn (by kernel_rfl) ?_ | refine ax_block ?_ | refine ax_skip ?_ | refine ax_exit ?_ | refine ax_ret ?_ | refine LX.nil ?_) | refine And.intro (by kernel_rfl) ?_ | refine ax_condT rfl ?_ | refine ax_condF rfl ?_ | refine ax_condHT rfl (by assumption) ?_ | refine ax_condHF rfl (by assumption) ?_ | refine Lx.off (goff_some rfl rfl rfl rfl) rfl ?_ | refine Lx.off (goff_undef rfl rfl rfl) rfl ?_ | (refine withG (by first | exact gon_none rfl | exact gon_some rfl rfl rfl) (fun hg => ?_); (first | refine x_call hg (by rfl) (cS0) (by rfl) (by rfl) Try.func41 (by kernel_rfl) (by rfl) (by rfl) (by first | ((repeat (first | exact .nil | refine .cons ?_ ?_ | refine .o ?_ | refine .a ?_ | exact .c _ | exact .r rfl .ro | exact .r rfl (.row _) | exact .nil _ _)); done) | fail) (by rfl) ?_ | refine x_call hg (by rfl) (cT0) (by rfl) (by rfl) Try.func43 (by kernel_rfl) (by rfl) (by rfl) (by first | ((repeat (first | exact .nil | refine .cons ?_ ?_ | refine .o ?_ | refine .a ?_ | exact .c _ | exact .r rfl .ro | exact .r rfl (.row _) | exact .nil _ _)); done) | fail) (by rfl) ?_ | refine x_call hg (by rfl) (cE0) (by rfl) (by rfl) Try.func31 (by kernel_rfl) (by rfl) (by rfl) (by first | ((repeat (first | exact .nil | refine .cons ?_ ?_ | refine .o ?_ | refine .a ?_ | exact .c _ | exact .r rfl .ro | exact .r rfl (.row _) | exact .nil _ _)); done) | fail) (by rfl) ?_ | refine x_callW hg (by rfl) (cK0) (by (repeat (first | exact .nil | refine .cons ?_ ?_ | refine .o ?_ | refine .a ?_ | exact .c _ | exact .r _ _ _ _))) (by rfl) Try.func32 (by kernel_rfl) (by rfl) (by rfl) (by first | ((repeat (first | exact .nil | refine .cons ?_ ?_ | refine .o ?_ | refine .a ?_ | exact .c (by rfl) | exact .r (by rfl) (by rfl) | exact .nil _ _ rfl)); done) | fail) (by rfl) ?_ | refine x_call hg (by rfl) (cSp) (by rfl) (by rfl) Try.func50 (by kernel_rfl) (by rfl) (by rfl) (by first | ((repeat (first | exact .nil | refine .cons ?_ ?_ | refine .o ?_ | refine .a ?_ | exact .c _ | exact .r rfl .ro | exact .r rfl (.row _) | exact .nil _ _)); done) | fail) (by rfl) ?_ | refine x_call hg (by rfl) (cIm) (by rfl) (by rfl) Try.func51 (by kernel_rfl) (by rfl) (by rfl) (by first | ((repeat (first | exact .nil | refine .cons ?_ ?_ | refine .o ?_ | refine .a ?_ | exact .c _ | exact .r rfl .ro | exact .r rfl (.row _) | exact .nil _ _)); done) | fail) (by rfl) ?_ | refine x_call hg (by rfl) (cR0) (by rfl) (by rfl) Try.func31 (by kernel_rfl) (by rfl) (by rfl) (by first | ((repeat (first | exact .nil | refine .cons ?_ ?_ | refine .o ?_ | refine .a ?_ | exact .c _ | exact .r rfl .ro | exact .r rfl (.row _) | exact .nil _ _)); done) | fail) (by rfl) ?_ | refine x_callW hg (by rfl) (cM0) (by (repeat (first | exact .nil | refine .cons ?_ ?_ | refine .o ?_ | refine .a ?_ | exact .c _ | exact .r _ _ _ _))) (by rfl) Try.func32 (by kernel_rfl) (by rfl) (by rfl) (by first | ((repeat (first | exact .nil | refine .cons ?_ ?_ | refine .o ?_ | refine .a ?_ | exact .c (by rfl) | exact .r (by rfl) (by rfl) | exact .nil _ _ rfl)); done) | fail) (by rfl) ?_ | refine x_call hg (by rfl) (cH0) (by rfl) (by rfl) Try.func33 (by kernel_rfl) (by rfl) (by rfl) (by first | ((repeat (first | exact .nil | refine .cons ?_ ?_ | refine .o ?_ | refine .a ?_ | exact .c _ | exact .r rfl .ro | exact .r rfl (.row _) | exact .nil _ _)); done) | fail) (by rfl) ?_ | (refine gate gCmp rfl ?_; refine x_binH hg rfl rfl rfl rfl (fun _ => rfl) (by assumption) ?_) | refine Lx.move hg rfl rfl rfl ?_ | refine Lx.assign hg rfl rfl rfl ?_ | refine Lx.bin hg rfl rfl rfl rfl (fun _ => rfl) ?_ | refine Lx.un hg rfl rfl rfl (fun _ => rfl) ?_ | refine x_pickT hg rfl rfl rfl rfl ?_ | refine x_pickF hg rfl rfl rfl rfl ?_); clear hg)))
  (refine ends_res1 Try.results11 (by first | exact item_tmp rfl | exact item_cellS rfl rfl rfl | exact item_cellO rfl rfl) ?_ ?_; (repeat (first | exact .nil | refine .cons ?_ ?_ | refine .o ?_ | refine .a ?_ | exact .c rfl | exact .r (by rfl) rfl | exact .nil _ _ rfl | (refine .c ?_; rotate_left) | (refine .r (by rfl) ?_; rotate_left) | (refine .nil _ _ ?_; rotate_left))); all_goals (try rfl))
end Go.Proofs.Ytkdndllgocdbdaa.C

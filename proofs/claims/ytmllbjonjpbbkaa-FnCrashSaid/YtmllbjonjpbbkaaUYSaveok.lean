import Derived.Test.YtmllbjonjpbbkaaUp
import Derived.Test.YtmllbjonjpbbkaaPSb
import Derived.Test.YtmllbjonjpbbkaaPSe
import Derived.Test.YtmllbjonjpbbkaaUYTsave
namespace Go.Proofs.Ytmllbjonjpbbkaa.C
open Go.RowKit Go.Proofs.YtmllbjonjpbbkaaW Go.Proofs.YtmllbjonjpbbkaaW.PrintWords Go.Proofs.Ytmllbjonjpbbkaa.U
set_option maxHeartbeats 1000000
set_option maxRecDepth 100000
set_option linter.unusedVariables false
set_option linter.unusedSimpArgs false
theorem yI_SaveOk (x : Save) (hn : x.aggs.length ≤ 1000000000) : FnR Try.prog 93 [.a [.c (.int .i64 x.at_), .r kAgg 92 x.aggs, .c (.int .i64 x.mark), .c (.int .i64 x.late), .c (.int .i64 x.over)]] (.one (.o (.c (.bool (okSave x))))) := by
  have c1 := yI_within x.at_ 0 300
  have c2 := yI_ShardOk x.aggs x.mark x.late x.over hn
  unfold okSave
  generalize okShard x.aggs x.mark x.late x.over = b2 at c2
  cases h : inB x.at_ 0 300
  all_goals
    rw [h] at c1
    refine fnR_of_ax Try.func93 rfl Try.ntmps93 rfl (fun w => ?_)
    (repeat (first | (with_reducible first | refine then_normal ?_ | refine ax_seq ?_ | refine ax_plain ?_ | refine ax_ret ?_ | refine LX.nil ?_) | refine Lx.off (goff_some rfl rfl rfl rfl) rfl ?_ | (refine withG (by first | exact gon_none rfl | exact gon_some rfl rfl rfl) (fun hg => ?_); (first | refine x_call hg (by rfl) (c1) (by rfl) (by rfl) Try.func58 (by kernel_rfl) (by rfl) (by rfl) (by first | ((repeat (first | exact .nil | refine .cons ?_ ?_ | refine .o ?_ | refine .a ?_ | exact .c _ | exact .r rfl .ro | exact .r rfl (.row _) | exact .nil _ _)); done) | fail) (by rfl) ?_ | refine x_call hg (by rfl) (c2) (by rfl) (by rfl) Try.func56 (by kernel_rfl) (by rfl) (by rfl) (by first | ((repeat (first | exact .nil | refine .cons ?_ ?_ | refine .o ?_ | refine .a ?_ | exact .c _ | exact .r rfl .ro | exact .r rfl (.row _) | exact .nil _ _)); done) | fail) (by rfl) ?_ | refine Lx.move hg rfl rfl rfl ?_ | refine Lx.assign hg rfl rfl rfl ?_ | refine x_load1 hg rfl rfl rfl rfl rfl ?_ | refine x_fieldP hg rfl rfl rfl (by rfl) (by rfl) ?_ | refine x_loadA hg rfl rfl rfl rfl (by rfl) ?_ | refine x_box hg rfl rfl rfl rfl rfl rfl ?_ | refine x_pickT hg rfl rfl rfl rfl ?_ | refine x_pickF hg rfl rfl rfl rfl ?_); clear hg)))
    (refine ends_res1 Try.results93 (by first | exact item_tmp rfl | exact item_cellS rfl rfl rfl | exact item_cellO rfl rfl) ?_ ?_; (repeat (first | exact .nil | refine .cons ?_ ?_ | refine .o ?_ | refine .a ?_ | exact .c rfl | exact .r (by rfl) rfl | exact .nil _ _ rfl | (refine .c ?_; rotate_left) | (refine .r (by rfl) ?_; rotate_left) | (refine .nil _ _ ?_; rotate_left))); all_goals (try rfl))
theorem yS_SaveOk (x : Save) (hn : x.aggs.length ≤ 1000000000) : FnR Try.prog 79 [.a [.c (.int .i64 x.at_), .r kAgg 92 x.aggs, .c (.int .i64 x.mark), .c (.int .i64 x.late), .c (.int .i64 x.over)]] (.one (.o (.c (.bool (okSave x))))) := by
  have c1 := yS_within x.at_ 0 300
  have c2 := yS_ShardOk x.aggs x.mark x.late x.over hn
  unfold okSave
  generalize okShard x.aggs x.mark x.late x.over = b2 at c2
  cases h : inB x.at_ 0 300
  all_goals
    rw [h] at c1
    refine fnR_of_ax Try.func79 rfl Try.ntmps79 rfl (fun w => ?_)
    (repeat (first | (with_reducible first | refine then_normal ?_ | refine ax_seq ?_ | refine ax_plain ?_ | refine ax_ret ?_ | refine LX.nil ?_) | refine Lx.off (goff_some rfl rfl rfl rfl) rfl ?_ | (refine withG (by first | exact gon_none rfl | exact gon_some rfl rfl rfl) (fun hg => ?_); (first | refine x_call hg (by rfl) (c1) (by rfl) (by rfl) Try.func30 (by kernel_rfl) (by rfl) (by rfl) (by first | ((repeat (first | exact .nil | refine .cons ?_ ?_ | refine .o ?_ | refine .a ?_ | exact .c _ | exact .r rfl .ro | exact .r rfl (.row _) | exact .nil _ _)); done) | fail) (by rfl) ?_ | refine x_call hg (by rfl) (c2) (by rfl) (by rfl) Try.func29 (by kernel_rfl) (by rfl) (by rfl) (by first | ((repeat (first | exact .nil | refine .cons ?_ ?_ | refine .o ?_ | refine .a ?_ | exact .c _ | exact .r rfl .ro | exact .r rfl (.row _) | exact .nil _ _)); done) | fail) (by rfl) ?_ | refine Lx.move hg rfl rfl rfl ?_ | refine Lx.assign hg rfl rfl rfl ?_ | refine x_load1 hg rfl rfl rfl rfl rfl ?_ | refine x_fieldP hg rfl rfl rfl (by rfl) (by rfl) ?_ | refine x_loadA hg rfl rfl rfl rfl (by rfl) ?_ | refine x_box hg rfl rfl rfl rfl rfl rfl ?_ | refine x_pickT hg rfl rfl rfl rfl ?_ | refine x_pickF hg rfl rfl rfl rfl ?_); clear hg)))
    (refine ends_res1 Try.results79 (by first | exact item_tmp rfl | exact item_cellS rfl rfl rfl | exact item_cellO rfl rfl) ?_ ?_; (repeat (first | exact .nil | refine .cons ?_ ?_ | refine .o ?_ | refine .a ?_ | exact .c rfl | exact .r (by rfl) rfl | exact .nil _ _ rfl | (refine .c ?_; rotate_left) | (refine .r (by rfl) ?_; rotate_left) | (refine .nil _ _ ?_; rotate_left))); all_goals (try rfl))
end Go.Proofs.Ytmllbjonjpbbkaa.C

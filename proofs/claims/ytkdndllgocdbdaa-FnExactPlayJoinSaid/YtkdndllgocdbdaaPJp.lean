import Derived.Test.YtkdndllgocdbdaaUp
import Derived.Test.YtkdndllgocdbdaaPJf
import Derived.Test.YtkdndllgocdbdaaPJg
import Derived.Test.YtkdndllgocdbdaaPPl
namespace Go.Proofs.Ytkdndllgocdbdaa.C
open Go.RowKit Go.Proofs.YtkdndllgocdbdaaW Go.Proofs.YtkdndllgocdbdaaW.PrintWords Go.Proofs.Ytkdndllgocdbdaa.U
set_option maxHeartbeats 1000000
set_option maxRecDepth 100000
set_option linter.unusedVariables false
set_option linter.unusedSimpArgs false
theorem yI_FrameOk (x : Frame) : FnR Try.prog 83 [.a [.c (.int .i64 x.kind), .c (.int .i64 x.key), .c (.int .i64 x.time), .c (.int .i64 x.value)]] (.one (.o (.c (.bool (okFrame x))))) := fnR_plain rfl (fun w => impl_FrameOk x w)
theorem yS_FrameOk (x : Frame) : FnR Try.prog 81 [.a [.c (.int .i64 x.kind), .c (.int .i64 x.key), .c (.int .i64 x.time), .c (.int .i64 x.value)]] (.one (.o (.c (.bool (okFrame x))))) := fnR_plain rfl (fun w => spec_FrameOk x w)
theorem yI_NewJoin : FnR Try.prog 82 [] (.one (.a [.r kFrame 56 [], .r kFrame 56 [], .c (.int .i64 (-1))])) := by
  refine fnR_of_ax Try.func82 rfl Try.ntmps82 rfl (fun w => ?_)
  (repeat (first | (with_reducible first | refine then_normal ?_ | refine then_exit ?_ | refine then_ret ?_ | refine out_same ?_ | refine out_other rfl ?_ | refine out_ret ?_ | refine out_normal ?_ | refine ax_seq ?_ | refine ax_plain ?_ | refine ax_drawn (by kernel_rfl) ?_ | refine ax_block ?_ | refine ax_skip ?_ | refine ax_exit ?_ | refine ax_ret ?_ | refine LX.nil ?_) | refine And.intro (by kernel_rfl) ?_ | refine ax_condT rfl ?_ | refine ax_condF rfl ?_ | refine ax_condHT rfl (by assumption) ?_ | refine ax_condHF rfl (by assumption) ?_ | (refine withG (by first | exact gon_none rfl | exact gon_some rfl rfl rfl) (fun hg => ?_); (first | (refine gate gStore rfl ?_; refine x_storeE1 hg rfl rfl rfl rfl rfl (by first | assumption | exact set_get (by first | assumption | omega | (simp only [List.length_set]; first | assumption | omega))) rfl (by rfl) (by rfl) ?_) | (refine gate gStore rfl ?_; refine x_storeEA hg rfl rfl rfl rfl rfl (by first | assumption | exact set_get (by first | assumption | omega | (simp only [List.length_set]; first | assumption | omega))) rfl (by rfl) (by rfl) (by rfl) ?_) | refine x_store1 hg rfl rfl rfl rfl rfl rfl rfl ?_ | refine x_storeA hg rfl rfl rfl rfl rfl rfl (by rfl) (by rfl) ?_ | refine x_alloc hg rfl rfl rfl rfl ?_ | refine x_build hg rfl rfl rfl (by rfl) ?_); clear hg)))
  (refine ends_res1 Try.results82 (by first | exact item_tmp rfl | exact item_cellS rfl rfl rfl | exact item_cellO rfl rfl) ?_ ?_; (repeat (first | exact .nil | refine .cons ?_ ?_ | refine .o ?_ | refine .a ?_ | exact .c rfl | exact .r (by rfl) rfl | exact .nil _ _ rfl | (refine .c ?_; rotate_left) | (refine .r (by rfl) ?_; rotate_left) | (refine .nil _ _ ?_; rotate_left))); all_goals (try rfl))
theorem yI_Raise (l l' : List Frame) (m by_ mk : Int) (hn : l.length ≤ 2000000) (hn' : l'.length ≤ 2000000) : FnR Try.prog 35 [.a [.r kFrame 56 l, .r kFrame 56 l', .c (.int .i64 m)], .o (.c (.int .i64 by_)), .o (.c (.int .i64 mk))] (.many [.a [.r kFrame 56 (rjL l l' m by_ mk), .r kFrame 56 (rjR l l' m by_ mk), .c (.int .i64 (rjM l l' m by_ mk))], .o (.c (.int .i64 (rjN l l' m by_ mk)))]) := by
  cases h : rjOk l l' m by_ mk
  · simp only [rjL, rjR, rjM, rjN, h, Bool.false_eq_true, if_false]
    exact yI_raiseBad l l' m by_ mk hn hn' h
  · simp only [rjL, rjR, rjM, rjN, h, if_true]
    exact yI_raiseGood l l' m by_ mk hn hn' h
theorem yS_NewJoin : FnR Try.prog 80 [] (.one (.a [.r kFrame 56 [], .r kFrame 56 [], .c (.int .i64 (-1))])) := by
  refine fnR_of_ax Try.func80 rfl Try.ntmps80 rfl (fun w => ?_)
  (repeat (first | (with_reducible first | refine then_normal ?_ | refine then_exit ?_ | refine then_ret ?_ | refine out_same ?_ | refine out_other rfl ?_ | refine out_ret ?_ | refine out_normal ?_ | refine ax_seq ?_ | refine ax_plain ?_ | refine ax_drawn (by kernel_rfl) ?_ | refine ax_block ?_ | refine ax_skip ?_ | refine ax_exit ?_ | refine ax_ret ?_ | refine LX.nil ?_) | refine And.intro (by kernel_rfl) ?_ | refine ax_condT rfl ?_ | refine ax_condF rfl ?_ | refine ax_condHT rfl (by assumption) ?_ | refine ax_condHF rfl (by assumption) ?_ | (refine withG (by first | exact gon_none rfl | exact gon_some rfl rfl rfl) (fun hg => ?_); (first | (refine gate gStore rfl ?_; refine x_storeE1 hg rfl rfl rfl rfl rfl (by first | assumption | exact set_get (by first | assumption | omega | (simp only [List.length_set]; first | assumption | omega))) rfl (by rfl) (by rfl) ?_) | (refine gate gStore rfl ?_; refine x_storeEA hg rfl rfl rfl rfl rfl (by first | assumption | exact set_get (by first | assumption | omega | (simp only [List.length_set]; first | assumption | omega))) rfl (by rfl) (by rfl) (by rfl) ?_) | refine x_store1 hg rfl rfl rfl rfl rfl rfl rfl ?_ | refine x_storeA hg rfl rfl rfl rfl rfl rfl (by rfl) (by rfl) ?_ | refine x_alloc hg rfl rfl rfl rfl ?_ | refine x_build hg rfl rfl rfl (by rfl) ?_); clear hg)))
  (refine ends_res1 Try.results80 (by first | exact item_tmp rfl | exact item_cellS rfl rfl rfl | exact item_cellO rfl rfl) ?_ ?_; (repeat (first | exact .nil | refine .cons ?_ ?_ | refine .o ?_ | refine .a ?_ | exact .c rfl | exact .r (by rfl) rfl | exact .nil _ _ rfl | (refine .c ?_; rotate_left) | (refine .r (by rfl) ?_; rotate_left) | (refine .nil _ _ ?_; rotate_left))); all_goals (try rfl))
theorem yS_Raise (l l' : List Frame) (m by_ mk : Int) (hn : l.length ≤ 2000000) (hn' : l'.length ≤ 2000000) : FnR Try.prog 34 [.a [.r kFrame 56 l, .r kFrame 56 l', .c (.int .i64 m)], .o (.c (.int .i64 by_)), .o (.c (.int .i64 mk))] (.many [.a [.r kFrame 56 (rjL l l' m by_ mk), .r kFrame 56 (rjR l l' m by_ mk), .c (.int .i64 (rjM l l' m by_ mk))], .o (.c (.int .i64 (rjN l l' m by_ mk)))]) := by
  cases h : rjOk l l' m by_ mk
  · simp only [rjL, rjR, rjM, rjN, h, Bool.false_eq_true, if_false]
    exact yS_raiseBad l l' m by_ mk hn hn' h
  · simp only [rjL, rjR, rjM, rjN, h, if_true]
    exact yS_raiseGood l l' m by_ mk hn hn' h
end Go.Proofs.Ytkdndllgocdbdaa.C

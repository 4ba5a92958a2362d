import Derived.Test.YtengkenhmnpbeaaUp
import Derived.Test.YtengkenhmnpbeaaPSa
import Derived.Test.YtengkenhmnpbeaaPTy
import Derived.Test.YtengkenhmnpbeaaPHA
import Derived.Test.YtengkenhmnpbeaaUYHShard
namespace Go.Proofs.Ytengkenhmnpbeaa.C
open Go.RowKit Go.Proofs.YtengkenhmnpbeaaW Go.Proofs.YtengkenhmnpbeaaW.PrintWords Go.Proofs.Ytengkenhmnpbeaa.U
set_option maxHeartbeats 1000000
set_option maxRecDepth 100000
set_option linter.unusedVariables false
set_option linter.unusedSimpArgs false
instance : TSave Try.prog 37 84 := ⟨trivial⟩
instance : TSave Try.prog 33 116 := ⟨trivial⟩
theorem y_toSave (x : Save) (hl : x.aggs.length ≤ 2000000) : FnR Try.prog 22 [.a [.c (.int .i64 x.at_), .r kAgg 116 x.aggs, .c (.int .i64 x.mark), .c (.int .i64 x.late), .c (.int .i64 x.over)]] (.one (.a [.c (.int .i64 x.at_), .r kAgg 84 x.aggs, .c (.int .i64 x.mark), .c (.int .i64 x.late), .c (.int .i64 x.over)])) := by
  refine fnR_of_ax Try.func22 rfl Try.ntmps22 rfl (fun w => ?_)
  (repeat (first | (with_reducible first | refine then_normal ?_ | refine ax_seq ?_ | refine ax_plain ?_ | refine ax_ret ?_ | refine LX.nil ?_) | (refine withG (by first | exact gon_none rfl | exact gon_some rfl rfl rfl) (fun hg => ?_); (first | refine x_call hg (by rfl) (y_toShard x.aggs x.mark x.late x.over hl) (by rfl) (by rfl) Try.func17 (by kernel_rfl) (by rfl) (by rfl) (by first | ((repeat (first | exact .nil | refine .cons ?_ ?_ | refine .o ?_ | refine .a ?_ | exact .c _ | exact .r rfl .ro | exact .r rfl (.row _) | exact .nil _ _)); done) | fail) (by rfl) ?_ | refine x_load1 hg rfl rfl rfl rfl rfl ?_ | refine x_fieldP hg rfl rfl rfl (by rfl) (by rfl) ?_ | refine x_loadA hg rfl rfl rfl rfl (by rfl) ?_ | refine x_store1 hg rfl rfl rfl rfl rfl rfl rfl ?_ | refine x_storeA hg rfl rfl rfl rfl rfl rfl (by rfl) (by rfl) ?_ | refine x_alloc hg rfl rfl rfl rfl ?_ | refine x_box hg rfl rfl rfl rfl rfl rfl ?_); clear hg)))
  (refine ends_res1 Try.results22 (by first | exact item_tmp rfl | exact item_cellS rfl rfl rfl | exact item_cellO rfl rfl) ?_ ?_; (repeat (first | exact .nil | refine .cons ?_ ?_ | refine .o ?_ | refine .a ?_ | exact .c rfl | exact .r (by rfl) rfl | exact .nil _ _ rfl | (refine .c ?_; rotate_left) | (refine .r (by rfl) ?_; rotate_left) | (refine .nil _ _ ?_; rotate_left))); all_goals (try rfl))
theorem y_szSave (x : Save) (k : Int) (hk : 0 ≤ k ∧ k ≤ 1048576) (hl : x.aggs.length ≤ 9223372036854775807) : FnR Try.prog 20 [.a [.c (.int .i64 x.at_), .r kAgg 116 x.aggs, .c (.int .i64 x.mark), .c (.int .i64 x.late), .c (.int .i64 x.over)], .o (.c (.int .i64 k))] (.one (.o (.c (.int .i64 (if k < x.aggs.length then -1 else k - x.aggs.length))))) := by
  have c1 := y_szShard x.aggs x.mark x.late x.over k hk hl
  by_cases hc : k < x.aggs.length
  · rw [if_pos hc] at c1
    rw [if_pos hc]
    refine fnR_of_ax Try.func20 rfl Try.ntmps20 rfl (fun w => ?_)
    (repeat (first | (with_reducible first | refine then_normal ?_ | refine then_ret ?_ | refine ax_seq ?_ | refine ax_plain ?_ | refine ax_ret ?_ | refine LX.nil ?_) | refine ax_condT rfl ?_ | (refine withG (by first | exact gon_none rfl | exact gon_some rfl rfl rfl) (fun hg => ?_); (first | refine x_call hg (by rfl) (c1) (by rfl) (by rfl) Try.func15 (by kernel_rfl) (by rfl) (by rfl) (by first | ((repeat (first | exact .nil | refine .cons ?_ ?_ | refine .o ?_ | refine .a ?_ | exact .c _ | exact .r rfl .ro | exact .r rfl (.row _) | exact .nil _ _)); done) | fail) (by rfl) ?_ | refine Lx.move hg rfl rfl rfl ?_ | refine Lx.assign hg rfl rfl rfl ?_ | refine x_fieldP hg rfl rfl rfl (by rfl) (by rfl) ?_ | refine x_loadA hg rfl rfl rfl rfl (by rfl) ?_ | refine Lx.bin hg rfl rfl rfl rfl (fun _ => rfl) ?_ | refine x_box hg rfl rfl rfl rfl rfl rfl ?_); clear hg)))
    (refine ends_res1 Try.results20 (by first | exact item_tmp rfl | exact item_cellS rfl rfl rfl | exact item_cellO rfl rfl) ?_ ?_; (repeat (first | exact .nil | refine .cons ?_ ?_ | refine .o ?_ | refine .a ?_ | exact .c rfl | exact .r (by rfl) rfl | exact .nil _ _ rfl | (refine .c ?_; rotate_left) | (refine .r (by rfl) ?_; rotate_left) | (refine .nil _ _ ?_; rotate_left))); all_goals (try rfl))
  · rw [if_neg hc] at c1
    have d1 : decide (k - (x.aggs.length : Int) < 0) = false := by simp; omega
    rw [if_neg hc]
    refine fnR_of_ax Try.func20 rfl Try.ntmps20 rfl (fun w => ?_)
    (repeat (first | (with_reducible first | refine then_normal ?_ | refine ax_seq ?_ | refine ax_plain ?_ | refine ax_skip ?_ | refine ax_ret ?_ | refine LX.nil ?_) | refine ax_condF rfl ?_ | (refine withG (by first | exact gon_none rfl | exact gon_some rfl rfl rfl) (fun hg => ?_); (first | refine x_call hg (by rfl) (c1) (by rfl) (by rfl) Try.func15 (by kernel_rfl) (by rfl) (by rfl) (by first | ((repeat (first | exact .nil | refine .cons ?_ ?_ | refine .o ?_ | refine .a ?_ | exact .c _ | exact .r rfl .ro | exact .r rfl (.row _) | exact .nil _ _)); done) | fail) (by rfl) ?_ | (refine gate gCmp rfl ?_; refine x_binH hg rfl rfl rfl rfl (fun _ => rfl) (by assumption) ?_) | refine Lx.move hg rfl rfl rfl ?_ | refine Lx.assign hg rfl rfl rfl ?_ | refine x_fieldP hg rfl rfl rfl (by rfl) (by rfl) ?_ | refine x_loadA hg rfl rfl rfl rfl (by rfl) ?_ | refine x_box hg rfl rfl rfl rfl rfl rfl ?_); clear hg)))
    (refine ends_res1 Try.results20 (by first | exact item_tmp rfl | exact item_cellS rfl rfl rfl | exact item_cellO rfl rfl) ?_ ?_; (repeat (first | exact .nil | refine .cons ?_ ?_ | refine .o ?_ | refine .a ?_ | exact .c rfl | exact .r (by rfl) rfl | exact .nil _ _ rfl | (refine .c ?_; rotate_left) | (refine .r (by rfl) ?_; rotate_left) | (refine .nil _ _ ?_; rotate_left))); all_goals (try rfl))
theorem y_eqSave (x y : Save) (hl : x.aggs.length ≤ 2000000) : FnR Try.prog 24 [.a [.c (.int .i64 x.at_), .r kAgg 84 x.aggs, .c (.int .i64 x.mark), .c (.int .i64 x.late), .c (.int .i64 x.over)], .a [.c (.int .i64 y.at_), .r kAgg 84 y.aggs, .c (.int .i64 y.mark), .c (.int .i64 y.late), .c (.int .i64 y.over)]] (.one (.o (.c (.bool (decide (x = y)))))) := by
  have c1 := y_eqShard x.aggs x.mark x.late x.over y.aggs y.mark y.late y.over hl
  have e : decide (x = y) = (decide (x.at_ = y.at_) && decide (x.aggs = y.aggs ∧ x.mark = y.mark ∧ x.late = y.late ∧ x.over = y.over)) := by
    rw [Bool.eq_iff_iff, Bool.and_eq_true, decide_eq_true_iff, decide_eq_true_iff, decide_eq_true_iff]
    exact Save.eq_iff
  rw [e]
  generalize decide (x.aggs = y.aggs ∧ x.mark = y.mark ∧ x.late = y.late ∧ x.over = y.over) = b at c1
  by_cases ha : x.at_ = y.at_
  · have hd : (x.at_ != y.at_) = false := by simp [ha]
    rw [decide_eq_true ha]
    cases b
    all_goals
      refine fnR_of_ax Try.func24 rfl Try.ntmps24 rfl (fun w => ?_)
      (repeat (first | (with_reducible first | refine then_normal ?_ | refine then_ret ?_ | refine ax_seq ?_ | refine ax_plain ?_ | refine ax_skip ?_ | refine ax_ret ?_ | refine LX.nil ?_) | refine ax_condT rfl ?_ | refine ax_condF rfl ?_ | (refine withG (by first | exact gon_none rfl | exact gon_some rfl rfl rfl) (fun hg => ?_); (first | refine x_call hg (by rfl) (c1) (by rfl) (by rfl) Try.func19 (by kernel_rfl) (by rfl) (by rfl) (by first | ((repeat (first | exact .nil | refine .cons ?_ ?_ | refine .o ?_ | refine .a ?_ | exact .c _ | exact .r rfl .ro | exact .r rfl (.row _) | exact .nil _ _)); done) | fail) (by rfl) ?_ | (refine gate gCmp rfl ?_; refine x_binH hg rfl rfl rfl rfl (fun _ => rfl) (by assumption) ?_) | refine Lx.assign hg rfl rfl rfl ?_ | refine x_load1 hg rfl rfl rfl rfl rfl ?_ | refine x_fieldP hg rfl rfl rfl (by rfl) (by rfl) ?_ | refine x_loadA hg rfl rfl rfl rfl (by rfl) ?_ | refine Lx.un hg rfl rfl rfl (fun _ => rfl) ?_ | refine x_box hg rfl rfl rfl rfl rfl rfl ?_); clear hg)))
      (refine ends_res1 Try.results24 (by first | exact item_tmp rfl | exact item_cellS rfl rfl rfl | exact item_cellO rfl rfl) ?_ ?_; (repeat (first | exact .nil | refine .cons ?_ ?_ | refine .o ?_ | refine .a ?_ | exact .c rfl | exact .r (by rfl) rfl | exact .nil _ _ rfl | (refine .c ?_; rotate_left) | (refine .r (by rfl) ?_; rotate_left) | (refine .nil _ _ ?_; rotate_left))); all_goals (try rfl))
  · have hd : (x.at_ != y.at_) = true := by simp [ha]
    rw [decide_eq_false ha]
    refine fnR_of_ax Try.func24 rfl Try.ntmps24 rfl (fun w => ?_)
    (repeat (first | (with_reducible first | refine then_normal ?_ | refine then_ret ?_ | refine ax_seq ?_ | refine ax_plain ?_ | refine ax_ret ?_ | refine LX.nil ?_) | refine ax_condT rfl ?_ | (refine withG (by first | exact gon_none rfl | exact gon_some rfl rfl rfl) (fun hg => ?_); (first | (refine gate gCmp rfl ?_; refine x_binH hg rfl rfl rfl rfl (fun _ => rfl) (by assumption) ?_) | refine Lx.assign hg rfl rfl rfl ?_ | refine x_load1 hg rfl rfl rfl rfl rfl ?_ | refine x_fieldP hg rfl rfl rfl (by rfl) (by rfl) ?_ | refine x_box hg rfl rfl rfl rfl rfl rfl ?_); clear hg)))
    (refine ends_res1 Try.results24 (by first | exact item_tmp rfl | exact item_cellS rfl rfl rfl | exact item_cellO rfl rfl) ?_ ?_; (repeat (first | exact .nil | refine .cons ?_ ?_ | refine .o ?_ | refine .a ?_ | exact .c rfl | exact .r (by rfl) rfl | exact .nil _ _ rfl | (refine .c ?_; rotate_left) | (refine .r (by rfl) ?_; rotate_left) | (refine .nil _ _ ?_; rotate_left))); all_goals (try rfl))
end Go.Proofs.Ytengkenhmnpbeaa.C

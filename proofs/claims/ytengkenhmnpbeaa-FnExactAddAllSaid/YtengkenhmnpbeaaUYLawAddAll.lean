import Derived.Test.YtengkenhmnpbeaaUp
import Derived.Test.YtengkenhmnpbeaaPSg
import Derived.Test.YtengkenhmnpbeaaPSh
import Derived.Test.YtengkenhmnpbeaaUYHShard
import Derived.Test.YtengkenhmnpbeaaUYHFrameN
import Derived.Test.YtengkenhmnpbeaaPMb
namespace Go.Proofs.Ytengkenhmnpbeaa.C
open Go.RowKit Go.Proofs.YtengkenhmnpbeaaW Go.Proofs.YtengkenhmnpbeaaW.PrintWords Go.Proofs.Ytengkenhmnpbeaa.U
set_option maxHeartbeats 1000000
set_option maxRecDepth 100000
set_option linter.unusedVariables false
set_option linter.unusedSimpArgs false
set_option maxHeartbeats 8000000 in
theorem y_lawAddAll (ag : List Agg) (mk : Int) (lt : Int) (ov : Int) (size : Int) (room : Int) (l : List Frame) (a0 : Int) (hag : ag.length ≤ 9223372036854775807) (hl : l.length ≤ 9223372036854775807) : FnR Try.prog 11 [.a [.r kAgg 116 ag, .c (.int .i64 mk), .c (.int .i64 lt), .c (.int .i64 ov)], .o (.c (.int .i64 size)), .o (.c (.int .i64 room)), .o (.r kFrame 107 l), .o (.c (.int .i64 a0))] (.one (.o (.c (.bool true)))) := by
  have cS0 := y_szShard ag mk lt ov 1048576 (by omega) hag
  by_cases hc0 : (1048576 : Int) < ag.length
  · rw [if_pos hc0] at cS0
    refine fnR_of_ax Try.func11 rfl Try.ntmps11 rfl (fun w => ?_)
    (repeat (first | (with_reducible first | refine then_normal ?_ | refine then_ret ?_ | refine ax_seq ?_ | refine ax_plain ?_ | refine ax_ret ?_ | refine LX.nil ?_) | refine ax_condT rfl ?_ | (refine withG (by first | exact gon_none rfl | exact gon_some rfl rfl rfl) (fun hg => ?_); (first | refine x_call hg (by rfl) (cS0) (by rfl) (by rfl) Try.func15 (by kernel_rfl) (by rfl) (by rfl) (by first | ((repeat (first | exact .nil | refine .cons ?_ ?_ | refine .o ?_ | refine .a ?_ | exact .c _ | exact .r rfl .ro | exact .r rfl (.row _) | exact .nil _ _)); done) | fail) (by rfl) ?_ | refine Lx.move hg rfl rfl rfl ?_ | refine Lx.assign hg rfl rfl rfl ?_ | refine x_loadA hg rfl rfl rfl rfl (by rfl) ?_ | refine Lx.bin hg rfl rfl rfl rfl (fun _ => rfl) ?_ | refine x_box hg rfl rfl rfl rfl rfl rfl ?_); clear hg)))
    (refine ends_res1 Try.results11 (by first | exact item_tmp rfl | exact item_cellS rfl rfl rfl | exact item_cellO rfl rfl) ?_ ?_; (repeat (first | exact .nil | refine .cons ?_ ?_ | refine .o ?_ | refine .a ?_ | exact .c rfl | exact .r (by rfl) rfl | exact .nil _ _ rfl | (refine .c ?_; rotate_left) | (refine .r (by rfl) ?_; rotate_left) | (refine .nil _ _ ?_; rotate_left))); all_goals (try rfl))
  rw [if_neg hc0] at cS0
  have hd0 : decide ((1048576 : Int) - (ag.length : Int) < 0) = false := by simp; omega
  have cS1 := y_szFrameS l (1048576 - (ag.length : Int)) (by omega) hl
  by_cases hc1 : 1048576 - (ag.length : Int) < l.length
  · rw [if_pos hc1] at cS1
    refine fnR_of_ax Try.func11 rfl Try.ntmps11 rfl (fun w => ?_)
    (repeat (first | (with_reducible first | refine then_normal ?_ | refine then_ret ?_ | refine ax_seq ?_ | refine ax_plain ?_ | refine ax_skip ?_ | refine ax_ret ?_ | refine LX.nil ?_) | refine ax_condT rfl ?_ | refine ax_condF rfl ?_ | (refine withG (by first | exact gon_none rfl | exact gon_some rfl rfl rfl) (fun hg => ?_); (first | refine x_call hg (by rfl) (cS0) (by rfl) (by rfl) Try.func15 (by kernel_rfl) (by rfl) (by rfl) (by first | ((repeat (first | exact .nil | refine .cons ?_ ?_ | refine .o ?_ | refine .a ?_ | exact .c _ | exact .r rfl .ro | exact .r rfl (.row _) | exact .nil _ _)); done) | fail) (by rfl) ?_ | refine x_call hg (by rfl) (cS1) (by rfl) (by rfl) Try.func48 (by kernel_rfl) (by rfl) (by rfl) (by first | ((repeat (first | exact .nil | refine .cons ?_ ?_ | refine .o ?_ | refine .a ?_ | exact .c _ | exact .r rfl .ro | exact .r rfl (.row _) | exact .nil _ _)); done) | fail) (by rfl) ?_ | (refine gate gCmp rfl ?_; refine x_binH hg rfl rfl rfl rfl (fun _ => rfl) (by assumption) ?_) | refine Lx.move hg rfl rfl rfl ?_ | refine Lx.assign hg rfl rfl rfl ?_ | refine x_loadA hg rfl rfl rfl rfl (by rfl) ?_ | refine Lx.bin hg rfl rfl rfl rfl (fun _ => rfl) ?_ | refine x_box hg rfl rfl rfl rfl rfl rfl ?_); clear hg)))
    (refine ends_res1 Try.results11 (by first | exact item_tmp rfl | exact item_cellS rfl rfl rfl | exact item_cellO rfl rfl) ?_ ?_; (repeat (first | exact .nil | refine .cons ?_ ?_ | refine .o ?_ | refine .a ?_ | exact .c rfl | exact .r (by rfl) rfl | exact .nil _ _ rfl | (refine .c ?_; rotate_left) | (refine .r (by rfl) ?_; rotate_left) | (refine .nil _ _ ?_; rotate_left))); all_goals (try rfl))
  rw [if_neg hc1] at cS1
  have hd1 : decide ((1048576 : Int) - (ag.length : Int) - (l.length : Int) < 0) = false := by simp; omega
  have b0 : ag.length ≤ 1048576 := by omega
  have b1 : l.length ≤ 1048576 := by omega
  clear hag hl
  have cT0 := y_toShard ag mk lt ov (by omega)
  have cE0 := y_eqShard ag mk lt ov ag mk lt ov (by omega)
  rw [decide_eq_true ⟨rfl, rfl, rfl, rfl⟩] at cE0
  have cK0 := y_markShard ag mk lt ov 1 (by omega) (by omega)
  have cT3 := y_toFrameS l (by omega)
  have cE3 := y_eqFrameS l l (by omega)
  rw [decide_eq_true rfl] at cE3
  have cK3 := y_markFrameS l (1 + (ag.length : Int) * 6) (by omega) (by omega)
  have dk : decide (1 + (ag.length : Int) * 6 + (l.length : Int) * 4 < 0) = false := by simp; omega
  have hb := addAll_len ⟨ag, mk, lt, ov⟩ size room l a0
  have cSp := yS_addall ⟨ag, mk, lt, ov⟩ size room l a0 (by show ag.length ≤ 2000000; omega)
  have cIm := yI_addall ⟨ag, mk, lt, ov⟩ size room l a0 (by show ag.length ≤ 2000000; omega)
  generalize addAllL ⟨ag, mk, lt, ov⟩ size room l a0 = Q at cSp cIm hb
  generalize addOk ⟨ag, mk, lt, ov⟩ size room l a0 = okb at cSp cIm
  obtain ⟨q1, q2, q3, q4⟩ := Q
  dsimp only at cSp cIm hb
  have cR0 := y_eqShard q1 q2 q3 q4 q1 q2 q3 q4 (by omega)
  rw [decide_eq_true ⟨rfl, rfl, rfl, rfl⟩] at cR0
  have cM0 := y_markShard q1 q2 q3 q4 1 (by omega) (by omega)
  have cH0 := y_heldShard q1.length q2 q3 q4 1 (by omega) (by omega)
  have dq0 : decide (1 + (q1.length : Int) * 6 < 0) = false := by simp; omega
  have e1 : (okb != okb) = false := by simp
  have f1 : (!(okb == okb)) = false := by simp
  have dm : (1 + (q1.length : Int) * 6 != 1 + (q1.length : Int) * 6) = false := by simp
  refine fnR_of_ax Try.func11 rfl Try.ntmps11 rfl (fun w => ?_)
  (repeat (first | (with_reducible first | refine then_normal ?_ | refine ax_seq ?_ | refine ax_plain ?_ | refine ax_drawn (by kernel_rfl) ?_ | refine ax_skip ?_ | refine ax_ret ?_ | refine LX.nil ?_) | refine And.intro (by kernel_rfl) ?_ | refine ax_condF rfl ?_ | (refine withG (by first | exact gon_none rfl | exact gon_some rfl rfl rfl) (fun hg => ?_); (first | refine x_call hg (by rfl) (cS0) (by rfl) (by rfl) Try.func15 (by kernel_rfl) (by rfl) (by rfl) (by first | ((repeat (first | exact .nil | refine .cons ?_ ?_ | refine .o ?_ | refine .a ?_ | exact .c _ | exact .r rfl .ro | exact .r rfl (.row _) | exact .nil _ _)); done) | fail) (by rfl) ?_ | refine x_call hg (by rfl) (cS1) (by rfl) (by rfl) Try.func48 (by kernel_rfl) (by rfl) (by rfl) (by first | ((repeat (first | exact .nil | refine .cons ?_ ?_ | refine .o ?_ | refine .a ?_ | exact .c _ | exact .r rfl .ro | exact .r rfl (.row _) | exact .nil _ _)); done) | fail) (by rfl) ?_ | refine x_call hg (by rfl) (cT0) (by rfl) (by rfl) Try.func17 (by kernel_rfl) (by rfl) (by rfl) (by first | ((repeat (first | exact .nil | refine .cons ?_ ?_ | refine .o ?_ | refine .a ?_ | exact .c _ | exact .r rfl .ro | exact .r rfl (.row _) | exact .nil _ _)); done) | fail) (by rfl) ?_ | refine x_call hg (by rfl) (cE0) (by rfl) (by rfl) Try.func19 (by kernel_rfl) (by rfl) (by rfl) (by first | ((repeat (first | exact .nil | refine .cons ?_ ?_ | refine .o ?_ | refine .a ?_ | exact .c _ | exact .r rfl .ro | exact .r rfl (.row _) | exact .nil _ _)); done) | fail) (by rfl) ?_ | refine x_callW hg (by rfl) (cK0) (by (repeat (first | exact .nil | refine .cons ?_ ?_ | refine .o ?_ | refine .a ?_ | exact .c _ | exact .r _ _ _ _))) (by rfl) Try.func53 (by kernel_rfl) (by rfl) (by rfl) (by first | ((repeat (first | exact .nil | refine .cons ?_ ?_ | refine .o ?_ | refine .a ?_ | exact .c (by rfl) | exact .r (by rfl) (by rfl) | exact .nil _ _ rfl)); done) | fail) (by rfl) ?_ | refine x_call hg (by rfl) (cT3) (by rfl) (by rfl) Try.func50 (by kernel_rfl) (by rfl) (by rfl) (by first | ((repeat (first | exact .nil | refine .cons ?_ ?_ | refine .o ?_ | refine .a ?_ | exact .c _ | exact .r rfl .ro | exact .r rfl (.row _) | exact .nil _ _)); done) | fail) (by rfl) ?_ | refine x_call hg (by rfl) (cE3) (by rfl) (by rfl) Try.func52 (by kernel_rfl) (by rfl) (by rfl) (by first | ((repeat (first | exact .nil | refine .cons ?_ ?_ | refine .o ?_ | refine .a ?_ | exact .c _ | exact .r rfl .ro | exact .r rfl (.row _) | exact .nil _ _)); done) | fail) (by rfl) ?_ | refine x_callW hg (by rfl) (cK3) (by (repeat (first | exact .nil | refine .cons ?_ ?_ | refine .o ?_ | refine .a ?_ | exact .c _ | exact .r _ _ _ _))) (by rfl) Try.func54 (by kernel_rfl) (by rfl) (by rfl) (by first | ((repeat (first | exact .nil | refine .cons ?_ ?_ | refine .o ?_ | refine .a ?_ | exact .c (by rfl) | exact .r (by rfl) (by rfl) | exact .nil _ _ rfl)); done) | fail) (by rfl) ?_ | refine x_call hg (by rfl) (cSp) (by rfl) (by rfl) Try.func49 (by kernel_rfl) (by rfl) (by rfl) (by first | ((repeat (first | exact .nil | refine .cons ?_ ?_ | refine .o ?_ | refine .a ?_ | exact .c _ | exact .r rfl .ro | exact .r rfl (.row _) | exact .nil _ _)); done) | fail) (by rfl) ?_ | refine x_call hg (by rfl) (cIm) (by rfl) (by rfl) Try.func51 (by kernel_rfl) (by rfl) (by rfl) (by first | ((repeat (first | exact .nil | refine .cons ?_ ?_ | refine .o ?_ | refine .a ?_ | exact .c _ | exact .r rfl .ro | exact .r rfl (.row _) | exact .nil _ _)); done) | fail) (by rfl) ?_ | refine x_call hg (by rfl) (cR0) (by rfl) (by rfl) Try.func19 (by kernel_rfl) (by rfl) (by rfl) (by first | ((repeat (first | exact .nil | refine .cons ?_ ?_ | refine .o ?_ | refine .a ?_ | exact .c _ | exact .r rfl .ro | exact .r rfl (.row _) | exact .nil _ _)); done) | fail) (by rfl) ?_ | refine x_callW hg (by rfl) (cM0) (by (repeat (first | exact .nil | refine .cons ?_ ?_ | refine .o ?_ | refine .a ?_ | exact .c _ | exact .r _ _ _ _))) (by rfl) Try.func53 (by kernel_rfl) (by rfl) (by rfl) (by first | ((repeat (first | exact .nil | refine .cons ?_ ?_ | refine .o ?_ | refine .a ?_ | exact .c (by rfl) | exact .r (by rfl) (by rfl) | exact .nil _ _ rfl)); done) | fail) (by rfl) ?_ | refine x_call hg (by rfl) (cH0) (by rfl) (by rfl) Try.func55 (by kernel_rfl) (by rfl) (by rfl) (by first | ((repeat (first | exact .nil | refine .cons ?_ ?_ | refine .o ?_ | refine .a ?_ | exact .c _ | exact .r rfl .ro | exact .r rfl (.row _) | exact .nil _ _)); done) | fail) (by rfl) ?_ | (refine gate gCmp rfl ?_; refine x_binH hg rfl rfl rfl rfl (fun _ => rfl) (by assumption) ?_) | refine Lx.move hg rfl rfl rfl ?_ | refine Lx.extract hg rfl rfl rfl rfl ?_ | refine Lx.assign hg rfl rfl rfl ?_ | refine x_loadA hg rfl rfl rfl rfl (by rfl) ?_ | refine Lx.un hg rfl rfl rfl (fun _ => rfl) ?_ | refine x_storeA hg rfl rfl rfl rfl rfl rfl (by rfl) (by rfl) ?_ | refine x_alloc hg rfl rfl rfl rfl ?_ | refine x_box hg rfl rfl rfl rfl rfl rfl ?_ | refine x_pickF hg rfl rfl rfl rfl ?_); clear hg)))
  (refine ends_res1 Try.results11 (by first | exact item_tmp rfl | exact item_cellS rfl rfl rfl | exact item_cellO rfl rfl) ?_ ?_; (repeat (first | exact .nil | refine .cons ?_ ?_ | refine .o ?_ | refine .a ?_ | exact .c rfl | exact .r (by rfl) rfl | exact .nil _ _ rfl | (refine .c ?_; rotate_left) | (refine .r (by rfl) ?_; rotate_left) | (refine .nil _ _ ?_; rotate_left))); all_goals (try rfl))
end Go.Proofs.Ytengkenhmnpbeaa.C

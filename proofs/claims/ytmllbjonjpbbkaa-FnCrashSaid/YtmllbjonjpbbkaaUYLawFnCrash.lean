import Derived.Test.YtmllbjonjpbbkaaUp
import Derived.Test.YtmllbjonjpbbkaaPDd
import Derived.Test.YtmllbjonjpbbkaaPDc
import Derived.Test.YtmllbjonjpbbkaaPSm
import Derived.Test.YtmllbjonjpbbkaaPDe
namespace Go.Proofs.Ytmllbjonjpbbkaa.C
open Go.RowKit Go.Proofs.YtmllbjonjpbbkaaW Go.Proofs.YtmllbjonjpbbkaaW.PrintWords Go.Proofs.Ytmllbjonjpbbkaa.U
set_option maxHeartbeats 1000000
set_option maxRecDepth 100000
set_option linter.unusedVariables false
set_option linter.unusedSimpArgs false
set_option maxHeartbeats 8000000 in
theorem y_big (b : List Int) (hl : b.length ≤ 9223372036854775807) : FnR Try.prog 20 [.o (.r (Kd.int .u8) 5 b)] (.one (.o (.c (.bool (decide (1048576 < b.length)))))) := by
  by_cases h : 1048576 < b.length
  · have d : decide ((1048576 : Int) < (b.length : Int)) = true := by simp; omega
    rw [decide_eq_true h]
    refine fnR_of_ax Try.func20 rfl Try.ntmps20 rfl (fun w => ?_)
    (repeat (first | (with_reducible first | refine then_normal ?_ | refine ax_seq ?_ | refine ax_plain ?_ | refine ax_ret ?_ | refine LX.nil ?_) | (refine withG (by first | exact gon_none rfl | exact gon_some rfl rfl rfl) (fun hg => ?_); (first | (refine gate gCmp rfl ?_; refine x_binH hg rfl rfl rfl rfl (fun _ => rfl) (by assumption) ?_) | refine Lx.move hg rfl rfl rfl ?_ | refine Lx.assign hg rfl rfl rfl ?_ | (refine gate gBuiltin rfl ?_; refine x_len hg rfl rfl rfl rfl (by first | exact .ro | exact .row _) ?_)); clear hg)))
    (refine ends_res1 Try.results20 (by first | exact item_tmp rfl | exact item_cellS rfl rfl rfl | exact item_cellO rfl rfl) ?_ ?_; (repeat (first | exact .nil | refine .cons ?_ ?_ | refine .o ?_ | refine .a ?_ | exact .c rfl | exact .r (by rfl) rfl | exact .nil _ _ rfl | (refine .c ?_; rotate_left) | (refine .r (by rfl) ?_; rotate_left) | (refine .nil _ _ ?_; rotate_left))); all_goals (try rfl))
  · have d : decide ((1048576 : Int) < (b.length : Int)) = false := by simp; omega
    rw [decide_eq_false h]
    refine fnR_of_ax Try.func20 rfl Try.ntmps20 rfl (fun w => ?_)
    (repeat (first | (with_reducible first | refine then_normal ?_ | refine ax_seq ?_ | refine ax_plain ?_ | refine ax_ret ?_ | refine LX.nil ?_) | (refine withG (by first | exact gon_none rfl | exact gon_some rfl rfl rfl) (fun hg => ?_); (first | (refine gate gCmp rfl ?_; refine x_binH hg rfl rfl rfl rfl (fun _ => rfl) (by assumption) ?_) | refine Lx.move hg rfl rfl rfl ?_ | refine Lx.assign hg rfl rfl rfl ?_ | (refine gate gBuiltin rfl ?_; refine x_len hg rfl rfl rfl rfl (by first | exact .ro | exact .row _) ?_)); clear hg)))
    (refine ends_res1 Try.results20 (by first | exact item_tmp rfl | exact item_cellS rfl rfl rfl | exact item_cellO rfl rfl) ?_ ?_; (repeat (first | exact .nil | refine .cons ?_ ?_ | refine .o ?_ | refine .a ?_ | exact .c rfl | exact .r (by rfl) rfl | exact .nil _ _ rfl | (refine .c ?_; rotate_left) | (refine .r (by rfl) ?_; rotate_left) | (refine .nil _ _ ?_; rotate_left))); all_goals (try rfl))
set_option maxHeartbeats 8000000 in
theorem y_lawFnCrash (b : List Int) (hlb : b.length ≤ 9223372036854775807) (hB_b : ∀ y ∈ b, 0 ≤ y ∧ y ≤ 255) : FnR Try.prog 5 [.o (.r (Kd.int .u8) 5 b)] (.one (.o (.c (.bool true)))) := by
  have cB := y_big b hlb
  by_cases hg : 1048576 < b.length
  · rw [decide_eq_true hg] at cB
    refine fnR_of_ax Try.func5 rfl Try.ntmps5 rfl (fun w => ?_)
    (repeat (first | (with_reducible first | refine then_normal ?_ | refine then_ret ?_ | refine ax_seq ?_ | refine ax_plain ?_ | refine ax_ret ?_ | refine LX.nil ?_) | refine ax_condT rfl ?_ | (refine withG (by first | exact gon_none rfl | exact gon_some rfl rfl rfl) (fun hg => ?_); (first | refine x_call hg (by rfl) (cB) (by rfl) (by rfl) Try.func20 (by kernel_rfl) (by rfl) (by rfl) (by first | ((repeat (first | exact .nil | refine .cons ?_ ?_ | refine .o ?_ | refine .a ?_ | exact .c _ | exact .r rfl .ro | exact .r rfl (.row _) | exact .nil _ _)); done) | fail) (by rfl) ?_ | refine Lx.move hg rfl rfl rfl ?_ | refine Lx.assign hg rfl rfl rfl ?_); clear hg)))
    (refine ends_res1 Try.results5 (by first | exact item_tmp rfl | exact item_cellS rfl rfl rfl | exact item_cellO rfl rfl) ?_ ?_; (repeat (first | exact .nil | refine .cons ?_ ?_ | refine .o ?_ | refine .a ?_ | exact .c rfl | exact .r (by rfl) rfl | exact .nil _ _ rfl | (refine .c ?_; rotate_left) | (refine .r (by rfl) ?_; rotate_left) | (refine .nil _ _ ?_; rotate_left))); all_goals (try rfl))
  rw [decide_eq_false hg] at cB
  obtain ⟨size, room, e, a, l, ⟨hll, ha1, ha2⟩, cD⟩ := y_dCrashAt b (by omega) hB_b
  have cS := yS_crash size room l e a (by omega) (by omega)
  have cI := yI_crash size room l e a (by omega) (by omega)
  have hlen := crash_len size room l e a
  have cE := yI_sameSh (crashL size room l e a) (crashL size room l e a) (by omega)
  rw [sameSh_refl] at cE
  cases hok : crashOk size room l e a
  · rw [hok] at cS cI
    generalize crashL size room l e a = Q at cS cI cE
    generalize crashN size room l e a = n at cS cI
    have e1 : (n != n) = false := by simp
    refine fnR_of_ax Try.func5 rfl Try.ntmps5 rfl (fun w => ?_)
    (repeat (first | (with_reducible first | refine then_normal ?_ | refine then_ret ?_ | refine ax_seq ?_ | refine ax_plain ?_ | refine ax_skip ?_ | refine ax_ret ?_ | refine LX.nil ?_) | refine ax_condT rfl ?_ | refine ax_condF rfl ?_ | (refine withG (by first | exact gon_none rfl | exact gon_some rfl rfl rfl) (fun hg => ?_); (first | refine x_call hg (by rfl) (cB) (by rfl) (by rfl) Try.func20 (by kernel_rfl) (by rfl) (by rfl) (by first | ((repeat (first | exact .nil | refine .cons ?_ ?_ | refine .o ?_ | refine .a ?_ | exact .c _ | exact .r rfl .ro | exact .r rfl (.row _) | exact .nil _ _)); done) | fail) (by rfl) ?_ | refine x_call hg (by rfl) (cD) (by rfl) (by rfl) Try.func21 (by kernel_rfl) (by rfl) (by rfl) (by first | ((repeat (first | exact .nil | refine .cons ?_ ?_ | refine .o ?_ | refine .a ?_ | exact .c _ | exact .r rfl .ro | exact .r rfl (.row _) | exact .nil _ _)); done) | fail) (by rfl) ?_ | refine x_call hg (by rfl) (cS) (by rfl) (by rfl) Try.func22 (by kernel_rfl) (by rfl) (by rfl) (by first | ((repeat (first | exact .nil | refine .cons ?_ ?_ | refine .o ?_ | refine .a ?_ | exact .c _ | exact .r rfl .ro | exact .r rfl (.row _) | exact .nil _ _)); done) | fail) (by rfl) ?_ | refine x_call hg (by rfl) (cI) (by rfl) (by rfl) Try.func23 (by kernel_rfl) (by rfl) (by rfl) (by first | ((repeat (first | exact .nil | refine .cons ?_ ?_ | refine .o ?_ | refine .a ?_ | exact .c _ | exact .r rfl .ro | exact .r rfl (.row _) | exact .nil _ _)); done) | fail) (by rfl) ?_ | refine x_call hg (by rfl) (cE) (by rfl) (by rfl) Try.func24 (by kernel_rfl) (by rfl) (by rfl) (by first | ((repeat (first | exact .nil | refine .cons ?_ ?_ | refine .o ?_ | refine .a ?_ | exact .c _ | exact .r rfl .ro | exact .r rfl (.row _) | exact .nil _ _)); done) | fail) (by rfl) ?_ | (refine gate gCmp rfl ?_; refine x_binH hg rfl rfl rfl rfl (fun _ => rfl) (by assumption) ?_) | refine Lx.move hg rfl rfl rfl ?_ | refine Lx.extract hg rfl rfl rfl rfl ?_ | refine Lx.assign hg rfl rfl rfl ?_ | refine x_loadA hg rfl rfl rfl rfl (by rfl) ?_ | refine Lx.bin hg rfl rfl rfl rfl (fun _ => rfl) ?_ | refine Lx.un hg rfl rfl rfl (fun _ => rfl) ?_ | refine x_storeA hg rfl rfl rfl rfl rfl rfl (by rfl) (by rfl) ?_ | refine x_alloc hg rfl rfl rfl rfl ?_ | refine x_pickF hg rfl rfl rfl rfl ?_); clear hg)))
    (refine ends_res1 Try.results5 (by first | exact item_tmp rfl | exact item_cellS rfl rfl rfl | exact item_cellO rfl rfl) ?_ ?_; (repeat (first | exact .nil | refine .cons ?_ ?_ | refine .o ?_ | refine .a ?_ | exact .c rfl | exact .r (by rfl) rfl | exact .nil _ _ rfl | (refine .c ?_; rotate_left) | (refine .r (by rfl) ?_; rotate_left) | (refine .nil _ _ ?_; rotate_left))); all_goals (try rfl))
  obtain ⟨g1, g2, g3, g4, g5, g6, g7, g8⟩ := crash_law hok
  rw [hok] at cS cI
  have cN := yI_new
  have cA := yI_addall newS size room l 0 (Nat.zero_le _)
  rw [g3, g4] at cA
  have cV := yI_saves size room l e (by omega)
  rw [g1] at cV
  have hsl := savesL_len size room l e
  have cR := yI_resume (savesL size room l e) a (by omega)
  rw [g2] at cR
  have cK := yS_ShardOk (crashL size room l e a).aggs (crashL size room l e a).mark (crashL size room l e a).late (crashL size room l e a).over (by omega)
  rw [show okShard (crashL size room l e a).aggs (crashL size room l e a).mark (crashL size room l e a).late (crashL size room l e a).over = okS (crashL size room l e a) from rfl, g5] at cK
  have g9 : 0 ≤ (resumeL (savesL size room l e) a).at_ := (crash_spec hok).2.2.1
  generalize savesL size room l e = xs at cV cR g8 g9
  generalize resumeL xs a = r at cR g8 g9
  generalize crashL size room l e a = Q at cS cI cE cA cK
  generalize crashN size room l e a = n at cS cI g6 g7 g8
  dsimp only [newS] at cA
  have e1 : (n != n) = false := by simp
  have e2 : decide (0 ≤ n) = true := by simp [g6]
  have e3 : decide (n < e) = true := by simp [g7]
  have e4 : (r.at_ == a - n) = true := by simp [g8]
  refine fnR_of_ax Try.func5 rfl Try.ntmps5 rfl (fun w => ?_)
  (repeat (first | (with_reducible first | refine then_normal ?_ | refine ax_seq ?_ | refine ax_plain ?_ | refine ax_skip ?_ | refine ax_ret ?_ | refine LX.nil ?_) | refine ax_condF rfl ?_ | (refine withG (by first | exact gon_none rfl | exact gon_some rfl rfl rfl) (fun hg => ?_); (first | refine x_call hg (by rfl) (cB) (by rfl) (by rfl) Try.func20 (by kernel_rfl) (by rfl) (by rfl) (by first | ((repeat (first | exact .nil | refine .cons ?_ ?_ | refine .o ?_ | refine .a ?_ | exact .c _ | exact .r rfl .ro | exact .r rfl (.row _) | exact .nil _ _)); done) | fail) (by rfl) ?_ | refine x_call hg (by rfl) (cD) (by rfl) (by rfl) Try.func21 (by kernel_rfl) (by rfl) (by rfl) (by first | ((repeat (first | exact .nil | refine .cons ?_ ?_ | refine .o ?_ | refine .a ?_ | exact .c _ | exact .r rfl .ro | exact .r rfl (.row _) | exact .nil _ _)); done) | fail) (by rfl) ?_ | refine x_call hg (by rfl) (cS) (by rfl) (by rfl) Try.func22 (by kernel_rfl) (by rfl) (by rfl) (by first | ((repeat (first | exact .nil | refine .cons ?_ ?_ | refine .o ?_ | refine .a ?_ | exact .c _ | exact .r rfl .ro | exact .r rfl (.row _) | exact .nil _ _)); done) | fail) (by rfl) ?_ | refine x_call hg (by rfl) (cI) (by rfl) (by rfl) Try.func23 (by kernel_rfl) (by rfl) (by rfl) (by first | ((repeat (first | exact .nil | refine .cons ?_ ?_ | refine .o ?_ | refine .a ?_ | exact .c _ | exact .r rfl .ro | exact .r rfl (.row _) | exact .nil _ _)); done) | fail) (by rfl) ?_ | refine x_call hg (by rfl) (cE) (by rfl) (by rfl) Try.func24 (by kernel_rfl) (by rfl) (by rfl) (by first | ((repeat (first | exact .nil | refine .cons ?_ ?_ | refine .o ?_ | refine .a ?_ | exact .c _ | exact .r rfl .ro | exact .r rfl (.row _) | exact .nil _ _)); done) | fail) (by rfl) ?_ | refine x_call hg (by rfl) (cN) (by rfl) (by rfl) Try.func26 (by kernel_rfl) (by rfl) (by rfl) (by first | ((repeat (first | exact .nil | refine .cons ?_ ?_ | refine .o ?_ | refine .a ?_ | exact .c _ | exact .r rfl .ro | exact .r rfl (.row _) | exact .nil _ _)); done) | fail) (by rfl) ?_ | refine x_call hg (by rfl) (cA) (by rfl) (by rfl) Try.func25 (by kernel_rfl) (by rfl) (by rfl) (by first | ((repeat (first | exact .nil | refine .cons ?_ ?_ | refine .o ?_ | refine .a ?_ | exact .c _ | exact .r rfl .ro | exact .r rfl (.row _) | exact .nil _ _)); done) | fail) (by rfl) ?_ | refine x_call hg (by rfl) (cV) (by rfl) (by rfl) Try.func27 (by kernel_rfl) (by rfl) (by rfl) (by first | ((repeat (first | exact .nil | refine .cons ?_ ?_ | refine .o ?_ | refine .a ?_ | exact .c _ | exact .r rfl .ro | exact .r rfl (.row _) | exact .nil _ _)); done) | fail) (by rfl) ?_ | refine x_call hg (by rfl) (cR) (by rfl) (by rfl) Try.func28 (by kernel_rfl) (by rfl) (by rfl) (by first | ((repeat (first | exact .nil | refine .cons ?_ ?_ | refine .o ?_ | refine .a ?_ | exact .c _ | exact .r rfl .ro | exact .r rfl (.row _) | exact .nil _ _)); done) | fail) (by rfl) ?_ | refine x_call hg (by rfl) (cK) (by rfl) (by rfl) Try.func29 (by kernel_rfl) (by rfl) (by rfl) (by first | ((repeat (first | exact .nil | refine .cons ?_ ?_ | refine .o ?_ | refine .a ?_ | exact .c _ | exact .r rfl .ro | exact .r rfl (.row _) | exact .nil _ _)); done) | fail) (by rfl) ?_ | (refine gate gCmp rfl ?_; refine x_binH hg rfl rfl rfl rfl (fun _ => rfl) (by assumption) ?_) | refine Lx.move hg rfl rfl rfl ?_ | refine Lx.extract hg rfl rfl rfl rfl ?_ | refine Lx.assign hg rfl rfl rfl ?_ | refine x_load1 hg rfl rfl rfl rfl rfl ?_ | refine x_fieldP hg rfl rfl rfl (by rfl) (by rfl) ?_ | refine x_loadA hg rfl rfl rfl rfl (by rfl) ?_ | refine x_sub hg rfl rfl rfl rfl (by omega) ?_ | refine Lx.bin hg rfl rfl rfl rfl (fun _ => rfl) ?_ | refine Lx.un hg rfl rfl rfl (fun _ => rfl) ?_ | refine x_storeA hg rfl rfl rfl rfl rfl rfl (by rfl) (by rfl) ?_ | refine x_alloc hg rfl rfl rfl rfl ?_ | refine x_pickT hg rfl rfl rfl rfl ?_ | refine x_pickF hg rfl rfl rfl rfl ?_); clear hg)))
  (refine ends_res1 Try.results5 (by first | exact item_tmp rfl | exact item_cellS rfl rfl rfl | exact item_cellO rfl rfl) ?_ ?_; (repeat (first | exact .nil | refine .cons ?_ ?_ | refine .o ?_ | refine .a ?_ | exact .c rfl | exact .r (by rfl) rfl | exact .nil _ _ rfl | (refine .c ?_; rotate_left) | (refine .r (by rfl) ?_; rotate_left) | (refine .nil _ _ ?_; rotate_left))); all_goals (try rfl))
end Go.Proofs.Ytmllbjonjpbbkaa.C

import Derived.Test.YtengkenhmnpbeaaUp
import Derived.Test.YtengkenhmnpbeaaUYTakesS
import Derived.Test.YtengkenhmnpbeaaUYTakesI
import Derived.Test.YtengkenhmnpbeaaUYHSaveEq
import Derived.Test.YtengkenhmnpbeaaUYMarkSaveS
import Derived.Test.YtengkenhmnpbeaaUYHeldSaveS
import Derived.Test.YtengkenhmnpbeaaPHB
import Derived.Test.YtengkenhmnpbeaaPMb
namespace Go.Proofs.Ytengkenhmnpbeaa.C
open Go.RowKit Go.Proofs.YtengkenhmnpbeaaW Go.Proofs.YtengkenhmnpbeaaW.PrintWords Go.Proofs.Ytengkenhmnpbeaa.U
set_option maxHeartbeats 1000000
set_option maxRecDepth 100000
set_option linter.unusedVariables false
set_option linter.unusedSimpArgs false
set_option maxHeartbeats 8000000 in
theorem y_lawTakeSaves (b : List Int) (hb : b.length ≤ 9223372036854775807) (hB_b : ∀ y ∈ b, 0 ≤ y ∧ y ≤ 255) : FnR Try.prog 10 [.o (.r (Kd.int .u8) 5 b)] (.one (.o (.c (.bool true)))) := by
  by_cases hg0 : 1048576 < b.length
  · have hd : decide ((1048576 : Int) < (b.length : Int)) = true := by simp; omega
    refine fnR_of_ax Try.func10 rfl Try.ntmps10 rfl (fun w => ?_)
    (repeat (first | (with_reducible first | refine then_normal ?_ | refine then_exit ?_ | refine then_ret ?_ | refine out_same ?_ | refine out_other rfl ?_ | refine out_ret ?_ | refine out_normal ?_ | refine ax_seq ?_ | refine ax_plain ?_ | refine ax_drawn (by kernel_rfl) ?_ | refine ax_block ?_ | refine ax_skip ?_ | refine ax_exit ?_ | refine ax_ret ?_ | refine LX.nil ?_) | refine And.intro (by kernel_rfl) ?_ | refine ax_condT rfl ?_ | refine ax_condF rfl ?_ | refine ax_condHT rfl (by assumption) ?_ | refine ax_condHF rfl (by assumption) ?_ | refine Lx.off (goff_some rfl rfl rfl rfl) rfl ?_ | refine Lx.off (goff_undef rfl rfl rfl) rfl ?_ | (refine withG (by first | exact gon_none rfl | exact gon_some rfl rfl rfl) (fun hg => ?_); (first | (refine gate gCmp rfl ?_; refine x_binH hg rfl rfl rfl rfl (fun _ => rfl) (by assumption) ?_) | (refine gate gBuiltin rfl ?_; refine x_lenS hg rfl rfl rfl ?_) | refine Lx.move hg rfl rfl rfl ?_ | refine Lx.extract hg rfl rfl rfl rfl ?_ | refine Lx.assign hg rfl rfl rfl ?_ | (refine gate gBuiltin rfl ?_; refine x_len hg rfl rfl rfl rfl (by first | exact .ro | exact .row _) ?_) | refine Lx.bin hg rfl rfl rfl rfl (fun _ => rfl) ?_ | refine Lx.un hg rfl rfl rfl (fun _ => rfl) ?_ | refine x_pickT hg rfl rfl rfl rfl ?_ | refine x_pickF hg rfl rfl rfl rfl ?_); clear hg)))
    (refine ends_res1 Try.results10 (by first | exact item_tmp rfl | exact item_cellS rfl rfl rfl | exact item_cellO rfl rfl) ?_ ?_; (repeat (first | exact .nil | refine .cons ?_ ?_ | refine .o ?_ | refine .a ?_ | exact .c rfl | exact .r (by rfl) rfl | exact .nil _ _ rfl | (refine .c ?_; rotate_left) | (refine .r (by rfl) ?_; rotate_left) | (refine .nil _ _ ?_; rotate_left))); all_goals (try rfl))
  have hd0 : decide ((1048576 : Int) < (b.length : Int)) = false := by simp; omega
  have b0 : b.length ≤ 1048576 := by omega
  clear hb
  have cT0 := y_toByteS b (by omega)
  have cE0 := y_eqByteS b b (by omega)
  rw [decide_eq_true rfl] at cE0
  have cK0 := y_markByteS b 1 (by omega) (by omega)
  have dk : decide (1 + (b.length : Int) < 0) = false := by simp; omega
  obtain ⟨hb, hb2⟩ := takesL_len b
  have cSp := yS_takes b hB_b (by omega)
  have cIm := yI_takes b hB_b (by omega)
  generalize (takesL b).1 = q at cSp cIm hb hb2
  generalize hN : ((takesL b).2 : Int) = n at cSp cIm
  have hl_q : ∀ y ∈ q, y.aggs.length ≤ 2000000 := fun y hy => by have := aggSum_mem hy; omega
  have cR0 := y_eqSaveS q q (by omega) hl_q
  rw [decide_eq_true rfl] at cR0
  have cM0 := y_markSaveS q 1 (by omega) (by omega)
  have eM0 := mkEnd_eq q 1
  have cH0 := y_heldSaveS q 1 (by omega) (by omega)
  have dq0 : decide (mkEnd 1 q < 0) = false := by simp; omega
  have e1 : (n != n) = false := by simp
  have dm : (mkEnd 1 q != mkEnd 1 q) = false := by simp
  refine fnR_of_ax Try.func10 rfl Try.ntmps10 rfl (fun w => ?_)
  (repeat (first | (with_reducible first | refine then_normal ?_ | refine then_exit ?_ | refine then_ret ?_ | refine out_same ?_ | refine out_other rfl ?_ | refine out_ret ?_ | refine out_normal ?_ | refine ax_seq ?_ | refine ax_plain ?_ | refine ax_drawn (by kernel_rfl) ?_ | refine ax_block ?_ | refine ax_skip ?_ | refine ax_exit ?_ | refine ax_ret ?_ | refine LX.nil ?_) | refine And.intro (by kernel_rfl) ?_ | refine ax_condT rfl ?_ | refine ax_condF rfl ?_ | refine ax_condHT rfl (by assumption) ?_ | refine ax_condHF rfl (by assumption) ?_ | refine Lx.off (goff_some rfl rfl rfl rfl) rfl ?_ | refine Lx.off (goff_undef rfl rfl rfl) rfl ?_ | (refine withG (by first | exact gon_none rfl | exact gon_some rfl rfl rfl) (fun hg => ?_); (first | refine x_call hg (by rfl) (cT0) (by rfl) (by rfl) Try.func39 (by kernel_rfl) (by rfl) (by rfl) (by first | ((repeat (first | exact .nil | refine .cons ?_ ?_ | refine .o ?_ | refine .a ?_ | exact .c _ | exact .r rfl .ro | exact .r rfl (.row _) | exact .nil _ _)); done) | fail) (by rfl) ?_ | refine x_call hg (by rfl) (cE0) (by rfl) (by rfl) Try.func34 (by kernel_rfl) (by rfl) (by rfl) (by first | ((repeat (first | exact .nil | refine .cons ?_ ?_ | refine .o ?_ | refine .a ?_ | exact .c _ | exact .r rfl .ro | exact .r rfl (.row _) | exact .nil _ _)); done) | fail) (by rfl) ?_ | refine x_callW hg (by rfl) (cK0) (by (repeat (first | exact .nil | refine .cons ?_ ?_ | refine .o ?_ | refine .a ?_ | exact .c _ | exact .r _ _ _ _))) (by rfl) Try.func36 (by kernel_rfl) (by rfl) (by rfl) (by first | ((repeat (first | exact .nil | refine .cons ?_ ?_ | refine .o ?_ | refine .a ?_ | exact .c (by rfl) | exact .r (by rfl) (by rfl) | exact .nil _ _ rfl)); done) | fail) (by rfl) ?_ | refine x_call hg (by rfl) (cSp) (by rfl) (by rfl) Try.func46 (by kernel_rfl) (by rfl) (by rfl) (by first | ((repeat (first | exact .nil | refine .cons ?_ ?_ | refine .o ?_ | refine .a ?_ | exact .c _ | exact .r rfl .ro | exact .r rfl (.row _) | exact .nil _ _)); done) | fail) (by rfl) ?_ | refine x_call hg (by rfl) (cIm) (by rfl) (by rfl) Try.func47 (by kernel_rfl) (by rfl) (by rfl) (by first | ((repeat (first | exact .nil | refine .cons ?_ ?_ | refine .o ?_ | refine .a ?_ | exact .c _ | exact .r rfl .ro | exact .r rfl (.row _) | exact .nil _ _)); done) | fail) (by rfl) ?_ | refine x_call hg (by rfl) (cR0) (by rfl) (by rfl) Try.func29 (by kernel_rfl) (by rfl) (by rfl) (by first | ((repeat (first | exact .nil | refine .cons ?_ ?_ | refine .o ?_ | refine .a ?_ | exact .c _ | exact .r rfl .ro | exact .r rfl (.row _) | exact .nil _ _)); done) | fail) (by rfl) ?_ | refine x_callW hg (by rfl) (cM0) (by (repeat (first | exact .nil | refine .cons ?_ ?_ | refine .o ?_ | refine .a ?_ | exact .c _ | exact .r _ _ _ _))) (by rfl) Try.func30 (by kernel_rfl) (by rfl) (by rfl) (by first | ((repeat (first | exact .nil | refine .cons ?_ ?_ | refine .o ?_ | refine .a ?_ | exact .c (by rfl) | exact .r (by rfl) (by rfl) | exact .nil _ _ rfl)); done) | fail) (by rfl) ?_ | refine x_call hg (by rfl) (cH0) (by rfl) (by rfl) Try.func31 (by kernel_rfl) (by rfl) (by rfl) (by first | ((repeat (first | exact .nil | refine .cons ?_ ?_ | refine .o ?_ | refine .a ?_ | exact .c _ | exact .r rfl .ro | exact .r rfl (.row _) | exact .nil _ _)); done) | fail) (by rfl) ?_ | (refine gate gCmp rfl ?_; refine x_binH hg rfl rfl rfl rfl (fun _ => rfl) (by assumption) ?_) | (refine gate gBuiltin rfl ?_; refine x_lenS hg rfl rfl rfl ?_) | refine Lx.move hg rfl rfl rfl ?_ | refine Lx.extract hg rfl rfl rfl rfl ?_ | refine Lx.assign hg rfl rfl rfl ?_ | (refine gate gBuiltin rfl ?_; refine x_len hg rfl rfl rfl rfl (by first | exact .ro | exact .row _) ?_) | refine Lx.bin hg rfl rfl rfl rfl (fun _ => rfl) ?_ | refine Lx.un hg rfl rfl rfl (fun _ => rfl) ?_ | refine x_pickT hg rfl rfl rfl rfl ?_ | refine x_pickF hg rfl rfl rfl rfl ?_); clear hg)))
  (refine ends_res1 Try.results10 (by first | exact item_tmp rfl | exact item_cellS rfl rfl rfl | exact item_cellO rfl rfl) ?_ ?_; (repeat (first | exact .nil | refine .cons ?_ ?_ | refine .o ?_ | refine .a ?_ | exact .c rfl | exact .r (by rfl) rfl | exact .nil _ _ rfl | (refine .c ?_; rotate_left) | (refine .r (by rfl) ?_; rotate_left) | (refine .nil _ _ ?_; rotate_left))); all_goals (try rfl))
end Go.Proofs.Ytengkenhmnpbeaa.C

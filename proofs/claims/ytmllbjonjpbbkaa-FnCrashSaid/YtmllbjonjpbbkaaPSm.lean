import Derived.Test.YtmllbjonjpbbkaaUp
import Derived.Test.YtmllbjonjpbbkaaPSd
import Derived.Test.YtmllbjonjpbbkaaPSi
import Derived.Test.YtmllbjonjpbbkaaPSj
namespace Go.Proofs.Ytmllbjonjpbbkaa.C
open Go.RowKit Go.Proofs.YtmllbjonjpbbkaaW Go.Proofs.YtmllbjonjpbbkaaW.PrintWords Go.Proofs.Ytmllbjonjpbbkaa.U
set_option maxHeartbeats 1000000
set_option maxRecDepth 100000
set_option linter.unusedVariables false
set_option linter.unusedSimpArgs false
theorem yS_crash0 (size room : Int) (l : List Frame) (e a : Int) (q : Shd) (n : Int) (c : Bool) (hq : crashL size room l e a = q) (hn : crashN size room l e a = n) (hc : crashOk size room l e a = c) (hl : l.length ≤ 1000000000) (ha : -9223372036854775808 ≤ a ∧ a ≤ 9223372036854775807) : FnR Try.prog 22 [.o (.c (.int .i64 size)), .o (.c (.int .i64 room)), .o (.r kFrame 40 l), .o (.c (.int .i64 e)), .o (.c (.int .i64 a))] (.many [.a [.r kAgg 92 q.aggs, .c (.int .i64 q.mark), .c (.int .i64 q.late), .c (.int .i64 q.over)], .o (.c (.int .i64 n)), .o (.c (.bool c))]) := by
  have cS := yS_saves size room l e hl
  have hsl := savesL_len size room l e
  have cR := yS_resume (savesL size room l e) a (by omega)
  have hR : crashR size room l e a = resumeL (savesL size room l e) a := rfl
  have hO : crashOk size room l e a = (savesOk size room l e && (decide (a ≤ (l.length : Int)) && resumeOk (savesL size room l e) a)) := rfl
  have hgood := fun h => And.intro (crash_spec (size := size) (room := room) (l := l) (e := e) (a := a) h) (crash_ok h)
  rw [hR] at hgood
  have hrl := resume_len (savesL size room l e) a
  generalize savesL size room l e = xs at cS cR hO hgood hsl hrl
  generalize resumeL xs a = r at cR hgood hrl
  cases h1 : savesOk size room l e
  · have hb : crashOk size room l e a = false := by rw [hO, h1]; rfl
    rw [h1] at cS
    have ca0 : (!false || false) = true := rfl
    generalize resumeOk xs a = okb at cR
    obtain ⟨e1, e2⟩ := crash_bad hb
    obtain ⟨rfl, rfl, rfl⟩ : ⟨[], 0, 0, 0⟩ = q ∧ 0 = n ∧ false = c := ⟨by rw [← hq, e1], by rw [← hn, e2], by rw [← hc, hb]⟩
    refine fnR_of_ax Try.func22 rfl Try.ntmps22 rfl (fun w => ?_)
    (repeat (first | (with_reducible first | refine then_normal ?_ | refine then_ret ?_ | refine ax_seq ?_ | refine ax_plain ?_ | refine ax_ret ?_ | refine LX.nil ?_) | refine ax_condT rfl ?_ | refine Lx.off (goff_some rfl rfl rfl rfl) rfl ?_ | (refine withG (by first | exact gon_none rfl | exact gon_some rfl rfl rfl) (fun hg => ?_); (first | refine x_call hg (by rfl) (cS) (by rfl) (by rfl) Try.func51 (by kernel_rfl) (by rfl) (by rfl) (by first | ((repeat (first | exact .nil | refine .cons ?_ ?_ | refine .o ?_ | refine .a ?_ | exact .c _ | exact .r rfl .ro | exact .r rfl (.row _) | exact .nil _ _)); done) | fail) (by rfl) ?_ | refine Lx.move hg rfl rfl rfl ?_ | refine Lx.extract hg rfl rfl rfl rfl ?_ | refine Lx.assign hg rfl rfl rfl ?_ | refine Lx.un hg rfl rfl rfl (fun _ => rfl) ?_ | refine x_storeA hg rfl rfl rfl rfl rfl rfl (by rfl) (by rfl) ?_ | refine x_alloc hg rfl rfl rfl rfl ?_ | refine x_build hg rfl rfl rfl (by rfl) ?_ | refine x_pickT hg rfl rfl rfl rfl ?_); clear hg)))
    (refine ends_res3 Try.results22 (by first | exact item_tmp rfl | exact item_cellS rfl rfl rfl | exact item_cellO rfl rfl) (by first | exact item_tmp rfl | exact item_cellS rfl rfl rfl | exact item_cellO rfl rfl) (by first | exact item_tmp rfl | exact item_cellS rfl rfl rfl | exact item_cellO rfl rfl) ?_ ?_; (repeat (first | exact .nil | refine .cons ?_ ?_ | refine .o ?_ | refine .a ?_ | exact .c rfl | exact .r (by rfl) rfl | exact .nil _ _ rfl | (refine .c ?_; rotate_left) | (refine .r (by rfl) ?_; rotate_left) | (refine .nil _ _ ?_; rotate_left))); all_goals (try rfl))
  rw [h1] at cS
  by_cases h2 : a ≤ (l.length : Int)
  rotate_left
  · have hb : crashOk size room l e a = false := by rw [hO, decide_eq_false h2]; simp
    have d1 : decide ((l.length : Int) < a) = true := by simp; omega
    cases h3 : resumeOk xs a
    all_goals
      rw [h3] at cR
      have hb' := hb
      obtain ⟨e1, e2⟩ := crash_bad hb
      obtain ⟨rfl, rfl, rfl⟩ : ⟨[], 0, 0, 0⟩ = q ∧ 0 = n ∧ false = c := ⟨by rw [← hq, e1], by rw [← hn, e2], by rw [← hc, hb]⟩
      refine fnR_of_ax Try.func22 rfl Try.ntmps22 rfl (fun w => ?_)
      (repeat (first | (with_reducible first | refine then_normal ?_ | refine then_ret ?_ | refine ax_seq ?_ | refine ax_plain ?_ | refine ax_ret ?_ | refine LX.nil ?_) | refine ax_condT rfl ?_ | (refine withG (by first | exact gon_none rfl | exact gon_some rfl rfl rfl) (fun hg => ?_); (first | refine x_call hg (by rfl) (cS) (by rfl) (by rfl) Try.func51 (by kernel_rfl) (by rfl) (by rfl) (by first | ((repeat (first | exact .nil | refine .cons ?_ ?_ | refine .o ?_ | refine .a ?_ | exact .c _ | exact .r rfl .ro | exact .r rfl (.row _) | exact .nil _ _)); done) | fail) (by rfl) ?_ | (refine gate gCmp rfl ?_; refine x_binH hg rfl rfl rfl rfl (fun _ => rfl) (by assumption) ?_) | refine Lx.move hg rfl rfl rfl ?_ | refine Lx.extract hg rfl rfl rfl rfl ?_ | refine Lx.assign hg rfl rfl rfl ?_ | (refine gate gBuiltin rfl ?_; refine x_len hg rfl rfl rfl rfl (by first | exact .ro | exact .row _) ?_) | refine Lx.un hg rfl rfl rfl (fun _ => rfl) ?_ | refine x_storeA hg rfl rfl rfl rfl rfl rfl (by rfl) (by rfl) ?_ | refine x_alloc hg rfl rfl rfl rfl ?_ | refine x_build hg rfl rfl rfl (by rfl) ?_ | refine x_pickF hg rfl rfl rfl rfl ?_); clear hg)))
      (refine ends_res3 Try.results22 (by first | exact item_tmp rfl | exact item_cellS rfl rfl rfl | exact item_cellO rfl rfl) (by first | exact item_tmp rfl | exact item_cellS rfl rfl rfl | exact item_cellO rfl rfl) (by first | exact item_tmp rfl | exact item_cellS rfl rfl rfl | exact item_cellO rfl rfl) ?_ ?_; (repeat (first | exact .nil | refine .cons ?_ ?_ | refine .o ?_ | refine .a ?_ | exact .c rfl | exact .r (by rfl) rfl | exact .nil _ _ rfl | (refine .c ?_; rotate_left) | (refine .r (by rfl) ?_; rotate_left) | (refine .nil _ _ ?_; rotate_left))); all_goals (try rfl))
  have d1 : decide ((l.length : Int) < a) = false := by simp; omega
  cases h3 : resumeOk xs a
  · rw [h3] at cR
    have hb : crashOk size room l e a = false := by rw [hO, h3]; simp
    obtain ⟨e1, e2⟩ := crash_bad hb
    obtain ⟨rfl, rfl, rfl⟩ : ⟨[], 0, 0, 0⟩ = q ∧ 0 = n ∧ false = c := ⟨by rw [← hq, e1], by rw [← hn, e2], by rw [← hc, hb]⟩
    refine fnR_of_ax Try.func22 rfl Try.ntmps22 rfl (fun w => ?_)
    (repeat (first | (with_reducible first | refine then_normal ?_ | refine then_ret ?_ | refine ax_seq ?_ | refine ax_plain ?_ | refine ax_skip ?_ | refine ax_ret ?_ | refine LX.nil ?_) | refine ax_condT rfl ?_ | refine ax_condF rfl ?_ | (refine withG (by first | exact gon_none rfl | exact gon_some rfl rfl rfl) (fun hg => ?_); (first | refine x_call hg (by rfl) (cS) (by rfl) (by rfl) Try.func51 (by kernel_rfl) (by rfl) (by rfl) (by first | ((repeat (first | exact .nil | refine .cons ?_ ?_ | refine .o ?_ | refine .a ?_ | exact .c _ | exact .r rfl .ro | exact .r rfl (.row _) | exact .nil _ _)); done) | fail) (by rfl) ?_ | refine x_call hg (by rfl) (cR) (by rfl) (by rfl) Try.func52 (by kernel_rfl) (by rfl) (by rfl) (by first | ((repeat (first | exact .nil | refine .cons ?_ ?_ | refine .o ?_ | refine .a ?_ | exact .c _ | exact .r rfl .ro | exact .r rfl (.row _) | exact .nil _ _)); done) | fail) (by rfl) ?_ | (refine gate gCmp rfl ?_; refine x_binH hg rfl rfl rfl rfl (fun _ => rfl) (by assumption) ?_) | refine Lx.move hg rfl rfl rfl ?_ | refine Lx.extract hg rfl rfl rfl rfl ?_ | refine Lx.assign hg rfl rfl rfl ?_ | (refine gate gBuiltin rfl ?_; refine x_len hg rfl rfl rfl rfl (by first | exact .ro | exact .row _) ?_) | refine Lx.un hg rfl rfl rfl (fun _ => rfl) ?_ | refine x_storeA hg rfl rfl rfl rfl rfl rfl (by rfl) (by rfl) ?_ | refine x_alloc hg rfl rfl rfl rfl ?_ | refine x_build hg rfl rfl rfl (by rfl) ?_ | refine x_pickF hg rfl rfl rfl rfl ?_); clear hg)))
    (refine ends_res3 Try.results22 (by first | exact item_tmp rfl | exact item_cellS rfl rfl rfl | exact item_cellO rfl rfl) (by first | exact item_tmp rfl | exact item_cellS rfl rfl rfl | exact item_cellO rfl rfl) (by first | exact item_tmp rfl | exact item_cellS rfl rfl rfl | exact item_cellO rfl rfl) ?_ ?_; (repeat (first | exact .nil | refine .cons ?_ ?_ | refine .o ?_ | refine .a ?_ | exact .c rfl | exact .r (by rfl) rfl | exact .nil _ _ rfl | (refine .c ?_; rotate_left) | (refine .r (by rfl) ?_; rotate_left) | (refine .nil _ _ ?_; rotate_left))); all_goals (try rfl))
  rw [h3] at cR
  have hg : crashOk size room l e a = true := by rw [hO, h1, decide_eq_true h2, h3]; rfl
  obtain ⟨⟨g1, g2, g3, g4⟩, e1, e2⟩ := hgood hg
  have cA := yS_addall (shOf r) size room l r.at_ (by show r.aggs.length ≤ 2000000; omega)
  rw [g1] at cA
  rw [e1] at hq
  rw [e2] at hn
  subst hn
  obtain rfl : true = c := by rw [← hc, hg]
  rw [hq] at cA
  dsimp only [shOf] at cA
  refine fnR_of_ax Try.func22 rfl Try.ntmps22 rfl (fun w => ?_)
  (repeat (first | (with_reducible first | refine then_normal ?_ | refine ax_seq ?_ | refine ax_plain ?_ | refine ax_drawn (by kernel_rfl) ?_ | refine ax_skip ?_ | refine ax_ret ?_ | refine LX.nil ?_) | refine And.intro (by kernel_rfl) ?_ | refine ax_condF rfl ?_ | (refine withG (by first | exact gon_none rfl | exact gon_some rfl rfl rfl) (fun hg => ?_); (first | refine x_call hg (by rfl) (cS) (by rfl) (by rfl) Try.func51 (by kernel_rfl) (by rfl) (by rfl) (by first | ((repeat (first | exact .nil | refine .cons ?_ ?_ | refine .o ?_ | refine .a ?_ | exact .c _ | exact .r rfl .ro | exact .r rfl (.row _) | exact .nil _ _)); done) | fail) (by rfl) ?_ | refine x_call hg (by rfl) (cR) (by rfl) (by rfl) Try.func52 (by kernel_rfl) (by rfl) (by rfl) (by first | ((repeat (first | exact .nil | refine .cons ?_ ?_ | refine .o ?_ | refine .a ?_ | exact .c _ | exact .r rfl .ro | exact .r rfl (.row _) | exact .nil _ _)); done) | fail) (by rfl) ?_ | refine x_call hg (by rfl) (cA) (by rfl) (by rfl) Try.func53 (by kernel_rfl) (by rfl) (by rfl) (by first | ((repeat (first | exact .nil | refine .cons ?_ ?_ | refine .o ?_ | refine .a ?_ | exact .c _ | exact .r rfl .ro | exact .r rfl (.row _) | exact .nil _ _)); done) | fail) (by rfl) ?_ | (refine gate gCmp rfl ?_; refine x_binH hg rfl rfl rfl rfl (fun _ => rfl) (by assumption) ?_) | refine Lx.move hg rfl rfl rfl ?_ | refine Lx.extract hg rfl rfl rfl rfl ?_ | refine Lx.assign hg rfl rfl rfl ?_ | refine x_load1 hg rfl rfl rfl rfl rfl ?_ | refine x_fieldP hg rfl rfl rfl (by rfl) (by rfl) ?_ | (refine gate gBuiltin rfl ?_; refine x_len hg rfl rfl rfl rfl (by first | exact .ro | exact .row _) ?_) | refine x_loadA hg rfl rfl rfl rfl (by rfl) ?_ | refine x_sub hg rfl rfl rfl rfl (by omega) ?_ | refine Lx.un hg rfl rfl rfl (fun _ => rfl) ?_ | refine x_storeA hg rfl rfl rfl rfl rfl rfl (by rfl) (by rfl) ?_ | refine x_alloc hg rfl rfl rfl rfl ?_ | refine x_pickF hg rfl rfl rfl rfl ?_); clear hg)))
  (refine ends_res3 Try.results22 (by first | exact item_tmp rfl | exact item_cellS rfl rfl rfl | exact item_cellO rfl rfl) (by first | exact item_tmp rfl | exact item_cellS rfl rfl rfl | exact item_cellO rfl rfl) (by first | exact item_tmp rfl | exact item_cellS rfl rfl rfl | exact item_cellO rfl rfl) ?_ ?_; (repeat (first | exact .nil | refine .cons ?_ ?_ | refine .o ?_ | refine .a ?_ | exact .c rfl | exact .r (by rfl) rfl | exact .nil _ _ rfl | (refine .c ?_; rotate_left) | (refine .r (by rfl) ?_; rotate_left) | (refine .nil _ _ ?_; rotate_left))); all_goals (try rfl))
theorem yS_crash (size room : Int) (l : List Frame) (e a : Int) (hl : l.length ≤ 1000000000) (ha : -9223372036854775808 ≤ a ∧ a ≤ 9223372036854775807) : FnR Try.prog 22 [.o (.c (.int .i64 size)), .o (.c (.int .i64 room)), .o (.r kFrame 40 l), .o (.c (.int .i64 e)), .o (.c (.int .i64 a))] (.many [.a [.r kAgg 92 (crashL size room l e a).aggs, .c (.int .i64 (crashL size room l e a).mark), .c (.int .i64 (crashL size room l e a).late), .c (.int .i64 (crashL size room l e a).over)], .o (.c (.int .i64 (crashN size room l e a))), .o (.c (.bool (crashOk size room l e a)))]) := yS_crash0 size room l e a _ _ _ rfl rfl rfl hl ha
theorem yI_crash0 (size room : Int) (l : List Frame) (e a : Int) (q : Shd) (n : Int) (c : Bool) (hq : crashL size room l e a = q) (hn : crashN size room l e a = n) (hc : crashOk size room l e a = c) (hl : l.length ≤ 1000000000) (ha : -9223372036854775808 ≤ a ∧ a ≤ 9223372036854775807) : FnR Try.prog 23 [.o (.c (.int .i64 size)), .o (.c (.int .i64 room)), .o (.r kFrame 40 l), .o (.c (.int .i64 e)), .o (.c (.int .i64 a))] (.many [.a [.r kAgg 92 q.aggs, .c (.int .i64 q.mark), .c (.int .i64 q.late), .c (.int .i64 q.over)], .o (.c (.int .i64 n)), .o (.c (.bool c))]) := by
  have cS := yI_saves size room l e hl
  have hsl := savesL_len size room l e
  have cR := yI_resume (savesL size room l e) a (by omega)
  have hR : crashR size room l e a = resumeL (savesL size room l e) a := rfl
  have hO : crashOk size room l e a = (savesOk size room l e && (decide (a ≤ (l.length : Int)) && resumeOk (savesL size room l e) a)) := rfl
  have hgood := fun h => And.intro (crash_spec (size := size) (room := room) (l := l) (e := e) (a := a) h) (crash_ok h)
  rw [hR] at hgood
  have hrl := resume_len (savesL size room l e) a
  generalize savesL size room l e = xs at cS cR hO hgood hsl hrl
  generalize resumeL xs a = r at cR hgood hrl
  cases h1 : savesOk size room l e
  · have hb : crashOk size room l e a = false := by rw [hO, h1]; rfl
    rw [h1] at cS
    have ca0 : (!false || false) = true := rfl
    generalize resumeOk xs a = okb at cR
    obtain ⟨e1, e2⟩ := crash_bad hb
    obtain ⟨rfl, rfl, rfl⟩ : ⟨[], 0, 0, 0⟩ = q ∧ 0 = n ∧ false = c := ⟨by rw [← hq, e1], by rw [← hn, e2], by rw [← hc, hb]⟩
    refine fnR_of_ax Try.func23 rfl Try.ntmps23 rfl (fun w => ?_)
    (repeat (first | (with_reducible first | refine then_normal ?_ | refine then_ret ?_ | refine ax_seq ?_ | refine ax_plain ?_ | refine ax_ret ?_ | refine LX.nil ?_) | refine ax_condT rfl ?_ | refine Lx.off (goff_some rfl rfl rfl rfl) rfl ?_ | (refine withG (by first | exact gon_none rfl | exact gon_some rfl rfl rfl) (fun hg => ?_); (first | refine x_call hg (by rfl) (cS) (by rfl) (by rfl) Try.func27 (by kernel_rfl) (by rfl) (by rfl) (by first | ((repeat (first | exact .nil | refine .cons ?_ ?_ | refine .o ?_ | refine .a ?_ | exact .c _ | exact .r rfl .ro | exact .r rfl (.row _) | exact .nil _ _)); done) | fail) (by rfl) ?_ | refine x_call hg (by rfl) (cR) (by rfl) (by rfl) Try.func28 (by kernel_rfl) (by rfl) (by rfl) (by first | ((repeat (first | exact .nil | refine .cons ?_ ?_ | refine .o ?_ | refine .a ?_ | exact .c _ | exact .r rfl .ro | exact .r rfl (.row _) | exact .nil _ _)); done) | fail) (by rfl) ?_ | refine Lx.move hg rfl rfl rfl ?_ | refine Lx.extract hg rfl rfl rfl rfl ?_ | refine Lx.assign hg rfl rfl rfl ?_ | refine Lx.un hg rfl rfl rfl (fun _ => rfl) ?_ | refine x_storeA hg rfl rfl rfl rfl rfl rfl (by rfl) (by rfl) ?_ | refine x_alloc hg rfl rfl rfl rfl ?_ | refine x_build hg rfl rfl rfl (by rfl) ?_ | refine x_pickT hg rfl rfl rfl rfl ?_); clear hg)))
    (refine ends_res3 Try.results23 (by first | exact item_tmp rfl | exact item_cellS rfl rfl rfl | exact item_cellO rfl rfl) (by first | exact item_tmp rfl | exact item_cellS rfl rfl rfl | exact item_cellO rfl rfl) (by first | exact item_tmp rfl | exact item_cellS rfl rfl rfl | exact item_cellO rfl rfl) ?_ ?_; (repeat (first | exact .nil | refine .cons ?_ ?_ | refine .o ?_ | refine .a ?_ | exact .c rfl | exact .r (by rfl) rfl | exact .nil _ _ rfl | (refine .c ?_; rotate_left) | (refine .r (by rfl) ?_; rotate_left) | (refine .nil _ _ ?_; rotate_left))); all_goals (try rfl))
  rw [h1] at cS
  by_cases h2 : a ≤ (l.length : Int)
  rotate_left
  · have hb : crashOk size room l e a = false := by rw [hO, decide_eq_false h2]; simp
    have d1 : decide ((l.length : Int) < a) = true := by simp; omega
    cases h3 : resumeOk xs a
    all_goals
      rw [h3] at cR
      have hb' := hb
      obtain ⟨e1, e2⟩ := crash_bad hb
      obtain ⟨rfl, rfl, rfl⟩ : ⟨[], 0, 0, 0⟩ = q ∧ 0 = n ∧ false = c := ⟨by rw [← hq, e1], by rw [← hn, e2], by rw [← hc, hb]⟩
      refine fnR_of_ax Try.func23 rfl Try.ntmps23 rfl (fun w => ?_)
      (repeat (first | (with_reducible first | refine then_normal ?_ | refine then_ret ?_ | refine ax_seq ?_ | refine ax_plain ?_ | refine ax_ret ?_ | refine LX.nil ?_) | refine ax_condT rfl ?_ | refine Lx.off (goff_some rfl rfl rfl rfl) rfl ?_ | (refine withG (by first | exact gon_none rfl | exact gon_some rfl rfl rfl) (fun hg => ?_); (first | refine x_call hg (by rfl) (cS) (by rfl) (by rfl) Try.func27 (by kernel_rfl) (by rfl) (by rfl) (by first | ((repeat (first | exact .nil | refine .cons ?_ ?_ | refine .o ?_ | refine .a ?_ | exact .c _ | exact .r rfl .ro | exact .r rfl (.row _) | exact .nil _ _)); done) | fail) (by rfl) ?_ | refine x_call hg (by rfl) (cR) (by rfl) (by rfl) Try.func28 (by kernel_rfl) (by rfl) (by rfl) (by first | ((repeat (first | exact .nil | refine .cons ?_ ?_ | refine .o ?_ | refine .a ?_ | exact .c _ | exact .r rfl .ro | exact .r rfl (.row _) | exact .nil _ _)); done) | fail) (by rfl) ?_ | (refine gate gCmp rfl ?_; refine x_binH hg rfl rfl rfl rfl (fun _ => rfl) (by assumption) ?_) | refine Lx.move hg rfl rfl rfl ?_ | refine Lx.extract hg rfl rfl rfl rfl ?_ | refine Lx.assign hg rfl rfl rfl ?_ | (refine gate gBuiltin rfl ?_; refine x_len hg rfl rfl rfl rfl (by first | exact .ro | exact .row _) ?_) | refine Lx.un hg rfl rfl rfl (fun _ => rfl) ?_ | refine x_storeA hg rfl rfl rfl rfl rfl rfl (by rfl) (by rfl) ?_ | refine x_alloc hg rfl rfl rfl rfl ?_ | refine x_build hg rfl rfl rfl (by rfl) ?_ | refine x_pickT hg rfl rfl rfl rfl ?_ | refine x_pickF hg rfl rfl rfl rfl ?_); clear hg)))
      (refine ends_res3 Try.results23 (by first | exact item_tmp rfl | exact item_cellS rfl rfl rfl | exact item_cellO rfl rfl) (by first | exact item_tmp rfl | exact item_cellS rfl rfl rfl | exact item_cellO rfl rfl) (by first | exact item_tmp rfl | exact item_cellS rfl rfl rfl | exact item_cellO rfl rfl) ?_ ?_; (repeat (first | exact .nil | refine .cons ?_ ?_ | refine .o ?_ | refine .a ?_ | exact .c rfl | exact .r (by rfl) rfl | exact .nil _ _ rfl | (refine .c ?_; rotate_left) | (refine .r (by rfl) ?_; rotate_left) | (refine .nil _ _ ?_; rotate_left))); all_goals (try rfl))
  have d1 : decide ((l.length : Int) < a) = false := by simp; omega
  cases h3 : resumeOk xs a
  · rw [h3] at cR
    have hb : crashOk size room l e a = false := by rw [hO, h3]; simp
    obtain ⟨e1, e2⟩ := crash_bad hb
    obtain ⟨rfl, rfl, rfl⟩ : ⟨[], 0, 0, 0⟩ = q ∧ 0 = n ∧ false = c := ⟨by rw [← hq, e1], by rw [← hn, e2], by rw [← hc, hb]⟩
    refine fnR_of_ax Try.func23 rfl Try.ntmps23 rfl (fun w => ?_)
    (repeat (first | (with_reducible first | refine then_normal ?_ | refine then_ret ?_ | refine ax_seq ?_ | refine ax_plain ?_ | refine ax_ret ?_ | refine LX.nil ?_) | refine ax_condT rfl ?_ | refine Lx.off (goff_some rfl rfl rfl rfl) rfl ?_ | (refine withG (by first | exact gon_none rfl | exact gon_some rfl rfl rfl) (fun hg => ?_); (first | refine x_call hg (by rfl) (cS) (by rfl) (by rfl) Try.func27 (by kernel_rfl) (by rfl) (by rfl) (by first | ((repeat (first | exact .nil | refine .cons ?_ ?_ | refine .o ?_ | refine .a ?_ | exact .c _ | exact .r rfl .ro | exact .r rfl (.row _) | exact .nil _ _)); done) | fail) (by rfl) ?_ | refine x_call hg (by rfl) (cR) (by rfl) (by rfl) Try.func28 (by kernel_rfl) (by rfl) (by rfl) (by first | ((repeat (first | exact .nil | refine .cons ?_ ?_ | refine .o ?_ | refine .a ?_ | exact .c _ | exact .r rfl .ro | exact .r rfl (.row _) | exact .nil _ _)); done) | fail) (by rfl) ?_ | refine Lx.move hg rfl rfl rfl ?_ | refine Lx.extract hg rfl rfl rfl rfl ?_ | refine Lx.assign hg rfl rfl rfl ?_ | refine Lx.un hg rfl rfl rfl (fun _ => rfl) ?_ | refine x_storeA hg rfl rfl rfl rfl rfl rfl (by rfl) (by rfl) ?_ | refine x_alloc hg rfl rfl rfl rfl ?_ | refine x_build hg rfl rfl rfl (by rfl) ?_ | refine x_pickT hg rfl rfl rfl rfl ?_ | refine x_pickF hg rfl rfl rfl rfl ?_); clear hg)))
    (refine ends_res3 Try.results23 (by first | exact item_tmp rfl | exact item_cellS rfl rfl rfl | exact item_cellO rfl rfl) (by first | exact item_tmp rfl | exact item_cellS rfl rfl rfl | exact item_cellO rfl rfl) (by first | exact item_tmp rfl | exact item_cellS rfl rfl rfl | exact item_cellO rfl rfl) ?_ ?_; (repeat (first | exact .nil | refine .cons ?_ ?_ | refine .o ?_ | refine .a ?_ | exact .c rfl | exact .r (by rfl) rfl | exact .nil _ _ rfl | (refine .c ?_; rotate_left) | (refine .r (by rfl) ?_; rotate_left) | (refine .nil _ _ ?_; rotate_left))); all_goals (try rfl))
  rw [h3] at cR
  have hg : crashOk size room l e a = true := by rw [hO, h1, decide_eq_true h2, h3]; rfl
  obtain ⟨⟨g1, g2, g3, g4⟩, e1, e2⟩ := hgood hg
  have cA := yI_addall (shOf r) size room l r.at_ (by show r.aggs.length ≤ 2000000; omega)
  rw [g1] at cA
  rw [e1] at hq
  rw [e2] at hn
  subst hn
  obtain rfl : true = c := by rw [← hc, hg]
  rw [hq] at cA
  dsimp only [shOf] at cA
  refine fnR_of_ax Try.func23 rfl Try.ntmps23 rfl (fun w => ?_)
  (repeat (first | (with_reducible first | refine then_normal ?_ | refine ax_seq ?_ | refine ax_plain ?_ | refine ax_drawn (by kernel_rfl) ?_ | refine ax_skip ?_ | refine ax_ret ?_ | refine LX.nil ?_) | refine And.intro (by kernel_rfl) ?_ | refine ax_condF rfl ?_ | (refine withG (by first | exact gon_none rfl | exact gon_some rfl rfl rfl) (fun hg => ?_); (first | refine x_call hg (by rfl) (cS) (by rfl) (by rfl) Try.func27 (by kernel_rfl) (by rfl) (by rfl) (by first | ((repeat (first | exact .nil | refine .cons ?_ ?_ | refine .o ?_ | refine .a ?_ | exact .c _ | exact .r rfl .ro | exact .r rfl (.row _) | exact .nil _ _)); done) | fail) (by rfl) ?_ | refine x_call hg (by rfl) (cR) (by rfl) (by rfl) Try.func28 (by kernel_rfl) (by rfl) (by rfl) (by first | ((repeat (first | exact .nil | refine .cons ?_ ?_ | refine .o ?_ | refine .a ?_ | exact .c _ | exact .r rfl .ro | exact .r rfl (.row _) | exact .nil _ _)); done) | fail) (by rfl) ?_ | refine x_call hg (by rfl) (cA) (by rfl) (by rfl) Try.func25 (by kernel_rfl) (by rfl) (by rfl) (by first | ((repeat (first | exact .nil | refine .cons ?_ ?_ | refine .o ?_ | refine .a ?_ | exact .c _ | exact .r rfl .ro | exact .r rfl (.row _) | exact .nil _ _)); done) | fail) (by rfl) ?_ | (refine gate gCmp rfl ?_; refine x_binH hg rfl rfl rfl rfl (fun _ => rfl) (by assumption) ?_) | refine Lx.move hg rfl rfl rfl ?_ | refine Lx.extract hg rfl rfl rfl rfl ?_ | refine Lx.assign hg rfl rfl rfl ?_ | refine x_load1 hg rfl rfl rfl rfl rfl ?_ | refine x_fieldP hg rfl rfl rfl (by rfl) (by rfl) ?_ | (refine gate gBuiltin rfl ?_; refine x_len hg rfl rfl rfl rfl (by first | exact .ro | exact .row _) ?_) | refine x_loadA hg rfl rfl rfl rfl (by rfl) ?_ | refine x_sub hg rfl rfl rfl rfl (by omega) ?_ | refine Lx.un hg rfl rfl rfl (fun _ => rfl) ?_ | refine x_storeA hg rfl rfl rfl rfl rfl rfl (by rfl) (by rfl) ?_ | refine x_alloc hg rfl rfl rfl rfl ?_ | refine x_pickF hg rfl rfl rfl rfl ?_); clear hg)))
  (refine ends_res3 Try.results23 (by first | exact item_tmp rfl | exact item_cellS rfl rfl rfl | exact item_cellO rfl rfl) (by first | exact item_tmp rfl | exact item_cellS rfl rfl rfl | exact item_cellO rfl rfl) (by first | exact item_tmp rfl | exact item_cellS rfl rfl rfl | exact item_cellO rfl rfl) ?_ ?_; (repeat (first | exact .nil | refine .cons ?_ ?_ | refine .o ?_ | refine .a ?_ | exact .c rfl | exact .r (by rfl) rfl | exact .nil _ _ rfl | (refine .c ?_; rotate_left) | (refine .r (by rfl) ?_; rotate_left) | (refine .nil _ _ ?_; rotate_left))); all_goals (try rfl))
theorem yI_crash (size room : Int) (l : List Frame) (e a : Int) (hl : l.length ≤ 1000000000) (ha : -9223372036854775808 ≤ a ∧ a ≤ 9223372036854775807) : FnR Try.prog 23 [.o (.c (.int .i64 size)), .o (.c (.int .i64 room)), .o (.r kFrame 40 l), .o (.c (.int .i64 e)), .o (.c (.int .i64 a))] (.many [.a [.r kAgg 92 (crashL size room l e a).aggs, .c (.int .i64 (crashL size room l e a).mark), .c (.int .i64 (crashL size room l e a).late), .c (.int .i64 (crashL size room l e a).over)], .o (.c (.int .i64 (crashN size room l e a))), .o (.c (.bool (crashOk size room l e a)))]) := yI_crash0 size room l e a _ _ _ rfl rfl rfl hl ha
end Go.Proofs.Ytmllbjonjpbbkaa.C

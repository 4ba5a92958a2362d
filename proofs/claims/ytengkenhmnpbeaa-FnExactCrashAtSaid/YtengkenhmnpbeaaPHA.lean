import Derived.Test.YtengkenhmnpbeaaUp
import Derived.Test.YtengkenhmnpbeaaPTy
import Derived.Test.YtengkenhmnpbeaaPPl
namespace Go.Proofs.Ytengkenhmnpbeaa.C
open Go.RowKit Go.Proofs.YtengkenhmnpbeaaW Go.Proofs.YtengkenhmnpbeaaW.PrintWords Go.Proofs.Ytengkenhmnpbeaa.U
set_option maxHeartbeats 1000000
set_option maxRecDepth 100000
set_option linter.unusedVariables false
set_option linter.unusedSimpArgs false
theorem y_toAgg (x : Agg) : FnR Try.prog 99 [.a [.c (.int .i64 x.win), .c (.int .i64 x.key), .c (.int .i64 x.count), .c (.int .i64 x.sum), .c (.int .i64 x.min), .c (.int .i64 x.max)]] (.one (.a [.c (.int .i64 x.win), .c (.int .i64 x.key), .c (.int .i64 x.count), .c (.int .i64 x.sum), .c (.int .i64 x.min), .c (.int .i64 x.max)])) := by
  refine fnR_of_ax Try.func99 rfl Try.ntmps99 rfl (fun w => ?_)
  (repeat (first | (with_reducible first | refine then_normal ?_ | refine ax_seq ?_ | refine ax_plain ?_ | refine ax_ret ?_ | refine LX.nil ?_) | (refine withG (by first | exact gon_none rfl | exact gon_some rfl rfl rfl) (fun hg => ?_); (first | refine x_load1 hg rfl rfl rfl rfl rfl ?_ | refine x_fieldP hg rfl rfl rfl (by rfl) (by rfl) ?_ | refine x_loadA hg rfl rfl rfl rfl (by rfl) ?_ | refine x_store1 hg rfl rfl rfl rfl rfl rfl rfl ?_ | refine x_storeA hg rfl rfl rfl rfl rfl rfl (by rfl) (by rfl) ?_ | refine x_alloc hg rfl rfl rfl rfl ?_ | refine x_box hg rfl rfl rfl rfl rfl rfl ?_); clear hg)))
  (refine ends_res1 Try.results99 (by first | exact item_tmp rfl | exact item_cellS rfl rfl rfl | exact item_cellO rfl rfl) ?_ ?_; (repeat (first | exact .nil | refine .cons ?_ ?_ | refine .o ?_ | refine .a ?_ | exact .c rfl | exact .r (by rfl) rfl | exact .nil _ _ rfl | (refine .c ?_; rotate_left) | (refine .r (by rfl) ?_; rotate_left) | (refine .nil _ _ ?_; rotate_left))); all_goals (try rfl))
theorem y_eqAgg (x y : Agg) : FnR Try.prog 100 [.a [.c (.int .i64 x.win), .c (.int .i64 x.key), .c (.int .i64 x.count), .c (.int .i64 x.sum), .c (.int .i64 x.min), .c (.int .i64 x.max)], .a [.c (.int .i64 y.win), .c (.int .i64 y.key), .c (.int .i64 y.count), .c (.int .i64 y.sum), .c (.int .i64 y.min), .c (.int .i64 y.max)]] (.one (.o (.c (.bool (decide (x = y)))))) := by
  refine fnR_of_ax Try.func100 rfl Try.ntmps100 rfl (fun w => ?_)
  (repeat' (first | (with_reducible first | refine then_normal ?_ | refine then_exit ?_ | refine then_ret ?_ | refine out_same ?_ | refine out_other rfl ?_ | refine out_ret ?_ | refine out_normal ?_ | refine ax_seq ?_ | refine ax_plain ?_ | refine ax_drawn (by kernel_rfl) ?_ | refine ax_block ?_ | refine ax_skip ?_ | refine ax_exit ?_ | refine ax_ret ?_ | refine LX.nil ?_) | refine And.intro (by kernel_rfl) ?_ | refine ax_condT rfl ?_ | refine ax_condF rfl ?_ | refine ax_condHT rfl (by assumption) ?_ | refine ax_condHF rfl (by assumption) ?_ | (refine withG (by first | exact gon_none rfl | exact gon_some rfl rfl rfl) (fun hg => ?_); (first | refine Lx.assign hg rfl rfl rfl ?_ | refine x_load1 hg rfl rfl rfl rfl rfl ?_ | refine x_fieldP hg rfl rfl rfl (by rfl) (by rfl) ?_ | (refine gate gLoad rfl ?_; refine x_loadE hg rfl rfl rfl rfl (by first | exact .ro | exact .row _) (by first | assumption | exact set_get (by first | assumption | omega | (simp only [List.length_set]; first | assumption | omega))) (by rfl) ?_) | refine x_fieldE hg rfl rfl rfl (by rfl) (by rfl) ?_ | (refine gate gLoad rfl ?_; refine x_loadF hg rfl rfl rfl rfl (by first | exact .ro | exact .row _) (by first | assumption | exact set_get (by first | assumption | omega | (simp only [List.length_set]; first | assumption | omega))) (by rfl) ?_) | refine x_loadA hg rfl rfl rfl rfl (by rfl) ?_ | refine Lx.bin hg rfl rfl rfl rfl (fun _ => rfl) ?_ | refine x_box hg rfl rfl rfl rfl rfl rfl ?_); clear hg) | refine ax_cond rfl (fun _ => ?_) (fun _ => ?_)))
  all_goals (refine ends_res1 Try.results100 (by first | exact item_tmp rfl | exact item_cellS rfl rfl rfl | exact item_cellO rfl rfl) ?_ ?_; (repeat (first | exact .nil | refine .cons ?_ ?_ | refine .o ?_ | refine .a ?_ | exact .c rfl | exact .r (by rfl) rfl | exact .nil _ _ rfl | (refine .c ?_; rotate_left) | (refine .r (by rfl) ?_; rotate_left) | (refine .nil _ _ ?_; rotate_left))); all_goals (try rfl))
  all_goals (refine congrArg Value.bool ?_; symm; first | (rw [decide_eq_false_iff_not]; rintro rfl; simp_all; done) | (rw [decide_eq_true_iff]; exact Agg.ext' (by simp_all)))
theorem y_szAggS (l : List Agg) (k : Int) (hk : 0 ≤ k ∧ k ≤ 1048576) (hl : l.length ≤ 9223372036854775807) : FnR Try.prog 64 [.o (.r kAgg 116 l), .o (.c (.int .i64 k))] (.one (.o (.c (.int .i64 (if k < l.length then -1 else k - l.length))))) := by
  by_cases hc : k < l.length
  · have hd : decide (k - (l.length : Int) < 0) = true := by simp; omega
    rw [if_pos hc]
    refine fnR_of_ax Try.func64 rfl Try.ntmps64 rfl (fun w => ?_)
    (repeat (first | (with_reducible first | refine then_normal ?_ | refine then_ret ?_ | refine ax_seq ?_ | refine ax_plain ?_ | refine ax_ret ?_ | refine LX.nil ?_) | refine ax_condHT rfl (by assumption) ?_ | (refine withG (by first | exact gon_none rfl | exact gon_some rfl rfl rfl) (fun hg => ?_); (first | refine Lx.move hg rfl rfl rfl ?_ | refine Lx.assign hg rfl rfl rfl ?_ | (refine gate gBuiltin rfl ?_; refine x_len hg rfl rfl rfl rfl (by first | exact .ro | exact .row _) ?_) | refine x_sub hg rfl rfl rfl rfl (by omega) ?_ | refine Lx.bin hg rfl rfl rfl rfl (fun _ => rfl) ?_); clear hg)))
    (refine ends_res1 Try.results64 (by first | exact item_tmp rfl | exact item_cellS rfl rfl rfl | exact item_cellO rfl rfl) ?_ ?_; (repeat (first | exact .nil | refine .cons ?_ ?_ | refine .o ?_ | refine .a ?_ | exact .c rfl | exact .r (by rfl) rfl | exact .nil _ _ rfl | (refine .c ?_; rotate_left) | (refine .r (by rfl) ?_; rotate_left) | (refine .nil _ _ ?_; rotate_left))); all_goals (try rfl))
  · have hd : decide (k - (l.length : Int) < 0) = false := by simp; omega
    rw [if_neg hc]
    refine fnR_of_ax Try.func64 rfl Try.ntmps64 rfl (fun w => ?_)
    (repeat (first | (with_reducible first | refine then_normal ?_ | refine ax_seq ?_ | refine ax_plain ?_ | refine ax_skip ?_ | refine ax_ret ?_ | refine LX.nil ?_) | refine ax_condHF rfl (by assumption) ?_ | (refine withG (by first | exact gon_none rfl | exact gon_some rfl rfl rfl) (fun hg => ?_); (first | refine Lx.move hg rfl rfl rfl ?_ | refine Lx.assign hg rfl rfl rfl ?_ | (refine gate gBuiltin rfl ?_; refine x_len hg rfl rfl rfl rfl (by first | exact .ro | exact .row _) ?_) | refine x_sub hg rfl rfl rfl rfl (by omega) ?_ | refine Lx.bin hg rfl rfl rfl rfl (fun _ => rfl) ?_); clear hg)))
    (refine ends_res1 Try.results64 (by first | exact item_tmp rfl | exact item_cellS rfl rfl rfl | exact item_cellO rfl rfl) ?_ ?_; (repeat (first | exact .nil | refine .cons ?_ ?_ | refine .o ?_ | refine .a ?_ | exact .c rfl | exact .r (by rfl) rfl | exact .nil _ _ rfl | (refine .c ?_; rotate_left) | (refine .r (by rfl) ?_; rotate_left) | (refine .nil _ _ ?_; rotate_left))); all_goals (try rfl))
theorem y_toAggS (l : List Agg) (hl : l.length ≤ 2000000) : FnR Try.prog 65 [.o (.r kAgg 116 l)] (.one (.o (.r kAgg 84 l))) := by
  refine fnR_of_ax Try.func65 rfl Try.ntmps65 rfl (fun w => ?_)
  (repeat (first | (with_reducible first | refine then_normal ?_ | refine ax_seq ?_ | refine ax_plain ?_ | refine ax_block ?_ | refine LX.nil ?_) | (refine withG (by first | exact gon_none rfl | exact gon_some rfl rfl rfl) (fun hg => ?_); (first | refine Lx.move hg rfl rfl rfl ?_ | refine Lx.assign hg rfl rfl rfl ?_ | (refine gate gBuiltin rfl ?_; refine x_len hg rfl rfl rfl rfl (by first | exact .ro | exact .row _) ?_) | (refine gate gMakeS rfl ?_; refine x_makeS hg rfl (by rfl) rfl rfl rfl (by rfl) (by first | omega | (simp only [List.length_append, List.length_take, List.length_drop, List.length_cons, List.length_nil, List.length_map]; omega)) rfl rfl ?_)); clear hg)))
  refine ax_loop (γ := Nat) (fun k => St.of 23 [(0, .o (.i 1000)), (3, .o (.i 2000)), (4, .o (.c (.int .i64 (k : Int))))] [(1000, .ro kAgg l), (2000, .row kAgg 84 (l.take k ++ List.replicate (l.length - k) ⟨0, 0, 0, 0, 0, 0⟩))]) (fun k => k ≤ l.length) (fun k => l.length - k) 0 (ρ0 := renL [(2000, 7)]) (Nat.zero_le _) (Sub.of rfl ?_ ?_ rfl) rfl (fun k hk => ?_)
  · (repeat (first | exact trivial | refine ⟨⟨rfl, rfl⟩, ?_⟩ | (refine ⟨⟨?_, rfl⟩, ?_⟩; rotate_left)))
  · (repeat (first | exact trivial | refine ⟨⟨rfl, rfl⟩, ?_⟩ | (refine ⟨⟨?_, rfl⟩, ?_⟩; rotate_left)))
  (repeat (first | (with_reducible first | refine then_normal ?_ | refine ax_seq ?_ | refine ax_plain ?_ | refine LX.nil ?_) | (refine withG (by first | exact gon_none rfl | exact gon_some rfl rfl rfl) (fun hg => ?_); (first | refine Lx.move hg rfl rfl rfl ?_ | (refine gate gBuiltin rfl ?_; refine x_len hg rfl rfl rfl rfl (by first | exact .ro | exact .row _) ?_) | refine Lx.bin hg rfl rfl rfl rfl (fun _ => rfl) ?_); clear hg)))
  refine ax_cond rfl (fun hlt => ?_) (fun hlt => ?_)
  · have hlt' : k < l.length := by simpa using hlt
    obtain ⟨x, hx⟩ := elt hlt'
    have hz := fill_get (z := (⟨0, 0, 0, 0, 0, 0⟩ : Agg)) hlt'
    have hkl := fill_len (z := (⟨0, 0, 0, 0, 0, 0⟩ : Agg)) hk
    have hlt2 : k < (l.take k ++ List.replicate (l.length - k) (⟨0, 0, 0, 0, 0, 0⟩ : Agg)).length := by rw [hkl]; exact hlt'
    (repeat (first | (with_reducible first | refine then_normal ?_ | refine out_normal ?_ | refine ax_seq ?_ | refine ax_plain ?_ | refine ax_block ?_ | refine ax_skip ?_ | refine LX.nil ?_) | (refine withG (by first | exact gon_none rfl | exact gon_some rfl rfl rfl) (fun hg => ?_); (first | refine x_call hg (by rfl) (y_toAgg x) (by rfl) (by rfl) Try.func99 (by kernel_rfl) (by rfl) (by rfl) (by first | ((repeat (first | exact .nil | refine .cons ?_ ?_ | refine .o ?_ | refine .a ?_ | exact .c _ | exact .r rfl .ro | exact .r rfl (.row _) | exact .nil _ _)); done) | fail) (by rfl) ?_ | refine Lx.move hg rfl rfl rfl ?_ | refine Lx.assign hg rfl rfl rfl ?_ | (refine gate gIndex rfl ?_; refine x_index hg rfl rfl rfl rfl rfl (by first | exact .ro | exact .row _) (by rfl) (by first | rfl | assumption) (by first | assumption | omega | (simp only [List.length_set]; first | assumption | omega)) ?_) | (refine gate gLoad rfl ?_; refine x_loadE hg rfl rfl rfl rfl (by first | exact .ro | exact .row _) (by first | assumption | exact set_get (by first | assumption | omega | (simp only [List.length_set]; first | assumption | omega))) (by rfl) ?_) | refine x_add hg rfl rfl rfl rfl (by omega) ?_ | (refine gate gStore rfl ?_; refine x_storeEA hg rfl rfl rfl rfl rfl (by first | assumption | exact set_get (by first | assumption | omega | (simp only [List.length_set]; first | assumption | omega))) rfl (by rfl) (by rfl) (by rfl) ?_)); clear hg)))
    refine ⟨k + 1, renL [], hlt', by omega, Sub.of rfl ?_ ?_ rfl, rfl⟩
    · (repeat (first | exact trivial | refine ⟨⟨rfl, rfl⟩, ?_⟩ | (refine ⟨⟨?_, rfl⟩, ?_⟩; rotate_left)))
    · (repeat (first | exact trivial | refine ⟨⟨rfl, rfl⟩, ?_⟩ | (refine ⟨⟨?_, rfl⟩, ?_⟩; rotate_left)))
      exact eqR (fill_step hx)
  · obtain rfl : k = l.length := by
      have : ¬ k < l.length := by simpa using hlt
      omega
    (repeat (first | (with_reducible first | refine then_normal ?_ | refine then_exit ?_ | refine out_same ?_ | refine ax_seq ?_ | refine ax_plain ?_ | refine ax_exit ?_ | refine ax_ret ?_ | refine LX.nil ?_) | (refine withG (by first | exact gon_none rfl | exact gon_some rfl rfl rfl) (fun hg => ?_); (first | refine Lx.move hg rfl rfl rfl ?_ | refine Lx.assign hg rfl rfl rfl ?_); clear hg)))
    (refine ends_res1 Try.results65 (by first | exact item_tmp rfl | exact item_cellS rfl rfl rfl | exact item_cellO rfl rfl) ?_ ?_; (repeat (first | exact .nil | refine .cons ?_ ?_ | refine .o ?_ | refine .a ?_ | exact .c rfl | exact .r (by rfl) rfl | exact .nil _ _ rfl | (refine .c ?_; rotate_left) | (refine .r (by rfl) ?_; rotate_left) | (refine .nil _ _ ?_; rotate_left))); all_goals (try rfl))
    all_goals simp
theorem y_eqAggS (l m : List Agg) (hl : l.length ≤ 2000000) : FnR Try.prog 67 [.o (.r kAgg 84 l), .o (.r kAgg 84 m)] (.one (.o (.c (.bool (decide (l = m)))))) := by
  by_cases hne : l.length = m.length
  rotate_left
  · have hd : ((l.length : Int) != (m.length : Int)) = true := by simp; omega
    rw [decide_eq_false (fun e => hne (by rw [e]))]
    refine fnR_of_ax Try.func67 rfl Try.ntmps67 rfl (fun w => ?_)
    (repeat (first | (with_reducible first | refine then_normal ?_ | refine then_ret ?_ | refine ax_seq ?_ | refine ax_plain ?_ | refine ax_ret ?_ | refine LX.nil ?_) | refine ax_condHT rfl (by assumption) ?_ | (refine withG (by first | exact gon_none rfl | exact gon_some rfl rfl rfl) (fun hg => ?_); (first | refine Lx.move hg rfl rfl rfl ?_ | refine Lx.assign hg rfl rfl rfl ?_ | (refine gate gBuiltin rfl ?_; refine x_len hg rfl rfl rfl rfl (by first | exact .ro | exact .row _) ?_) | refine Lx.bin hg rfl rfl rfl rfl (fun _ => rfl) ?_); clear hg)))
    (refine ends_res1 Try.results67 (by first | exact item_tmp rfl | exact item_cellS rfl rfl rfl | exact item_cellO rfl rfl) ?_ ?_; (repeat (first | exact .nil | refine .cons ?_ ?_ | refine .o ?_ | refine .a ?_ | exact .c rfl | exact .r (by rfl) rfl | exact .nil _ _ rfl | (refine .c ?_; rotate_left) | (refine .r (by rfl) ?_; rotate_left) | (refine .nil _ _ ?_; rotate_left))); all_goals (try rfl))
  have hd : ((l.length : Int) != (m.length : Int)) = false := by simp; omega
  refine fnR_of_ax Try.func67 rfl Try.ntmps67 rfl (fun w => ?_)
  (repeat (first | (with_reducible first | refine then_normal ?_ | refine ax_seq ?_ | refine ax_plain ?_ | refine ax_block ?_ | refine ax_skip ?_ | refine LX.nil ?_) | refine ax_condHF rfl (by assumption) ?_ | (refine withG (by first | exact gon_none rfl | exact gon_some rfl rfl rfl) (fun hg => ?_); (first | refine Lx.move hg rfl rfl rfl ?_ | refine Lx.assign hg rfl rfl rfl ?_ | (refine gate gBuiltin rfl ?_; refine x_len hg rfl rfl rfl rfl (by first | exact .ro | exact .row _) ?_) | refine Lx.bin hg rfl rfl rfl rfl (fun _ => rfl) ?_); clear hg)))
  refine ax_loop (γ := Nat) (fun k => St.of 27 [(0, .o (.i 1000)), (1, .o (.i 1001)), (5, .o (.c (.int .i64 (k : Int))))] [(1000, .ro kAgg l), (1001, .ro kAgg m)]) (fun k => k ≤ l.length ∧ l.take k = m.take k) (fun k => l.length - k) 0 (ρ0 := renL []) ⟨Nat.zero_le _, rfl⟩ (Sub.of rfl ?_ ?_ rfl) rfl (fun k hk => ?_)
  · (repeat (first | exact trivial | refine ⟨⟨rfl, rfl⟩, ?_⟩ | (refine ⟨⟨?_, rfl⟩, ?_⟩; rotate_left)))
  · (repeat (first | exact trivial | refine ⟨⟨rfl, rfl⟩, ?_⟩ | (refine ⟨⟨?_, rfl⟩, ?_⟩; rotate_left)))
  obtain ⟨hk, hsame⟩ := hk
  (repeat (first | (with_reducible first | refine then_normal ?_ | refine ax_seq ?_ | refine ax_plain ?_ | refine LX.nil ?_) | (refine withG (by first | exact gon_none rfl | exact gon_some rfl rfl rfl) (fun hg => ?_); (first | refine Lx.move hg rfl rfl rfl ?_ | (refine gate gBuiltin rfl ?_; refine x_len hg rfl rfl rfl rfl (by first | exact .ro | exact .row _) ?_) | refine Lx.bin hg rfl rfl rfl rfl (fun _ => rfl) ?_); clear hg)))
  refine ax_cond rfl (fun hlt => ?_) (fun hlt => ?_)
  · have hlt' : k < l.length := by simpa using hlt
    have hlt2 : k < m.length := by omega
    obtain ⟨x, hx⟩ := elt hlt'
    obtain ⟨y, hy⟩ := elt hlt2
    have cE := y_eqAgg x y
    by_cases hxy : x = y
    · rw [decide_eq_true hxy] at cE
      (repeat (first | (with_reducible first | refine then_normal ?_ | refine out_normal ?_ | refine ax_seq ?_ | refine ax_plain ?_ | refine ax_drawn (by kernel_rfl) ?_ | refine ax_block ?_ | refine ax_skip ?_ | refine LX.nil ?_) | refine And.intro (by kernel_rfl) ?_ | refine ax_condF rfl ?_ | (refine withG (by first | exact gon_none rfl | exact gon_some rfl rfl rfl) (fun hg => ?_); (first | refine x_call hg (by rfl) (cE) (by rfl) (by rfl) Try.func100 (by kernel_rfl) (by rfl) (by rfl) (by first | ((repeat (first | exact .nil | refine .cons ?_ ?_ | refine .o ?_ | refine .a ?_ | exact .c _ | exact .r rfl .ro | exact .r rfl (.row _) | exact .nil _ _)); done) | fail) (by rfl) ?_ | refine Lx.move hg rfl rfl rfl ?_ | refine Lx.assign hg rfl rfl rfl ?_ | (refine gate gIndex rfl ?_; refine x_index hg rfl rfl rfl rfl rfl (by first | exact .ro | exact .row _) (by rfl) (by first | rfl | assumption) (by first | assumption | omega | (simp only [List.length_set]; first | assumption | omega)) ?_) | (refine gate gLoad rfl ?_; refine x_loadE hg rfl rfl rfl rfl (by first | exact .ro | exact .row _) (by first | assumption | exact set_get (by first | assumption | omega | (simp only [List.length_set]; first | assumption | omega))) (by rfl) ?_) | refine x_add hg rfl rfl rfl rfl (by omega) ?_ | refine Lx.un hg rfl rfl rfl (fun _ => rfl) ?_); clear hg)))
      refine ⟨k + 1, renL [], ⟨hlt', by rw [← take_snoc hx, ← take_snoc hy, hsame, hxy]⟩, by omega, Sub.of rfl ?_ ?_ rfl, rfl⟩
      · (repeat (first | exact trivial | refine ⟨⟨rfl, rfl⟩, ?_⟩ | (refine ⟨⟨?_, rfl⟩, ?_⟩; rotate_left)))
      · (repeat (first | exact trivial | refine ⟨⟨rfl, rfl⟩, ?_⟩ | (refine ⟨⟨?_, rfl⟩, ?_⟩; rotate_left)))
    · rw [decide_eq_false hxy] at cE
      (repeat (first | (with_reducible first | refine then_normal ?_ | refine then_ret ?_ | refine out_ret ?_ | refine ax_seq ?_ | refine ax_plain ?_ | refine ax_drawn (by kernel_rfl) ?_ | refine ax_block ?_ | refine ax_skip ?_ | refine ax_ret ?_ | refine LX.nil ?_) | refine And.intro (by kernel_rfl) ?_ | refine ax_condT rfl ?_ | (refine withG (by first | exact gon_none rfl | exact gon_some rfl rfl rfl) (fun hg => ?_); (first | refine x_call hg (by rfl) (cE) (by rfl) (by rfl) Try.func100 (by kernel_rfl) (by rfl) (by rfl) (by first | ((repeat (first | exact .nil | refine .cons ?_ ?_ | refine .o ?_ | refine .a ?_ | exact .c _ | exact .r rfl .ro | exact .r rfl (.row _) | exact .nil _ _)); done) | fail) (by rfl) ?_ | refine Lx.move hg rfl rfl rfl ?_ | refine Lx.assign hg rfl rfl rfl ?_ | (refine gate gIndex rfl ?_; refine x_index hg rfl rfl rfl rfl rfl (by first | exact .ro | exact .row _) (by rfl) (by first | rfl | assumption) (by first | assumption | omega | (simp only [List.length_set]; first | assumption | omega)) ?_) | (refine gate gLoad rfl ?_; refine x_loadE hg rfl rfl rfl rfl (by first | exact .ro | exact .row _) (by first | assumption | exact set_get (by first | assumption | omega | (simp only [List.length_set]; first | assumption | omega))) (by rfl) ?_) | refine Lx.un hg rfl rfl rfl (fun _ => rfl) ?_); clear hg)))
      (refine ends_res1 Try.results67 (by first | exact item_tmp rfl | exact item_cellS rfl rfl rfl | exact item_cellO rfl rfl) ?_ ?_; (repeat (first | exact .nil | refine .cons ?_ ?_ | refine .o ?_ | refine .a ?_ | exact .c rfl | exact .r (by rfl) rfl | exact .nil _ _ rfl | (refine .c ?_; rotate_left) | (refine .r (by rfl) ?_; rotate_left) | (refine .nil _ _ ?_; rotate_left))); all_goals (try rfl))
      exact congrArg Value.bool (decide_eq_false (fun e => hxy (by subst e; rw [hx] at hy; exact Option.some.inj hy))).symm
  · obtain rfl : k = l.length := by
      have : ¬ k < l.length := by simpa using hlt
      omega
    (repeat (first | (with_reducible first | refine then_normal ?_ | refine then_exit ?_ | refine out_same ?_ | refine ax_seq ?_ | refine ax_plain ?_ | refine ax_exit ?_ | refine ax_ret ?_ | refine LX.nil ?_) | (refine withG (by first | exact gon_none rfl | exact gon_some rfl rfl rfl) (fun hg => ?_); (first | refine Lx.assign hg rfl rfl rfl ?_); clear hg)))
    (refine ends_res1 Try.results67 (by first | exact item_tmp rfl | exact item_cellS rfl rfl rfl | exact item_cellO rfl rfl) ?_ ?_; (repeat (first | exact .nil | refine .cons ?_ ?_ | refine .o ?_ | refine .a ?_ | exact .c rfl | exact .r (by rfl) rfl | exact .nil _ _ rfl | (refine .c ?_; rotate_left) | (refine .r (by rfl) ?_; rotate_left) | (refine .nil _ _ ?_; rotate_left))); all_goals (try rfl))
    exact congrArg Value.bool (decide_eq_true (by rw [List.take_length] at hsame; rw [hsame, hne, List.take_length])).symm
/-- Numbers in a line. -/
def lnAgg (k0 : Int) (i : Nat) : Agg := ⟨k0 + (i : Int) * 6, k0 + (i : Int) * 6 + 1, k0 + (i : Int) * 6 + 1 + 1, k0 + (i : Int) * 6 + 1 + 1 + 1, k0 + (i : Int) * 6 + 1 + 1 + 1 + 1, k0 + (i : Int) * 6 + 1 + 1 + 1 + 1 + 1⟩
theorem y_markAggS (l : List Agg) (k0 : Int) (hl : l.length ≤ 2000000) (h0 : 0 ≤ k0 ∧ k0 ≤ 1000000000000) : FnW Try.prog 74 [.o (.r kAgg 84 l), .o (.c (.int .i64 k0))] [.o (.r kAgg 84 ((List.range l.length).map (lnAgg k0))), .o (.c (.int .i64 k0))] (.int .i64 (k0 + (l.length : Int) * 6)) := by
  refine fnW_of_ax Try.func74 rfl Try.ntmps74 rfl (by (repeat (first | exact .nil | refine .cons ?_ ?_ | refine .o ?_ | refine .a ?_ | exact .c _ | exact .r _ _ _ _))) (fun X hX => ?_)
  (repeat (first | (with_reducible first | refine then_normal ?_ | refine ax_seq ?_ | refine ax_plain ?_ | refine ax_block ?_ | refine LX.nil ?_) | (refine withG (by first | exact gon_none rfl | exact gon_some rfl rfl rfl) (fun hg => ?_); (first | refine Lx.assign hg rfl rfl rfl ?_); clear hg)))
  refine ax_loop (γ := Nat) (fun k => St.of 55 [(0, .o (.i 1000)), (1, .o (.c (.int .i64 (k0 + (k : Int) * 6)))), (5, .o (.c (.int .i64 (k : Int))))] [(1000, .row kAgg 84 ((List.range k).map (lnAgg k0) ++ l.drop k))]) (fun k => k ≤ l.length) (fun k => l.length - k) 0 (ρ0 := renL []) (Nat.zero_le _) (Sub.of rfl ?_ ?_ rfl) (hX _ _ rfl) (fun k hk => ?_)
  · (repeat (first | exact trivial | refine ⟨⟨rfl, rfl⟩, ?_⟩ | (refine ⟨⟨?_, rfl⟩, ?_⟩; rotate_left)))
    exact eqI (by simp)
  · (repeat (first | exact trivial | refine ⟨⟨rfl, rfl⟩, ?_⟩ | (refine ⟨⟨?_, rfl⟩, ?_⟩; rotate_left)))
  have hkl := mark_len (f := lnAgg k0) hk
  (repeat (first | (with_reducible first | refine then_normal ?_ | refine ax_seq ?_ | refine ax_plain ?_ | refine LX.nil ?_) | (refine withG (by first | exact gon_none rfl | exact gon_some rfl rfl rfl) (fun hg => ?_); (first | refine Lx.move hg rfl rfl rfl ?_ | (refine gate gBuiltin rfl ?_; refine x_len hg rfl rfl rfl rfl (by first | exact .ro | exact .row _) ?_) | refine Lx.bin hg rfl rfl rfl rfl (fun _ => rfl) ?_); clear hg)))
  refine ax_cond rfl (fun hlt => ?_) (fun hlt => ?_)
  · have hlt' : k < l.length := by rw [hkl] at hlt; simpa using hlt
    obtain ⟨x, hx⟩ := elt hlt'
    have hx2 := mark_get (f := lnAgg k0) hx
    have hlt2 : k < ((List.range k).map (lnAgg k0) ++ l.drop k).length := by rw [hkl]; exact hlt'
    (repeat (first | (with_reducible first | refine then_normal ?_ | refine out_normal ?_ | refine ax_seq ?_ | refine ax_plain ?_ | refine ax_block ?_ | refine ax_skip ?_ | refine LX.nil ?_) | (refine withG (by first | exact gon_none rfl | exact gon_some rfl rfl rfl) (fun hg => ?_); (first | refine Lx.move hg rfl rfl rfl ?_ | refine Lx.assign hg rfl rfl rfl ?_ | (refine gate gIndex rfl ?_; refine x_index hg rfl rfl rfl rfl rfl (by first | exact .ro | exact .row _) (by rfl) (by first | rfl | assumption) (by first | assumption | omega | (simp only [List.length_set]; first | assumption | omega)) ?_) | refine x_fieldE hg rfl rfl rfl (by rfl) (by rfl) ?_ | refine x_add hg rfl rfl rfl rfl (by omega) ?_ | (refine gate gStore rfl ?_; refine x_storeE1 hg rfl rfl rfl rfl rfl (by first | assumption | exact set_get (by first | assumption | omega | (simp only [List.length_set]; first | assumption | omega))) rfl (by rfl) (by rfl) ?_)); clear hg)))
    refine ⟨k + 1, renL [], hlt', by omega, Sub.of rfl ?_ ?_ rfl, hX _ _ rfl⟩
    · (repeat (first | exact trivial | refine ⟨⟨rfl, rfl⟩, ?_⟩ | (refine ⟨⟨?_, rfl⟩, ?_⟩; rotate_left)))
      exact eqI (by omega)
    · (repeat (first | exact trivial | refine ⟨⟨rfl, rfl⟩, ?_⟩ | (refine ⟨⟨?_, rfl⟩, ?_⟩; rotate_left)))
      exact eqR (by simp only [List.set_set]; exact mark_step hx)
  · obtain rfl : k = l.length := by
      have : ¬ k < l.length := by rw [hkl] at hlt; simpa using hlt
      omega
    (repeat (first | (with_reducible first | refine then_normal ?_ | refine then_exit ?_ | refine out_same ?_ | refine ax_seq ?_ | refine ax_plain ?_ | refine ax_exit ?_ | refine ax_ret ?_ | refine LX.nil ?_) | (refine withG (by first | exact gon_none rfl | exact gon_some rfl rfl rfl) (fun hg => ?_); (first | refine Lx.move hg rfl rfl rfl ?_ | refine Lx.assign hg rfl rfl rfl ?_); clear hg)))
    refine ⟨4, Try.results74, rfl, one_mem ?_⟩
    exact eqR (by simp)
theorem y_heldAggS (m : Nat) (k0 : Int) (hl : m ≤ 2000000) (h0 : 0 ≤ k0 ∧ k0 ≤ 1000000000000) : FnR Try.prog 75 [.o (.r kAgg 84 ((List.range m).map (lnAgg k0))), .o (.c (.int .i64 k0))] (.one (.o (.c (.int .i64 (k0 + (m : Int) * 6))))) := by
  have hml : ((List.range m).map (lnAgg k0)).length = m := by simp
  refine fnR_of_ax Try.func75 rfl Try.ntmps75 rfl (fun w => ?_)
  (repeat (first | (with_reducible first | refine then_normal ?_ | refine ax_seq ?_ | refine ax_plain ?_ | refine ax_block ?_ | refine LX.nil ?_) | (refine withG (by first | exact gon_none rfl | exact gon_some rfl rfl rfl) (fun hg => ?_); (first | refine Lx.assign hg rfl rfl rfl ?_); clear hg)))
  refine ax_loop (γ := Nat) (fun k => St.of 67 [(0, .o (.i 1000)), (1, .o (.c (.int .i64 (k0 + (k : Int) * 6)))), (5, .o (.c (.int .i64 (k : Int))))] [(1000, .ro kAgg ((List.range m).map (lnAgg k0)))]) (fun k => k ≤ m) (fun k => m - k) 0 (ρ0 := renL []) (Nat.zero_le _) (Sub.of rfl ?_ ?_ rfl) rfl (fun k hk => ?_)
  · (repeat (first | exact trivial | refine ⟨⟨rfl, rfl⟩, ?_⟩ | (refine ⟨⟨?_, rfl⟩, ?_⟩; rotate_left)))
    exact eqI (by simp)
  · (repeat (first | exact trivial | refine ⟨⟨rfl, rfl⟩, ?_⟩ | (refine ⟨⟨?_, rfl⟩, ?_⟩; rotate_left)))
  (repeat (first | (with_reducible first | refine then_normal ?_ | refine ax_seq ?_ | refine ax_plain ?_ | refine LX.nil ?_) | (refine withG (by first | exact gon_none rfl | exact gon_some rfl rfl rfl) (fun hg => ?_); (first | refine Lx.move hg rfl rfl rfl ?_ | (refine gate gBuiltin rfl ?_; refine x_len hg rfl rfl rfl rfl (by first | exact .ro | exact .row _) ?_) | refine Lx.bin hg rfl rfl rfl rfl (fun _ => rfl) ?_); clear hg)))
  refine ax_cond rfl (fun hlt => ?_) (fun hlt => ?_)
  · have hlt' : k < m := by rw [hml] at hlt; simpa using hlt
    have hx : ((List.range m).map (lnAgg k0))[k]? = some (lnAgg k0 k) := by simp [hlt']
    have hlt2 : k < ((List.range m).map (lnAgg k0)).length := by rw [hml]; exact hlt'
    have e0 : ((lnAgg k0 k).win != k0 + (k : Int) * 6) = false := by simp [lnAgg]; try omega
    have e1 : ((lnAgg k0 k).key != k0 + (k : Int) * 6 + 1) = false := by simp [lnAgg]; try omega
    have e2 : ((lnAgg k0 k).count != k0 + (k : Int) * 6 + 1 + 1) = false := by simp [lnAgg]; try omega
    have e3 : ((lnAgg k0 k).sum != k0 + (k : Int) * 6 + 1 + 1 + 1) = false := by simp [lnAgg]; try omega
    have e4 : ((lnAgg k0 k).min != k0 + (k : Int) * 6 + 1 + 1 + 1 + 1) = false := by simp [lnAgg]; try omega
    have e5 : ((lnAgg k0 k).max != k0 + (k : Int) * 6 + 1 + 1 + 1 + 1 + 1) = false := by simp [lnAgg]; try omega
    (repeat (first | (with_reducible first | refine then_normal ?_ | refine out_normal ?_ | refine ax_seq ?_ | refine ax_plain ?_ | refine ax_block ?_ | refine ax_skip ?_ | refine LX.nil ?_) | refine ax_condHF rfl (by assumption) ?_ | (refine withG (by first | exact gon_none rfl | exact gon_some rfl rfl rfl) (fun hg => ?_); (first | refine Lx.move hg rfl rfl rfl ?_ | refine Lx.assign hg rfl rfl rfl ?_ | (refine gate gIndex rfl ?_; refine x_index hg rfl rfl rfl rfl rfl (by first | exact .ro | exact .row _) (by rfl) (by first | rfl | assumption) (by first | assumption | omega | (simp only [List.length_set]; first | assumption | omega)) ?_) | refine x_fieldE hg rfl rfl rfl (by rfl) (by rfl) ?_ | (refine gate gLoad rfl ?_; refine x_loadF hg rfl rfl rfl rfl (by first | exact .ro | exact .row _) (by first | assumption | exact set_get (by first | assumption | omega | (simp only [List.length_set]; first | assumption | omega))) (by rfl) ?_) | refine x_add hg rfl rfl rfl rfl (by omega) ?_ | refine Lx.bin hg rfl rfl rfl rfl (fun _ => rfl) ?_); clear hg)))
    refine ⟨k + 1, renL [], hlt', by omega, Sub.of rfl ?_ ?_ rfl, rfl⟩
    · (repeat (first | exact trivial | refine ⟨⟨rfl, rfl⟩, ?_⟩ | (refine ⟨⟨?_, rfl⟩, ?_⟩; rotate_left)))
      exact eqI (by omega)
    · (repeat (first | exact trivial | refine ⟨⟨rfl, rfl⟩, ?_⟩ | (refine ⟨⟨?_, rfl⟩, ?_⟩; rotate_left)))
  · obtain rfl : k = m := by
      have : ¬ k < m := by rw [hml] at hlt; simpa using hlt
      omega
    (repeat (first | (with_reducible first | refine then_normal ?_ | refine then_exit ?_ | refine out_same ?_ | refine ax_seq ?_ | refine ax_plain ?_ | refine ax_exit ?_ | refine ax_ret ?_ | refine LX.nil ?_) | (refine withG (by first | exact gon_none rfl | exact gon_some rfl rfl rfl) (fun hg => ?_); (first | refine Lx.move hg rfl rfl rfl ?_ | refine Lx.assign hg rfl rfl rfl ?_); clear hg)))
    (refine ends_res1 Try.results75 (by first | exact item_tmp rfl | exact item_cellS rfl rfl rfl | exact item_cellO rfl rfl) ?_ ?_; (repeat (first | exact .nil | refine .cons ?_ ?_ | refine .o ?_ | refine .a ?_ | exact .c rfl | exact .r (by rfl) rfl | exact .nil _ _ rfl | (refine .c ?_; rotate_left) | (refine .r (by rfl) ?_; rotate_left) | (refine .nil _ _ ?_; rotate_left))); all_goals (try rfl))
end Go.Proofs.Ytengkenhmnpbeaa.C

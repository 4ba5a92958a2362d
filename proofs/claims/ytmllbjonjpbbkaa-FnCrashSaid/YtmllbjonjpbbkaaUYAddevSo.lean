import Derived.Test.YtmllbjonjpbbkaaUp
import Derived.Test.YtmllbjonjpbbkaaUYPutA
namespace Go.Proofs.Ytmllbjonjpbbkaa.C
open Go.RowKit Go.Proofs.YtmllbjonjpbbkaaW Go.Proofs.YtmllbjonjpbbkaaW.PrintWords Go.Proofs.Ytmllbjonjpbbkaa.U
set_option maxHeartbeats 1000000
set_option maxRecDepth 100000
set_option linter.unusedVariables false
set_option linter.unusedSimpArgs false
theorem yS_addevOver (s : Shd) (size room : Int) (f : Frame) (q : Shd) (c : Int) (hq : addEv s size room f = (q, c)) (hn : s.aggs.length ≤ 2000000) (hok : evOk s size room f = true) (hL : ¬ (f.time / size + 1) * size - 1 ≤ s.mark) (hh : hitG aggLt (oneOf f size) s.aggs = false) (hR : room ≤ (s.aggs.length : Int)) : FnR Try.prog 83 [.a [.r kAgg 92 s.aggs, .c (.int .i64 s.mark), .c (.int .i64 s.late), .c (.int .i64 s.over)], .o (.c (.int .i64 size)), .o (.c (.int .i64 room)), .a [.c (.int .i64 f.kind), .c (.int .i64 f.key), .c (.int .i64 f.time), .c (.int .i64 f.value)]] (.many [.a [.r kAgg 92 q.aggs, .c (.int .i64 q.mark), .c (.int .i64 q.late), .c (.int .i64 q.over)], .o (.c (.int .i64 c))]) := by
  have cO := yS_copyShard s.aggs s.mark s.late s.over (by omega)
  have c1 := yS_ShardOk s.aggs s.mark s.late s.over (by omega)
  rw [show okShard s.aggs s.mark s.late s.over = okS s from rfl] at c1
  have c2 := yS_within size 1 1000000
  have c3 := yS_within room 1 40
  have c4 := yS_frameOk f
  obtain ⟨h1, h2, h3, h4⟩ := evOk_iff.1 hok
  obtain ⟨h5, hk⟩ := okEv_iff.1 h4
  rw [h1] at c1
  rw [h2] at c2
  rw [h3] at c3
  rw [h5] at c4
  have dk : (f.kind != 1) = false := by simp [hk]
  obtain ⟨b1, b2, b3, b4, b5, b6⟩ := okS_bd h1
  have hsz := inB_iff.1 h2
  obtain ⟨e1, e2, e3, e4⟩ := okEv_bd h4
  have htm := time_bd h4 hsz
  have cW := yS_winOf f.time size e3 hsz
  have cE := yS_winEnd (f.time / size) size htm hsz
  have dR : decide (room ≤ (s.aggs.length : Int)) = true := by simp [hR]
  obtain ⟨rfl, rfl⟩ : _ = q ∧ _ = c := Prod.mk.inj ((addEv_over hok hL hh hR).symm.trans hq)
  have dL : decide ((f.time / size + 1) * size - 1 ≤ s.mark) = false := by simp; omega
  refine fnR_of_ax Try.func83 rfl Try.ntmps83 rfl (fun w => ?_)
  (repeat (first | (with_reducible first | refine then_normal ?_ | refine ax_seq ?_ | refine ax_plain ?_ | refine ax_drawn (by kernel_rfl) ?_ | refine ax_block ?_ | refine ax_skip ?_ | refine LX.nil ?_) | refine And.intro (by kernel_rfl) ?_ | refine ax_condF rfl ?_ | (refine withG (by first | exact gon_none rfl | exact gon_some rfl rfl rfl) (fun hg => ?_); (first | refine x_call hg (by rfl) (cO) (by rfl) (by rfl) Try.func81 (by kernel_rfl) (by rfl) (by rfl) (by first | ((repeat (first | exact .nil | refine .cons ?_ ?_ | refine .o ?_ | refine .a ?_ | exact .c _ | exact .r rfl .ro | exact .r rfl (.row _) | exact .nil _ _)); done) | fail) (by rfl) ?_ | refine x_call hg (by rfl) (c1) (by rfl) (by rfl) Try.func29 (by kernel_rfl) (by rfl) (by rfl) (by first | ((repeat (first | exact .nil | refine .cons ?_ ?_ | refine .o ?_ | refine .a ?_ | exact .c _ | exact .r rfl .ro | exact .r rfl (.row _) | exact .nil _ _)); done) | fail) (by rfl) ?_ | refine x_call hg (by rfl) (c2) (by rfl) (by rfl) Try.func30 (by kernel_rfl) (by rfl) (by rfl) (by first | ((repeat (first | exact .nil | refine .cons ?_ ?_ | refine .o ?_ | refine .a ?_ | exact .c _ | exact .r rfl .ro | exact .r rfl (.row _) | exact .nil _ _)); done) | fail) (by rfl) ?_ | refine x_call hg (by rfl) (c3) (by rfl) (by rfl) Try.func30 (by kernel_rfl) (by rfl) (by rfl) (by first | ((repeat (first | exact .nil | refine .cons ?_ ?_ | refine .o ?_ | refine .a ?_ | exact .c _ | exact .r rfl .ro | exact .r rfl (.row _) | exact .nil _ _)); done) | fail) (by rfl) ?_ | refine x_call hg (by rfl) (c4) (by rfl) (by rfl) Try.func31 (by kernel_rfl) (by rfl) (by rfl) (by first | ((repeat (first | exact .nil | refine .cons ?_ ?_ | refine .o ?_ | refine .a ?_ | exact .c _ | exact .r rfl .ro | exact .r rfl (.row _) | exact .nil _ _)); done) | fail) (by rfl) ?_ | refine x_call hg (by rfl) (cW) (by rfl) (by rfl) Try.func107 (by kernel_rfl) (by rfl) (by rfl) (by first | ((repeat (first | exact .nil | refine .cons ?_ ?_ | refine .o ?_ | refine .a ?_ | exact .c _ | exact .r rfl .ro | exact .r rfl (.row _) | exact .nil _ _)); done) | fail) (by rfl) ?_ | refine x_call hg (by rfl) (cE) (by rfl) (by rfl) Try.func108 (by kernel_rfl) (by rfl) (by rfl) (by first | ((repeat (first | exact .nil | refine .cons ?_ ?_ | refine .o ?_ | refine .a ?_ | exact .c _ | exact .r rfl .ro | exact .r rfl (.row _) | exact .nil _ _)); done) | fail) (by rfl) ?_ | (refine gate gCmp rfl ?_; refine x_binH hg rfl rfl rfl rfl (fun _ => rfl) (by assumption) ?_) | refine Lx.move hg rfl rfl rfl ?_ | refine Lx.assign hg rfl rfl rfl ?_ | refine x_load1 hg rfl rfl rfl rfl rfl ?_ | refine x_fieldP hg rfl rfl rfl (by rfl) (by rfl) ?_ | refine x_loadA hg rfl rfl rfl rfl (by rfl) ?_ | refine Lx.un hg rfl rfl rfl (fun _ => rfl) ?_ | refine x_storeA hg rfl rfl rfl rfl rfl rfl (by rfl) (by rfl) ?_ | refine x_alloc hg rfl rfl rfl rfl ?_ | refine x_box hg rfl rfl rfl rfl rfl rfl ?_ | refine x_build hg rfl rfl rfl (by rfl) ?_ | refine x_pickF hg rfl rfl rfl rfl ?_); clear hg)))
  refine ax_loop (γ := Nat) (fun k => St.of 158 [(2, .o (.c (.int .i64 room))), (4, .o (.p 4 0)), (8, .o (.p 8 0)), (10, .o (.p 10 0)), (11, .o (.p 11 0)), (12, .o (.c (.int .i64 (k : Int))))] [(1000, .ro kAgg s.aggs), (4, .box 49 [.i 1000, .c (.int .i64 s.mark), .c (.int .i64 s.late), .c (.int .i64 s.over)]), (8, .box 49 [.c (.slice none 0 0), .c (.int .i64 0), .c (.int .i64 0), .c (.int .i64 0)]), (10, .box 49 [.i 100170, .c (.int .i64 s.mark), .c (.int .i64 s.late), .c (.int .i64 s.over)]), (100170, .row kAgg 92 s.aggs), (11, .box 92 [.c (.int .i64 (f.time / size)), .c (.int .i64 f.key), .c (.int .i64 1), .c (.int .i64 f.value), .c (.int .i64 f.value), .c (.int .i64 f.value)])]) (fun k => k ≤ s.aggs.length ∧ ∀ j x, j < k → s.aggs[j]? = some x → sameA x (oneOf f size) = false) (fun k => s.aggs.length - k) 0 (ρ0 := renL []) ⟨Nat.zero_le _, fun j x hj => absurd hj (Nat.not_lt_zero _)⟩ (Sub.of rfl ?_ ?_ rfl) rfl (fun k hk => ?_)
  · (repeat (first | exact trivial | refine ⟨⟨rfl, rfl⟩, ?_⟩ | (refine ⟨⟨?_, rfl⟩, ?_⟩; rotate_left)))
  · (repeat (first | exact trivial | refine ⟨⟨rfl, rfl⟩, ?_⟩ | (refine ⟨⟨?_, rfl⟩, ?_⟩; rotate_left)))
  obtain ⟨hk, hp⟩ := hk
  (repeat (first | (with_reducible first | refine then_normal ?_ | refine ax_seq ?_ | refine ax_plain ?_ | refine LX.nil ?_) | (refine withG (by first | exact gon_none rfl | exact gon_some rfl rfl rfl) (fun hg => ?_); (first | refine Lx.move hg rfl rfl rfl ?_ | refine x_load1 hg rfl rfl rfl rfl rfl ?_ | refine x_fieldP hg rfl rfl rfl (by rfl) (by rfl) ?_ | (refine gate gBuiltin rfl ?_; refine x_len hg rfl rfl rfl rfl (by first | exact .ro | exact .row _) ?_) | refine Lx.bin hg rfl rfl rfl rfl (fun _ => rfl) ?_); clear hg)))
  refine ax_cond rfl (fun hlt => ?_) (fun hlt => ?_)
  · have hlt' : k < s.aggs.length := by simpa using hlt
    obtain ⟨x, hx⟩ := elt hlt'
    by_cases g1 : x.win = f.time / size
    · have d1 : (x.win == f.time / size) = true := by simp [g1]
      by_cases g2 : x.key = f.key
      · have d2 : (x.key == f.key) = true := by simp [g2]
        obtain ⟨hkp, hh'⟩ := sameA_hit b6 hx (show sameA x (oneOf f size) = true by unfold sameA oneOf; rw [decide_eq_true g1, decide_eq_true g2]; rfl)
        rw [hh'] at hh
        cases hh
      · have d2 : (x.key == f.key) = false := by simp [g2]
        (repeat (first | (with_reducible first | refine then_normal ?_ | refine out_normal ?_ | refine ax_seq ?_ | refine ax_plain ?_ | refine ax_drawn (by kernel_rfl) ?_ | refine ax_block ?_ | refine ax_skip ?_ | refine LX.nil ?_) | refine And.intro (by kernel_rfl) ?_ | refine ax_condF rfl ?_ | (refine withG (by first | exact gon_none rfl | exact gon_some rfl rfl rfl) (fun hg => ?_); (first | (refine gate gCmp rfl ?_; refine x_binH hg rfl rfl rfl rfl (fun _ => rfl) (by assumption) ?_) | refine Lx.move hg rfl rfl rfl ?_ | refine Lx.assign hg rfl rfl rfl ?_ | refine x_load1 hg rfl rfl rfl rfl rfl ?_ | refine x_fieldP hg rfl rfl rfl (by rfl) (by rfl) ?_ | (refine gate gIndex rfl ?_; refine x_index hg rfl rfl rfl rfl rfl (by first | exact .ro | exact .row _) (by rfl) (by first | rfl | assumption) (by first | assumption | omega | (simp only [List.length_set]; first | assumption | omega)) ?_) | refine x_fieldE hg rfl rfl rfl (by rfl) (by rfl) ?_ | (refine gate gLoad rfl ?_; refine x_loadF hg rfl rfl rfl rfl (by first | exact .ro | exact .row _) (by first | assumption | exact set_get (by first | assumption | omega | (simp only [List.length_set]; first | assumption | omega))) (by rfl) ?_) | refine x_add hg rfl rfl rfl rfl (by omega) ?_ | refine x_pickT hg rfl rfl rfl rfl ?_); clear hg)))
        refine ⟨k + 1, renL [], ⟨hlt', fun j y hj hy => ?_⟩, by omega, Sub.of rfl ?_ ?_ rfl, rfl⟩
        · rcases Nat.lt_or_ge j k with h | h
          · exact hp j y h hy
          · obtain rfl : j = k := by omega
            rw [hx] at hy
            cases hy
            unfold sameA oneOf
            rw [decide_eq_false g2]
            simp
        · (repeat (first | exact trivial | refine ⟨⟨rfl, rfl⟩, ?_⟩ | (refine ⟨⟨?_, rfl⟩, ?_⟩; rotate_left)))
        · (repeat (first | exact trivial | refine ⟨⟨rfl, rfl⟩, ?_⟩ | (refine ⟨⟨?_, rfl⟩, ?_⟩; rotate_left)))
    · have d1 : (x.win == f.time / size) = false := by simp [g1]
      (repeat (first | (with_reducible first | refine then_normal ?_ | refine out_normal ?_ | refine ax_seq ?_ | refine ax_plain ?_ | refine ax_drawn (by kernel_rfl) ?_ | refine ax_block ?_ | refine ax_skip ?_ | refine LX.nil ?_) | refine And.intro (by kernel_rfl) ?_ | refine ax_condF rfl ?_ | refine Lx.off (goff_some rfl rfl rfl rfl) rfl ?_ | (refine withG (by first | exact gon_none rfl | exact gon_some rfl rfl rfl) (fun hg => ?_); (first | (refine gate gCmp rfl ?_; refine x_binH hg rfl rfl rfl rfl (fun _ => rfl) (by assumption) ?_) | refine Lx.move hg rfl rfl rfl ?_ | refine Lx.assign hg rfl rfl rfl ?_ | refine x_load1 hg rfl rfl rfl rfl rfl ?_ | refine x_fieldP hg rfl rfl rfl (by rfl) (by rfl) ?_ | (refine gate gIndex rfl ?_; refine x_index hg rfl rfl rfl rfl rfl (by first | exact .ro | exact .row _) (by rfl) (by first | rfl | assumption) (by first | assumption | omega | (simp only [List.length_set]; first | assumption | omega)) ?_) | refine x_fieldE hg rfl rfl rfl (by rfl) (by rfl) ?_ | (refine gate gLoad rfl ?_; refine x_loadF hg rfl rfl rfl rfl (by first | exact .ro | exact .row _) (by first | assumption | exact set_get (by first | assumption | omega | (simp only [List.length_set]; first | assumption | omega))) (by rfl) ?_) | refine x_add hg rfl rfl rfl rfl (by omega) ?_ | refine x_pickF hg rfl rfl rfl rfl ?_); clear hg)))
      refine ⟨k + 1, renL [], ⟨hlt', fun j y hj hy => ?_⟩, by omega, Sub.of rfl ?_ ?_ rfl, rfl⟩
      · rcases Nat.lt_or_ge j k with h | h
        · exact hp j y h hy
        · obtain rfl : j = k := by omega
          rw [hx] at hy
          cases hy
          unfold sameA oneOf
          rw [decide_eq_false g1]
          rfl
      · (repeat (first | exact trivial | refine ⟨⟨rfl, rfl⟩, ?_⟩ | (refine ⟨⟨?_, rfl⟩, ?_⟩; rotate_left)))
      · (repeat (first | exact trivial | refine ⟨⟨rfl, rfl⟩, ?_⟩ | (refine ⟨⟨?_, rfl⟩, ?_⟩; rotate_left)))
  obtain rfl : k = s.aggs.length := by
    have : ¬ k < s.aggs.length := by simpa using hlt
    omega
  have cMo := yS_cap (s.over + 1)
  (repeat (first | (with_reducible first | refine then_normal ?_ | refine then_exit ?_ | refine then_ret ?_ | refine out_same ?_ | refine ax_seq ?_ | refine ax_plain ?_ | refine ax_exit ?_ | refine ax_ret ?_ | refine LX.nil ?_) | refine ax_condT rfl ?_ | (refine withG (by first | exact gon_none rfl | exact gon_some rfl rfl rfl) (fun hg => ?_); (first | refine x_call hg (by rfl) (cMo) (by rfl) (by rfl) Try.func95 (by kernel_rfl) (by rfl) (by rfl) (by first | ((repeat (first | exact .nil | refine .cons ?_ ?_ | refine .o ?_ | refine .a ?_ | exact .c _ | exact .r rfl .ro | exact .r rfl (.row _) | exact .nil _ _)); done) | fail) (by rfl) ?_ | (refine gate gCmp rfl ?_; refine x_binH hg rfl rfl rfl rfl (fun _ => rfl) (by assumption) ?_) | refine Lx.move hg rfl rfl rfl ?_ | refine Lx.assign hg rfl rfl rfl ?_ | refine x_load1 hg rfl rfl rfl rfl rfl ?_ | refine x_fieldP hg rfl rfl rfl (by rfl) (by rfl) ?_ | (refine gate gBuiltin rfl ?_; refine x_len hg rfl rfl rfl rfl (by first | exact .ro | exact .row _) ?_) | refine x_loadA hg rfl rfl rfl rfl (by rfl) ?_ | refine x_add hg rfl rfl rfl rfl (by omega) ?_ | refine x_store1 hg rfl rfl rfl rfl rfl rfl rfl ?_ | refine x_storeA hg rfl rfl rfl rfl rfl rfl (by rfl) (by rfl) ?_); clear hg)))
  (refine ends_res2 Try.results83 (by first | exact item_tmp rfl | exact item_cellS rfl rfl rfl | exact item_cellO rfl rfl) (by first | exact item_tmp rfl | exact item_cellS rfl rfl rfl | exact item_cellO rfl rfl) ?_ ?_; (repeat (first | exact .nil | refine .cons ?_ ?_ | refine .o ?_ | refine .a ?_ | exact .c rfl | exact .r (by rfl) rfl | exact .nil _ _ rfl | (refine .c ?_; rotate_left) | (refine .r (by rfl) ?_; rotate_left) | (refine .nil _ _ ?_; rotate_left))); all_goals (try rfl))
end Go.Proofs.Ytmllbjonjpbbkaa.C

import Derived.Test.YtplcjkgbjapbmaaUp
import Derived.Test.YtplcjkgbjapbmaaUSlaw
import Derived.Test.YtplcjkgbjapbmaaUYFsparts
import Derived.Test.YtplcjkgbjapbmaaPDe
namespace Go.Proofs.Ytplcjkgbjapbmaa.C
open Go.RowKit Go.Proofs.YtplcjkgbjapbmaaW Go.Proofs.YtplcjkgbjapbmaaW.PrintWords Go.Proofs.Ytplcjkgbjapbmaa.U
set_option maxHeartbeats 1000000
set_option maxRecDepth 100000
set_option linter.unusedVariables false
set_option linter.unusedSimpArgs false
theorem y_EqualAgg (l m : List Agg) (hn : l.length ≤ 2000000) : FnR Try.prog 36 [.o (.r kAgg 55 l), .o (.r kAgg 55 m)] (.one (.o (.c (.bool (decide (l = m)))))) := by
  by_cases hl : l.length = m.length
  rotate_left
  · have hd : ((l.length : Int) != (m.length : Int)) = true := by simp; omega
    rw [decide_eq_false (fun e => hl (by rw [e]))]
    refine fnR_of_ax Try.func36 rfl Try.ntmps36 rfl (fun w => ?_)
    (repeat (first | (with_reducible first | refine then_normal ?_ | refine then_ret ?_ | refine ax_seq ?_ | refine ax_plain ?_ | refine ax_ret ?_ | refine LX.nil ?_) | refine ax_condT rfl ?_ | (refine withG (by first | exact gon_none rfl | exact gon_some rfl rfl rfl) (fun hg => ?_); (first | (refine gate gCmp rfl ?_; refine x_binH hg rfl rfl rfl rfl (fun _ => rfl) (by assumption) ?_) | refine Lx.move hg rfl rfl rfl ?_ | refine Lx.assign hg rfl rfl rfl ?_ | (refine gate gBuiltin rfl ?_; refine x_len hg rfl rfl rfl rfl (by first | exact .ro | exact .row _) ?_)); clear hg)))
    (refine ends_res1 Try.results36 (by first | exact item_tmp rfl | exact item_cellS rfl rfl rfl | exact item_cellO rfl rfl) ?_ ?_; (repeat (first | exact .nil | refine .cons ?_ ?_ | refine .o ?_ | refine .a ?_ | exact .c rfl | exact .r (by rfl) rfl | exact .nil _ _ rfl | (refine .c ?_; rotate_left) | (refine .r (by rfl) ?_; rotate_left) | (refine .nil _ _ ?_; rotate_left))); all_goals (try rfl))
  have hd : ((l.length : Int) != (m.length : Int)) = false := by simp; omega
  refine fnR_of_ax Try.func36 rfl Try.ntmps36 rfl (fun w => ?_)
  (repeat (first | (with_reducible first | refine then_normal ?_ | refine ax_seq ?_ | refine ax_plain ?_ | refine ax_block ?_ | refine ax_skip ?_ | refine LX.nil ?_) | refine ax_condF rfl ?_ | (refine withG (by first | exact gon_none rfl | exact gon_some rfl rfl rfl) (fun hg => ?_); (first | (refine gate gCmp rfl ?_; refine x_binH hg rfl rfl rfl rfl (fun _ => rfl) (by assumption) ?_) | refine Lx.move hg rfl rfl rfl ?_ | refine Lx.assign hg rfl rfl rfl ?_ | (refine gate gBuiltin rfl ?_; refine x_len hg rfl rfl rfl rfl (by first | exact .ro | exact .row _) ?_)); clear hg)))
  refine ax_loop (γ := Nat) (fun k => St.of 26 [(0, .o (.i 1000)), (1, .o (.i 1001)), (12, .o (.c (.int .i64 (l.length : Int)))), (13, .o (.c (.int .i64 (k : Int))))] [(1000, .ro kAgg l), (1001, .ro kAgg m)]) (fun k => k ≤ l.length ∧ samePre l m k) (fun k => l.length - k) 0 (ρ0 := renL []) ⟨Nat.zero_le _, fun j hj => absurd hj (Nat.not_lt_zero _)⟩ (Sub.of rfl ?_ ?_ rfl) rfl (fun k hk => ?_)
  · (repeat (first | exact trivial | refine ⟨⟨rfl, rfl⟩, ?_⟩ | (refine ⟨⟨?_, rfl⟩, ?_⟩; rotate_left)))
  · (repeat (first | exact trivial | refine ⟨⟨rfl, rfl⟩, ?_⟩ | (refine ⟨⟨?_, rfl⟩, ?_⟩; rotate_left)))
  obtain ⟨hk, hp⟩ := hk
  (repeat (first | (with_reducible first | refine then_normal ?_ | refine ax_seq ?_ | refine ax_plain ?_ | refine LX.nil ?_) | (refine withG (by first | exact gon_none rfl | exact gon_some rfl rfl rfl) (fun hg => ?_); (first | refine Lx.bin hg rfl rfl rfl rfl (fun _ => rfl) ?_); clear hg)))
  refine ax_cond rfl (fun hlt => ?_) (fun hlt => ?_)
  · have hlt' : k < l.length := by simpa using hlt
    obtain ⟨x, hx⟩ := elt hlt'
    obtain ⟨y, hy⟩ := elt (l := m) (k := k) (by omega)
    by_cases he : x = y
    · have hd2 : (!decide (x = y)) = false := by simp [he]
      (repeat (first | (with_reducible first | refine then_normal ?_ | refine out_normal ?_ | refine ax_seq ?_ | refine ax_plain ?_ | refine ax_drawn (by kernel_rfl) ?_ | refine ax_block ?_ | refine ax_skip ?_ | refine LX.nil ?_) | refine And.intro (by kernel_rfl) ?_ | refine ax_condHF rfl (by assumption) ?_ | (refine withG (by first | exact gon_none rfl | exact gon_some rfl rfl rfl) (fun hg => ?_); (first | refine x_neqS hg rfl rfl rfl rfl (fun w => neq_Agg _ _ x y w) ?_ | refine Lx.move hg rfl rfl rfl ?_ | refine Lx.assign hg rfl rfl rfl ?_ | (refine gate gIndex rfl ?_; refine x_index hg rfl rfl rfl rfl rfl (by first | exact .ro | exact .row _) (by rfl) (by first | rfl | assumption) (by first | assumption | omega | (simp only [List.length_set]; first | assumption | omega)) ?_) | (refine gate gLoad rfl ?_; refine x_loadE hg rfl rfl rfl rfl (by first | exact .ro | exact .row _) (by first | assumption | exact set_get (by first | assumption | omega | (simp only [List.length_set]; first | assumption | omega))) (by rfl) ?_) | refine x_add hg rfl rfl rfl rfl (by omega) ?_); clear hg)))
      refine ⟨k + 1, renL [], ⟨hlt', samePre_succ hp (by rw [hx, hy, he])⟩, by omega, Sub.of rfl ?_ ?_ rfl, rfl⟩
      · (repeat (first | exact trivial | refine ⟨⟨rfl, rfl⟩, ?_⟩ | (refine ⟨⟨?_, rfl⟩, ?_⟩; rotate_left)))
      · (repeat (first | exact trivial | refine ⟨⟨rfl, rfl⟩, ?_⟩ | (refine ⟨⟨?_, rfl⟩, ?_⟩; rotate_left)))
    · have hd2 : (!decide (x = y)) = true := by simp [he]
      have hne : l ≠ m := fun e => by rw [e, hy] at hx; cases hx; exact he rfl
      rw [decide_eq_false hne]
      (repeat (first | (with_reducible first | refine then_normal ?_ | refine then_ret ?_ | refine out_ret ?_ | refine ax_seq ?_ | refine ax_plain ?_ | refine ax_drawn (by kernel_rfl) ?_ | refine ax_block ?_ | refine ax_skip ?_ | refine ax_ret ?_ | refine LX.nil ?_) | refine And.intro (by kernel_rfl) ?_ | refine ax_condHT rfl (by assumption) ?_ | (refine withG (by first | exact gon_none rfl | exact gon_some rfl rfl rfl) (fun hg => ?_); (first | refine x_neqS hg rfl rfl rfl rfl (fun w => neq_Agg _ _ x y w) ?_ | refine Lx.move hg rfl rfl rfl ?_ | refine Lx.assign hg rfl rfl rfl ?_ | (refine gate gIndex rfl ?_; refine x_index hg rfl rfl rfl rfl rfl (by first | exact .ro | exact .row _) (by rfl) (by first | rfl | assumption) (by first | assumption | omega | (simp only [List.length_set]; first | assumption | omega)) ?_) | (refine gate gLoad rfl ?_; refine x_loadE hg rfl rfl rfl rfl (by first | exact .ro | exact .row _) (by first | assumption | exact set_get (by first | assumption | omega | (simp only [List.length_set]; first | assumption | omega))) (by rfl) ?_)); clear hg)))
      (refine ends_res1 Try.results36 (by first | exact item_tmp rfl | exact item_cellS rfl rfl rfl | exact item_cellO rfl rfl) ?_ ?_; (repeat (first | exact .nil | refine .cons ?_ ?_ | refine .o ?_ | refine .a ?_ | exact .c rfl | exact .r (by rfl) rfl | exact .nil _ _ rfl | (refine .c ?_; rotate_left) | (refine .r (by rfl) ?_; rotate_left) | (refine .nil _ _ ?_; rotate_left))); all_goals (try rfl))
  · obtain rfl : k = l.length := by
      have : ¬ k < l.length := by simpa using hlt
      omega
    have hee : l = m := samePre_eq hp (by omega)
    rw [decide_eq_true hee]
    (repeat (first | (with_reducible first | refine then_normal ?_ | refine then_exit ?_ | refine out_same ?_ | refine ax_seq ?_ | refine ax_plain ?_ | refine ax_exit ?_ | refine ax_ret ?_ | refine LX.nil ?_) | (refine withG (by first | exact gon_none rfl | exact gon_some rfl rfl rfl) (fun hg => ?_); (first | refine Lx.assign hg rfl rfl rfl ?_); clear hg)))
    (refine ends_res1 Try.results36 (by first | exact item_tmp rfl | exact item_cellS rfl rfl rfl | exact item_cellO rfl rfl) ?_ ?_; (repeat (first | exact .nil | refine .cons ?_ ?_ | refine .o ?_ | refine .a ?_ | exact .c rfl | exact .r (by rfl) rfl | exact .nil _ _ rfl | (refine .c ?_; rotate_left) | (refine .r (by rfl) ?_; rotate_left) | (refine .nil _ _ ?_; rotate_left))); all_goals (try rfl))
theorem yI_SameAggs (l m : List Agg) (hn : l.length ≤ 2000000) : FnR Try.prog 9 [.o (.r kAgg 55 l), .o (.r kAgg 55 m)] (.one (.o (.c (.bool (decide (l = m)))))) := by
  have cE := y_EqualAgg l m hn
  generalize decide (l = m) = e at cE
  refine fnR_of_ax Try.func9 rfl Try.ntmps9 rfl (fun w => ?_)
  (repeat (first | (with_reducible first | refine then_normal ?_ | refine ax_seq ?_ | refine ax_plain ?_ | refine ax_ret ?_ | refine LX.nil ?_) | (refine withG (by first | exact gon_none rfl | exact gon_some rfl rfl rfl) (fun hg => ?_); (first | refine x_call hg (by rfl) (cE) (by rfl) (by rfl) Try.func36 (by kernel_rfl) (by rfl) (by rfl) (by first | ((repeat (first | exact .nil | refine .cons ?_ ?_ | refine .o ?_ | refine .a ?_ | exact .c _ | exact .r rfl .ro | exact .r rfl (.row _) | exact .nil _ _)); done) | fail) (by rfl) ?_ | refine Lx.move hg rfl rfl rfl ?_ | refine Lx.assign hg rfl rfl rfl ?_); clear hg)))
  (refine ends_res1 Try.results9 (by first | exact item_tmp rfl | exact item_cellS rfl rfl rfl | exact item_cellO rfl rfl) ?_ ?_; (repeat (first | exact .nil | refine .cons ?_ ?_ | refine .o ?_ | refine .a ?_ | exact .c rfl | exact .r (by rfl) rfl | exact .nil _ _ rfl | (refine .c ?_; rotate_left) | (refine .r (by rfl) ?_; rotate_left) | (refine .nil _ _ ?_; rotate_left))); all_goals (try rfl))
theorem yI_cover (size hop : Int) (h : fineB size hop = true) : FnR Try.prog 12 [.o (.c (.int .i64 size)), .o (.c (.int .i64 hop))] (.one (.o (.c (.int .i64 (cover size hop))))) := by
  unfold fineB at h
  rw [Bool.and_eq_true] at h
  have c1 := yI_isSize size
  have c2 := yI_isSize hop
  rw [h.1] at c1
  rw [h.2] at c2
  rw [inB_iff, inB_iff] at h
  obtain ⟨hs, hh⟩ := h
  unfold cover
  have hd : 0 ≤ (size + hop - 1) / hop := Int.ediv_nonneg (by omega) (by omega)
  refine fnR_of_ax Try.func12 rfl Try.ntmps12 rfl (fun w => ?_)
  (repeat (first | (with_reducible first | refine then_normal ?_ | refine ax_seq ?_ | refine ax_plain ?_ | refine ax_skip ?_ | refine ax_ret ?_ | refine LX.nil ?_) | refine ax_condF rfl ?_ | (refine withG (by first | exact gon_none rfl | exact gon_some rfl rfl rfl) (fun hg => ?_); (first | refine x_call hg (by rfl) (c1) (by rfl) (by rfl) Try.func32 (by kernel_rfl) (by rfl) (by rfl) (by first | ((repeat (first | exact .nil | refine .cons ?_ ?_ | refine .o ?_ | refine .a ?_ | exact .c _ | exact .r rfl .ro | exact .r rfl (.row _) | exact .nil _ _)); done) | fail) (by rfl) ?_ | refine x_call hg (by rfl) (c2) (by rfl) (by rfl) Try.func32 (by kernel_rfl) (by rfl) (by rfl) (by first | ((repeat (first | exact .nil | refine .cons ?_ ?_ | refine .o ?_ | refine .a ?_ | exact .c _ | exact .r rfl .ro | exact .r rfl (.row _) | exact .nil _ _)); done) | fail) (by rfl) ?_ | refine Lx.move hg rfl rfl rfl ?_ | refine Lx.assign hg rfl rfl rfl ?_ | refine x_add hg rfl rfl rfl rfl (by omega) ?_ | refine x_sub hg rfl rfl rfl rfl (by omega) ?_ | refine x_quo hg rfl rfl rfl rfl (by omega) ?_ | refine Lx.un hg rfl rfl rfl (fun _ => rfl) ?_ | refine x_pickF hg rfl rfl rfl rfl ?_); clear hg)))
  (refine ends_res1 Try.results12 (by first | exact item_tmp rfl | exact item_cellS rfl rfl rfl | exact item_cellO rfl rfl) ?_ ?_; (repeat (first | exact .nil | refine .cons ?_ ?_ | refine .o ?_ | refine .a ?_ | exact .c rfl | exact .r (by rfl) rfl | exact .nil _ _ rfl | (refine .c ?_; rotate_left) | (refine .r (by rfl) ?_; rotate_left) | (refine .nil _ _ ?_; rotate_left))); all_goals (try rfl))
theorem yI_slideEnd (w size hop : Int) (hw : 0 ≤ w ∧ w ≤ 1000000) (h : fineB size hop = true) : FnR Try.prog 13 [.o (.c (.int .i64 w)), .o (.c (.int .i64 size)), .o (.c (.int .i64 hop))] (.one (.o (.c (.int .i64 (w * hop + size - 1))))) := by
  unfold fineB at h
  rw [Bool.and_eq_true] at h
  have c0 := yI_isTime w
  rw [inB_iff.2 hw] at c0
  have c1 := yI_isSize size
  have c2 := yI_isSize hop
  rw [h.1] at c1
  rw [h.2] at c2
  rw [inB_iff, inB_iff] at h
  obtain ⟨hs, hh⟩ := h
  have hm := mul_bd2 hw hh
  refine fnR_of_ax Try.func13 rfl Try.ntmps13 rfl (fun w => ?_)
  (repeat (first | (with_reducible first | refine then_normal ?_ | refine ax_seq ?_ | refine ax_plain ?_ | refine ax_skip ?_ | refine ax_ret ?_ | refine LX.nil ?_) | refine ax_condF rfl ?_ | (refine withG (by first | exact gon_none rfl | exact gon_some rfl rfl rfl) (fun hg => ?_); (first | refine x_call hg (by rfl) (c0) (by rfl) (by rfl) Try.func38 (by kernel_rfl) (by rfl) (by rfl) (by first | ((repeat (first | exact .nil | refine .cons ?_ ?_ | refine .o ?_ | refine .a ?_ | exact .c _ | exact .r rfl .ro | exact .r rfl (.row _) | exact .nil _ _)); done) | fail) (by rfl) ?_ | refine x_call hg (by rfl) (c1) (by rfl) (by rfl) Try.func32 (by kernel_rfl) (by rfl) (by rfl) (by first | ((repeat (first | exact .nil | refine .cons ?_ ?_ | refine .o ?_ | refine .a ?_ | exact .c _ | exact .r rfl .ro | exact .r rfl (.row _) | exact .nil _ _)); done) | fail) (by rfl) ?_ | refine x_call hg (by rfl) (c2) (by rfl) (by rfl) Try.func32 (by kernel_rfl) (by rfl) (by rfl) (by first | ((repeat (first | exact .nil | refine .cons ?_ ?_ | refine .o ?_ | refine .a ?_ | exact .c _ | exact .r rfl .ro | exact .r rfl (.row _) | exact .nil _ _)); done) | fail) (by rfl) ?_ | refine Lx.move hg rfl rfl rfl ?_ | refine Lx.assign hg rfl rfl rfl ?_ | refine x_add hg rfl rfl rfl rfl (by omega) ?_ | refine x_sub hg rfl rfl rfl rfl (by omega) ?_ | refine x_mul hg rfl rfl rfl rfl (by omega) ?_ | refine Lx.un hg rfl rfl rfl (fun _ => rfl) ?_ | refine x_pickF hg rfl rfl rfl rfl ?_); clear hg)))
  (refine ends_res1 Try.results13 (by first | exact item_tmp rfl | exact item_cellS rfl rfl rfl | exact item_cellO rfl rfl) ?_ ?_; (repeat (first | exact .nil | refine .cons ?_ ?_ | refine .o ?_ | refine .a ?_ | exact .c rfl | exact .r (by rfl) rfl | exact .nil _ _ rfl | (refine .c ?_; rotate_left) | (refine .r (by rfl) ?_; rotate_left) | (refine .nil _ _ ?_; rotate_left))); all_goals (try rfl))
theorem yL_within (l : List Int) (x : Int) (hn : l.length ≤ 2000000) : FnR Try.prog 14 [.o (.r (Kd.int .i64) 3 l), .o (.c (.int .i64 x))] (.one (.o (.c (.bool (decide (x ∈ l)))))) := by
  obtain ⟨r, hr⟩ : ∃ r, decide (x ∈ l) = r := ⟨_, rfl⟩
  rw [hr]
  refine fnR_of_ax Try.func14 rfl Try.ntmps14 rfl (fun w => ?_)
  (repeat (first | (with_reducible first | refine then_normal ?_ | refine ax_seq ?_ | refine ax_plain ?_ | refine ax_block ?_ | refine LX.nil ?_) | (refine withG (by first | exact gon_none rfl | exact gon_some rfl rfl rfl) (fun hg => ?_); (first | refine Lx.assign hg rfl rfl rfl ?_); clear hg)))
  refine ax_loop (γ := Nat) (fun k => St.of 18 [(0, .o (.i 1000)), (1, .o (.c (.int .i64 x))), (5, .o (.c (.int .i64 (k : Int))))] [(1000, .ro (Kd.int .i64) l)]) (fun k => k ≤ l.length ∧ x ∉ l.take k) (fun k => l.length - k) 0 (ρ0 := renL []) ⟨Nat.zero_le _, by simp⟩ (Sub.of rfl ?_ ?_ rfl) rfl (fun k hk => ?_)
  · (repeat (first | exact trivial | refine ⟨⟨rfl, rfl⟩, ?_⟩ | (refine ⟨⟨?_, rfl⟩, ?_⟩; rotate_left)))
  · (repeat (first | exact trivial | refine ⟨⟨rfl, rfl⟩, ?_⟩ | (refine ⟨⟨?_, rfl⟩, ?_⟩; rotate_left)))
  obtain ⟨hk, hno⟩ := hk
  (repeat (first | (with_reducible first | refine then_normal ?_ | refine ax_seq ?_ | refine ax_plain ?_ | refine LX.nil ?_) | (refine withG (by first | exact gon_none rfl | exact gon_some rfl rfl rfl) (fun hg => ?_); (first | refine Lx.move hg rfl rfl rfl ?_ | (refine gate gBuiltin rfl ?_; refine x_len hg rfl rfl rfl rfl (by first | exact .ro | exact .row _) ?_) | refine Lx.bin hg rfl rfl rfl rfl (fun _ => rfl) ?_); clear hg)))
  refine ax_cond rfl (fun hlt => ?_) (fun hlt => ?_)
  · have hlt' : k < l.length := by have := of_decide_eq_true hlt; omega
    obtain ⟨y, hy⟩ := elt hlt'
    by_cases e : y = x
    · have d : (y == x) = true := by simp [e]
      obtain rfl : true = r := by rw [← hr]; exact (decide_eq_true (e ▸ List.mem_of_getElem? hy)).symm
      (repeat (first | (with_reducible first | refine then_normal ?_ | refine then_ret ?_ | refine out_ret ?_ | refine ax_seq ?_ | refine ax_plain ?_ | refine ax_block ?_ | refine ax_skip ?_ | refine ax_ret ?_ | refine LX.nil ?_) | refine ax_condT rfl ?_ | (refine withG (by first | exact gon_none rfl | exact gon_some rfl rfl rfl) (fun hg => ?_); (first | (refine gate gCmp rfl ?_; refine x_binH hg rfl rfl rfl rfl (fun _ => rfl) (by assumption) ?_) | refine Lx.move hg rfl rfl rfl ?_ | refine Lx.assign hg rfl rfl rfl ?_ | (refine gate gIndex rfl ?_; refine x_index hg rfl rfl rfl rfl rfl (by first | exact .ro | exact .row _) (by rfl) (by first | rfl | assumption) (by first | assumption | omega | (simp only [List.length_set]; first | assumption | omega)) ?_) | (refine gate gLoad rfl ?_; refine x_loadF hg rfl rfl rfl rfl (by first | exact .ro | exact .row _) (by first | assumption | exact set_get (by first | assumption | omega | (simp only [List.length_set]; first | assumption | omega))) (by rfl) ?_)); clear hg)))
      (refine ends_res1 Try.results14 (by first | exact item_tmp rfl | exact item_cellS rfl rfl rfl | exact item_cellO rfl rfl) ?_ ?_; (repeat (first | exact .nil | refine .cons ?_ ?_ | refine .o ?_ | refine .a ?_ | exact .c rfl | exact .r (by rfl) rfl | exact .nil _ _ rfl | (refine .c ?_; rotate_left) | (refine .r (by rfl) ?_; rotate_left) | (refine .nil _ _ ?_; rotate_left))); all_goals (try rfl))
    · have d : (y == x) = false := by simp [e]
      (repeat (first | (with_reducible first | refine then_normal ?_ | refine out_normal ?_ | refine ax_seq ?_ | refine ax_plain ?_ | refine ax_block ?_ | refine ax_skip ?_ | refine LX.nil ?_) | refine ax_condF rfl ?_ | (refine withG (by first | exact gon_none rfl | exact gon_some rfl rfl rfl) (fun hg => ?_); (first | (refine gate gCmp rfl ?_; refine x_binH hg rfl rfl rfl rfl (fun _ => rfl) (by assumption) ?_) | refine Lx.move hg rfl rfl rfl ?_ | refine Lx.assign hg rfl rfl rfl ?_ | (refine gate gIndex rfl ?_; refine x_index hg rfl rfl rfl rfl rfl (by first | exact .ro | exact .row _) (by rfl) (by first | rfl | assumption) (by first | assumption | omega | (simp only [List.length_set]; first | assumption | omega)) ?_) | (refine gate gLoad rfl ?_; refine x_loadF hg rfl rfl rfl rfl (by first | exact .ro | exact .row _) (by first | assumption | exact set_get (by first | assumption | omega | (simp only [List.length_set]; first | assumption | omega))) (by rfl) ?_) | refine x_add hg rfl rfl rfl rfl (by omega) ?_); clear hg)))
      refine ⟨k + 1, renL [], ⟨hlt', ?_⟩, by omega, Sub.of rfl ?_ ?_ rfl, rfl⟩
      · rw [take_snocF hy, List.mem_append, List.mem_singleton]
        exact fun h => h.elim hno (fun h => e h.symm)
      · (repeat (first | exact trivial | refine ⟨⟨rfl, rfl⟩, ?_⟩ | (refine ⟨⟨?_, rfl⟩, ?_⟩; rotate_left)))
      · (repeat (first | exact trivial | refine ⟨⟨rfl, rfl⟩, ?_⟩ | (refine ⟨⟨?_, rfl⟩, ?_⟩; rotate_left)))
  · obtain rfl : k = l.length := by have := of_decide_eq_false hlt; omega
    rw [List.take_length] at hno
    obtain rfl : false = r := by rw [← hr]; exact (decide_eq_false hno).symm
    (repeat (first | (with_reducible first | refine then_normal ?_ | refine then_exit ?_ | refine out_same ?_ | refine ax_seq ?_ | refine ax_plain ?_ | refine ax_exit ?_ | refine ax_ret ?_ | refine LX.nil ?_) | (refine withG (by first | exact gon_none rfl | exact gon_some rfl rfl rfl) (fun hg => ?_); (first | refine Lx.assign hg rfl rfl rfl ?_); clear hg)))
    (refine ends_res1 Try.results14 (by first | exact item_tmp rfl | exact item_cellS rfl rfl rfl | exact item_cellO rfl rfl) ?_ ?_; (repeat (first | exact .nil | refine .cons ?_ ?_ | refine .o ?_ | refine .a ?_ | exact .c rfl | exact .r (by rfl) rfl | exact .nil _ _ rfl | (refine .c ?_; rotate_left) | (refine .r (by rfl) ?_; rotate_left) | (refine .nil _ _ ?_; rotate_left))); all_goals (try rfl))
theorem yI_total (l : List Agg) (hok : ∀ a ∈ l, okAgg a = true) (hs : cntG l ≤ 1000000000) (hn : l.length ≤ 2000000) : FnR Try.prog 15 [.o (.r kAgg 55 l)] (.one (.o (.c (.int .i64 (cntG l))))) := by
  have hb : ∀ a ∈ l, AggBd a := fun a ha => okAgg_AggBd (hok a ha)
  refine fnR_of_ax Try.func15 rfl Try.ntmps15 rfl (fun w => ?_)
  (repeat (first | (with_reducible first | refine then_normal ?_ | refine ax_seq ?_ | refine ax_plain ?_ | refine ax_block ?_ | refine LX.nil ?_) | (refine withG (by first | exact gon_none rfl | exact gon_some rfl rfl rfl) (fun hg => ?_); (first | refine Lx.move hg rfl rfl rfl ?_ | refine Lx.assign hg rfl rfl rfl ?_ | (refine gate gBuiltin rfl ?_; refine x_len hg rfl rfl rfl rfl (by first | exact .ro | exact .row _) ?_)); clear hg)))
  refine ax_loop (γ := Nat) (fun k => St.of 21 [(3, .o (.c (.int .i64 (cntG (l.take k))))), (6, .o (.i 1000)), (7, .o (.c (.int .i64 (l.length : Int)))), (8, .o (.c (.int .i64 (k : Int))))] [(1000, .ro kAgg l)]) (fun k => k ≤ l.length) (fun k => l.length - k) 0 (ρ0 := renL []) (Nat.zero_le _) (Sub.of rfl ?_ ?_ rfl) rfl (fun k hk => ?_)
  · (repeat (first | exact trivial | refine ⟨⟨rfl, rfl⟩, ?_⟩ | (refine ⟨⟨?_, rfl⟩, ?_⟩; rotate_left)))
  · (repeat (first | exact trivial | refine ⟨⟨rfl, rfl⟩, ?_⟩ | (refine ⟨⟨?_, rfl⟩, ?_⟩; rotate_left)))
  (repeat (first | (with_reducible first | refine then_normal ?_ | refine ax_seq ?_ | refine ax_plain ?_ | refine LX.nil ?_) | (refine withG (by first | exact gon_none rfl | exact gon_some rfl rfl rfl) (fun hg => ?_); (first | refine Lx.bin hg rfl rfl rfl rfl (fun _ => rfl) ?_); clear hg)))
  refine ax_cond rfl (fun hlt => ?_) (fun hlt => ?_)
  · have hlt' : k < l.length := by have := of_decide_eq_true hlt; omega
    obtain ⟨x, hx⟩ := elt hlt'
    have c1 := yI_aggOk x
    rw [hok x (List.mem_of_getElem? hx)] at c1
    have h1 := cntG_to hx
    have h2 := cntG_part hb k
    have h3 := cntG_part hb (k + 1)
    have h4 := (hb x (List.mem_of_getElem? hx)).1
    (repeat (first | (with_reducible first | refine then_normal ?_ | refine out_normal ?_ | refine ax_seq ?_ | refine ax_plain ?_ | refine ax_block ?_ | refine ax_skip ?_ | refine LX.nil ?_) | refine ax_condT rfl ?_ | (refine withG (by first | exact gon_none rfl | exact gon_some rfl rfl rfl) (fun hg => ?_); (first | refine x_call hg (by rfl) (c1) (by rfl) (by rfl) Try.func39 (by kernel_rfl) (by rfl) (by rfl) (by first | ((repeat (first | exact .nil | refine .cons ?_ ?_ | refine .o ?_ | refine .a ?_ | exact .c _ | exact .r rfl .ro | exact .r rfl (.row _) | exact .nil _ _)); done) | fail) (by rfl) ?_ | (refine gate gBuiltin rfl ?_; refine x_min hg rfl rfl rfl rfl ?_) | refine Lx.move hg rfl rfl rfl ?_ | refine Lx.assign hg rfl rfl rfl ?_ | refine x_load1 hg rfl rfl rfl rfl rfl ?_ | refine x_fieldP hg rfl rfl rfl (by rfl) (by rfl) ?_ | (refine gate gIndex rfl ?_; refine x_index hg rfl rfl rfl rfl rfl (by first | exact .ro | exact .row _) (by rfl) (by first | rfl | assumption) (by first | assumption | omega | (simp only [List.length_set]; first | assumption | omega)) ?_) | (refine gate gLoad rfl ?_; refine x_loadE hg rfl rfl rfl rfl (by first | exact .ro | exact .row _) (by first | assumption | exact set_get (by first | assumption | omega | (simp only [List.length_set]; first | assumption | omega))) (by rfl) ?_) | refine x_loadA hg rfl rfl rfl rfl (by rfl) ?_ | refine x_add hg rfl rfl rfl rfl (by omega) ?_ | refine x_storeA hg rfl rfl rfl rfl rfl rfl (by rfl) (by rfl) ?_ | refine x_alloc hg rfl rfl rfl rfl ?_); clear hg)))
    refine ⟨k + 1, renL [], hlt', by omega, Sub.of rfl ?_ ?_ rfl, rfl⟩
    · (repeat (first | exact trivial | refine ⟨⟨rfl, rfl⟩, ?_⟩ | (refine ⟨⟨?_, rfl⟩, ?_⟩; rotate_left)))
      all_goals first | done | exact eqI (by omega)
    · (repeat (first | exact trivial | refine ⟨⟨rfl, rfl⟩, ?_⟩ | (refine ⟨⟨?_, rfl⟩, ?_⟩; rotate_left)))
  · obtain rfl : k = l.length := by have := of_decide_eq_false hlt; omega
    rw [List.take_length]
    (repeat (first | (with_reducible first | refine then_normal ?_ | refine then_exit ?_ | refine out_same ?_ | refine ax_seq ?_ | refine ax_plain ?_ | refine ax_exit ?_ | refine ax_ret ?_ | refine LX.nil ?_) | (refine withG (by first | exact gon_none rfl | exact gon_some rfl rfl rfl) (fun hg => ?_); (first | refine Lx.move hg rfl rfl rfl ?_ | refine Lx.assign hg rfl rfl rfl ?_); clear hg)))
    (refine ends_res1 Try.results15 (by first | exact item_tmp rfl | exact item_cellS rfl rfl rfl | exact item_cellO rfl rfl) ?_ ?_; (repeat (first | exact .nil | refine .cons ?_ ?_ | refine .o ?_ | refine .a ?_ | exact .c rfl | exact .r (by rfl) rfl | exact .nil _ _ rfl | (refine .c ?_; rotate_left) | (refine .r (by rfl) ?_; rotate_left) | (refine .nil _ _ ?_; rotate_left))); all_goals (try rfl))
end Go.Proofs.Ytplcjkgbjapbmaa.C

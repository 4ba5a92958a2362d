import Derived.Test.YtplcjkgbjapbmaaUp
import Derived.Test.YtplcjkgbjapbmaaPSb
import Derived.Test.YtplcjkgbjapbmaaUYCmpO
import Derived.Test.YtplcjkgbjapbmaaUAxh
import Derived.Test.YtplcjkgbjapbmaaPTy
import Derived.Test.YtplcjkgbjapbmaaUImplAggOk
import Derived.Test.YtplcjkgbjapbmaaUSpecAggOk
import Derived.Test.YtplcjkgbjapbmaaUSpecL05Ahead
import Derived.Test.YtplcjkgbjapbmaaPOb
namespace Go.Proofs.Ytplcjkgbjapbmaa.C
open Go.RowKit Go.Proofs.YtplcjkgbjapbmaaW Go.Proofs.YtplcjkgbjapbmaaW.PrintWords Go.Proofs.Ytplcjkgbjapbmaa.U
set_option maxHeartbeats 1000000
set_option maxRecDepth 100000
set_option linter.unusedVariables false
set_option linter.unusedSimpArgs false
theorem yC_Compare (a b : Int) : FnR Try.prog 48 [.o (.c (.int .i64 a)), .o (.c (.int .i64 b))] (.one (.o (.c (.int .i64 (cmpJ a b))))) := fnR_plain rfl (fun w => (cmp_Compare a b w).mono (fun e w' h => ⟨h.1, by rw [h.2]; exact Below.refl _ _⟩))
theorem yC_Or (l : List Int) : FnR Try.prog 78 [.o (.r (Kd.int .i64) 3 l)] (.one (.o (.c (.int .i64 (orJ l))))) := fun w vs h => by
  obtain ⟨A, c, rfl, h1⟩ := row_args h
  exact (cmp_Or A c l w h1).mono (fun e w' h => ⟨_, h.1, made_plain rfl, by rw [h.2]; exact Below.refl _ _⟩)
theorem yI_aggOk (x : Agg) : FnR Try.prog 39 [.a [.c (.int .i64 x.win), .c (.int .i64 x.key), .c (.int .i64 x.count), .c (.int .i64 x.sum), .c (.int .i64 x.min), .c (.int .i64 x.max)]] (.one (.o (.c (.bool (okAgg x))))) := fnR_plain rfl (fun w => impl_AggOk x w)
theorem yS_aggOk (x : Agg) : FnR Try.prog 66 [.a [.c (.int .i64 x.win), .c (.int .i64 x.key), .c (.int .i64 x.count), .c (.int .i64 x.sum), .c (.int .i64 x.min), .c (.int .i64 x.max)]] (.one (.o (.c (.bool (okAgg x))))) := fnR_plain rfl (fun w => spec_AggOk x w)
theorem yS_ahead (x y : Agg) : FnR Try.prog 57 [.a [.c (.int .i64 x.win), .c (.int .i64 x.key), .c (.int .i64 x.count), .c (.int .i64 x.sum), .c (.int .i64 x.min), .c (.int .i64 x.max)], .a [.c (.int .i64 y.win), .c (.int .i64 y.key), .c (.int .i64 y.count), .c (.int .i64 y.sum), .c (.int .i64 y.min), .c (.int .i64 y.max)]] (.one (.o (.c (.bool (aggLt x y))))) := fnR_plain rfl (fun w => spec_l05Ahead x y w)
theorem yC_aggOrder (x y : Agg) : FnR Try.prog 62 [.a [.c (.int .i64 x.win), .c (.int .i64 x.key), .c (.int .i64 x.count), .c (.int .i64 x.sum), .c (.int .i64 x.min), .c (.int .i64 x.max)], .a [.c (.int .i64 y.win), .c (.int .i64 y.key), .c (.int .i64 y.count), .c (.int .i64 y.sum), .c (.int .i64 y.min), .c (.int .i64 y.max)]] (.one (.o (.c (.int .i64 (aggC x y))))) := by
  have c1 := yC_Compare x.win y.win
  have c2 := yC_Compare x.key y.key
  have c3 := yC_Or (cmps [x.win, x.key] [y.win, y.key])
  unfold aggC
  have e : cmps [x.win, x.key] [y.win, y.key] = [cmpJ x.win y.win, cmpJ x.key y.key] := rfl
  rw [e] at c3 ⊢
  refine fnR_of_ax Try.func62 rfl Try.ntmps62 rfl (fun w => ?_)
  (repeat (first | (with_reducible first | refine then_normal ?_ | refine then_exit ?_ | refine then_ret ?_ | refine out_same ?_ | refine out_other rfl ?_ | refine out_ret ?_ | refine out_normal ?_ | refine ax_seq ?_ | refine ax_plain ?_ | refine ax_drawn (by kernel_rfl) ?_ | refine ax_block ?_ | refine ax_skip ?_ | refine ax_exit ?_ | refine ax_ret ?_ | refine LX.nil ?_) | refine And.intro (by kernel_rfl) ?_ | refine ax_condT rfl ?_ | refine ax_condF rfl ?_ | refine ax_condHT rfl (by assumption) ?_ | refine ax_condHF rfl (by assumption) ?_ | (refine withG (by first | exact gon_none rfl | exact gon_some rfl rfl rfl) (fun hg => ?_); (first | refine x_call hg (by rfl) (c1) (by rfl) (by rfl) Try.func48 (by kernel_rfl) (by rfl) (by rfl) (by first | ((repeat (first | exact .nil | refine .cons ?_ ?_ | refine .o ?_ | refine .a ?_ | exact .c _ | exact .r rfl .ro | exact .r rfl (.row _) | exact .nil _ _)); done) | fail) (by rfl) ?_ | refine x_call hg (by rfl) (c2) (by rfl) (by rfl) Try.func48 (by kernel_rfl) (by rfl) (by rfl) (by first | ((repeat (first | exact .nil | refine .cons ?_ ?_ | refine .o ?_ | refine .a ?_ | exact .c _ | exact .r rfl .ro | exact .r rfl (.row _) | exact .nil _ _)); done) | fail) (by rfl) ?_ | refine x_call hg (by rfl) (c3) (by rfl) (by rfl) Try.func78 (by kernel_rfl) (by rfl) (by rfl) (by first | ((repeat (first | exact .nil | refine .cons ?_ ?_ | refine .o ?_ | refine .a ?_ | exact .c _ | exact .r rfl .ro | exact .r rfl (.row _) | exact .nil _ _)); done) | fail) (by rfl) ?_ | refine Lx.assign hg rfl rfl rfl ?_ | refine x_load1 hg rfl rfl rfl rfl rfl ?_ | refine x_fieldP hg rfl rfl rfl (by rfl) (by rfl) ?_ | (refine gate gLoad rfl ?_; refine x_loadE hg rfl rfl rfl rfl (by first | exact .ro | exact .row _) (by first | assumption | exact set_get (by first | assumption | omega | (simp only [List.length_set]; first | assumption | omega))) (by rfl) ?_) | refine x_fieldE hg rfl rfl rfl (by rfl) (by rfl) ?_ | (refine gate gLoad rfl ?_; refine x_loadF hg rfl rfl rfl rfl (by first | exact .ro | exact .row _) (by first | assumption | exact set_get (by first | assumption | omega | (simp only [List.length_set]; first | assumption | omega))) (by rfl) ?_) | refine x_loadA hg rfl rfl rfl rfl (by rfl) ?_ | refine x_box hg rfl rfl rfl rfl rfl rfl ?_ | refine x_buildS hg rfl (by rfl) rfl rfl (by rfl) (by rfl) (by rfl) rfl rfl ?_); clear hg)))
  (refine ends_res1 Try.results62 (by first | exact item_tmp rfl | exact item_cellS rfl rfl rfl | exact item_cellO rfl rfl) ?_ ?_; (repeat (first | exact .nil | refine .cons ?_ ?_ | refine .o ?_ | refine .a ?_ | exact .c rfl | exact .r (by rfl) rfl | exact .nil _ _ rfl | (refine .c ?_; rotate_left) | (refine .r (by rfl) ?_; rotate_left) | (refine .nil _ _ ?_; rotate_left))); all_goals (try rfl))
theorem yI_within (n a b : Int) : FnR Try.prog 58 [.o (.c (.int .i64 n)), .o (.c (.int .i64 a)), .o (.c (.int .i64 b))] (.one (.o (.c (.bool (inB n a b))))) := fnR_plain0 rfl (fun w => impl_within n a b w)
theorem yS_within (n a b : Int) : FnR Try.prog 37 [.o (.c (.int .i64 n)), .o (.c (.int .i64 a)), .o (.c (.int .i64 b))] (.one (.o (.c (.bool (inB n a b))))) := fnR_plain0 rfl (fun w => spec_l01In n a b w)
end Go.Proofs.Ytplcjkgbjapbmaa.C

import Derived.Test.YtkdndllgocdbdaaCylawAddJoin1
import Derived.Test.YtkdndllgocdbdaaCylawAddJoin2
import Derived.Test.YtkdndllgocdbdaaCylawAddJoin6
import Derived.Test.YtkdndllgocdbdaaCylawAddJoin7
import Derived.Test.YtkdndllgocdbdaaCylawAddJoin9
import Derived.Test.YtkdndllgocdbdaaCylawAddJoin14
namespace Go.Proofs.Ytkdndllgocdbdaa.C
open Go.RowKit Go.Proofs.YtkdndllgocdbdaaW Go.Proofs.YtkdndllgocdbdaaW.PrintWords Go.Proofs.Ytkdndllgocdbdaa.U
set_option maxHeartbeats 1000000
set_option maxRecDepth 100000
set_option linter.unusedVariables false
set_option linter.unusedSimpArgs false
theorem y_isEvent (x : Frame) : FnR Try.prog 77 [.a [.c (.int .i64 x.kind), .c (.int .i64 x.key), .c (.int .i64 x.time), .c (.int .i64 x.value)]] (.one (.o (.c (.bool (okEv x))))) := fnR_plain rfl (fun w => impl_isEvent x w)
theorem y_isTime (n : Int) : FnR Try.prog 66 [.o (.c (.int .i64 n))] (.one (.o (.c (.bool (inB n 0 1000000))))) := fnR_plain0 rfl (fun w => impl_isTime n w)
theorem y_meet (x y : Frame) (c : Int) : FnR Try.prog 62 [.a [.c (.int .i64 x.kind), .c (.int .i64 x.key), .c (.int .i64 x.time), .c (.int .i64 x.value)], .a [.c (.int .i64 y.kind), .c (.int .i64 y.key), .c (.int .i64 y.time), .c (.int .i64 y.value)], .o (.c (.int .i64 c))] (.one (.o (.c (.bool (meetB x y c))))) := fnR_plain rfl (fun w => impl_meet x y c w)
theorem y_pairOf (x y : Frame) : FnR Try.prog 67 [.a [.c (.int .i64 x.kind), .c (.int .i64 x.key), .c (.int .i64 x.time), .c (.int .i64 x.value)], .a [.c (.int .i64 y.kind), .c (.int .i64 y.key), .c (.int .i64 y.time), .c (.int .i64 y.value)]] (.one (.a [.c (.int .i64 ((pairB x y)).key), .c (.int .i64 ((pairB x y)).lt), .c (.int .i64 ((pairB x y)).rt), .c (.int .i64 ((pairB x y)).left), .c (.int .i64 ((pairB x y)).right)])) := fnR_plainS rfl rfl (fun _ => ⟨rfl, rfl, rfl, rfl, rfl, trivial⟩) (fun w => impl_pairOf x y w)
theorem join_args {w : World} {t : Nat} {l l' : List Frame} {m : Int} {vs : List Value} (h : okA w [.a [.r kFrame t l, .r kFrame t l', .c (.int .i64 m)]] vs) : ∃ A c A' c', vs = [.agg #[.slice A l.length c, .slice A' l'.length c', .int .i64 m]] ∧ Kd.C kFrame w A l.length l ∧ Kd.C kFrame w A' l'.length l' := by
  match vs, h with
  | [v], ⟨⟨us, e, hu⟩, _⟩ =>
    match us, hu with
    | [u1, u2, u3], ⟨⟨A, c, e1, _, h1⟩, ⟨A', c', e2, _, h2⟩, e3, _⟩ =>
      rw [show u3 = _ from e3, e1, e2] at e
      exact ⟨A, c, A', c', by rw [e], h1, h2⟩
theorem y_JoinOk (l l' : List Frame) (m : Int) : FnR Try.prog 16 [.a [.r kFrame 56 l, .r kFrame 56 l', .c (.int .i64 m)]] (.one (.o (.c (.bool (okJoin l l' m))))) := fun w vs h => by
  obtain ⟨A, c, A', c', rfl, h1, h2⟩ := join_args h
  exact (impl_JoinOk A A' c c' l l' m w h1 h2).mono (fun e w' ⟨he, hb⟩ => ⟨_, he, made_plain rfl, hb⟩)
theorem y_CloneF (l : List Frame) (hn : l.length ≤ 1000000000) : FnR Try.prog 99 [.o (.r kFrame 56 l)] (.one (.o (.r kFrame 56 l))) := fun w vs h => by
  obtain ⟨A, c, rfl, h1⟩ := row_args h
  exact (slices_Clone_Frame A c l w h1 hn).mono (fun e w' ⟨Ao, co, he, ho, hb⟩ => ⟨_, he, made_row ho, hb⟩)
theorem y_ownJoin (l l' : List Frame) (m : Int) (hn : l.length ≤ 1000000000) (hn' : l'.length ≤ 1000000000) : FnR Try.prog 72 [.a [.r kFrame 56 l, .r kFrame 56 l', .c (.int .i64 m)]] (.one (.a [.r kFrame 56 l, .r kFrame 56 l', .c (.int .i64 m)])) := by
  refine fnR_of_ax Try.func72 rfl Try.ntmps72 rfl (fun w => ?_)
  (repeat (first | (with_reducible first | refine then_normal ?_ | refine then_exit ?_ | refine then_ret ?_ | refine out_same ?_ | refine out_other rfl ?_ | refine out_ret ?_ | refine out_normal ?_ | refine ax_seq ?_ | refine ax_plain ?_ | refine ax_drawn (by kernel_rfl) ?_ | refine ax_block ?_ | refine ax_skip ?_ | refine ax_exit ?_ | refine ax_ret ?_ | refine LX.nil ?_) | refine And.intro (by kernel_rfl) ?_ | refine ax_condT rfl ?_ | refine ax_condF rfl ?_ | refine ax_condHT rfl (by assumption) ?_ | refine ax_condHF rfl (by assumption) ?_ | (refine withG (by first | exact gon_none rfl | exact gon_some rfl rfl rfl) (fun hg => ?_); (first | refine x_call hg (by rfl) (y_CloneF l hn) (by rfl) (by rfl) Try.func99 (by kernel_rfl) (by rfl) (by rfl) (by first | ((repeat (first | exact .nil | refine .cons ?_ ?_ | refine .o ?_ | refine .a ?_ | exact .c _ | exact .r rfl .ro | exact .r rfl (.row _) | exact .nil _ _)); done) | fail) (by rfl) ?_ | refine x_call hg (by rfl) (y_CloneF l' hn') (by rfl) (by rfl) Try.func99 (by kernel_rfl) (by rfl) (by rfl) (by first | ((repeat (first | exact .nil | refine .cons ?_ ?_ | refine .o ?_ | refine .a ?_ | exact .c _ | exact .r rfl .ro | exact .r rfl (.row _) | exact .nil _ _)); done) | fail) (by rfl) ?_ | refine x_load1 hg rfl rfl rfl rfl rfl ?_ | refine x_fieldP hg rfl rfl rfl (by rfl) (by rfl) ?_ | (refine gate gLoad rfl ?_; refine x_loadE hg rfl rfl rfl rfl (by first | exact .ro | exact .row _) (by first | assumption | exact set_get (by first | assumption | omega | (simp only [List.length_set]; first | assumption | omega))) (by rfl) ?_) | refine x_fieldE hg rfl rfl rfl (by rfl) (by rfl) ?_ | (refine gate gLoad rfl ?_; refine x_loadF hg rfl rfl rfl rfl (by first | exact .ro | exact .row _) (by first | assumption | exact set_get (by first | assumption | omega | (simp only [List.length_set]; first | assumption | omega))) (by rfl) ?_) | refine x_loadA hg rfl rfl rfl rfl (by rfl) ?_ | (refine gate gStore rfl ?_; refine x_storeE1 hg rfl rfl rfl rfl rfl (by first | assumption | exact set_get (by first | assumption | omega | (simp only [List.length_set]; first | assumption | omega))) rfl (by rfl) (by rfl) ?_) | (refine gate gStore rfl ?_; refine x_storeEA hg rfl rfl rfl rfl rfl (by first | assumption | exact set_get (by first | assumption | omega | (simp only [List.length_set]; first | assumption | omega))) rfl (by rfl) (by rfl) (by rfl) ?_) | refine x_store1 hg rfl rfl rfl rfl rfl rfl rfl ?_ | refine x_storeA hg rfl rfl rfl rfl rfl rfl (by rfl) (by rfl) ?_ | refine x_alloc hg rfl rfl rfl rfl ?_ | refine x_box hg rfl rfl rfl rfl rfl rfl ?_ | refine x_build hg rfl rfl rfl (by rfl) ?_); clear hg)))
  (refine ends_res1 Try.results72 (by first | exact item_tmp rfl | exact item_cellS rfl rfl rfl | exact item_cellO rfl rfl) ?_ ?_; (repeat (first | exact .nil | refine .cons ?_ ?_ | refine .o ?_ | refine .a ?_ | exact .c rfl | exact .r (by rfl) rfl | exact .nil _ _ rfl | (refine .c ?_; rotate_left) | (refine .r (by rfl) ?_; rotate_left) | (refine .nil _ _ ?_; rotate_left))); all_goals (try rfl))
end Go.Proofs.Ytkdndllgocdbdaa.C

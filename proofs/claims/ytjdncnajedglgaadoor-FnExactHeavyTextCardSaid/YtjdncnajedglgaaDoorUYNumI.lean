import Derived.Test.YtjdncnajedglgaaDoorUp
import Derived.Test.YtjdncnajedglgaaDoorShelf
import Derived.Lib.AppendIntMem
import Derived.Test.YtjdncnajedglgaaDoorUText
import Derived.Test.YtjdncnajedglgaaDoorPTy
import Derived.Test.YtjdncnajedglgaaDoorUAxh
namespace Go.Proofs.YtjdncnajedglgaaDoor.C
open Go.RowKit Go.Proofs.YtjdncnajedglgaaDoorW Go.Proofs.YtjdncnajedglgaaDoorW.PrintWords Go.Proofs.YtjdncnajedglgaaDoor.U
set_option maxHeartbeats 1000000
set_option maxRecDepth 100000
set_option linter.unusedVariables false
set_option linter.unusedSimpArgs false
def TabW (w : World) : Prop := Lib.TabIs Tryd.prog w "internal/strconv.uint64pow10" .u64 Lib.pow10Tab
theorem TabW.on {B w : World} (h : TabW B) (hk : Kp B w No_) : TabW w := Lib.TabBelow.here (Lib.TabBelow.on (Lib.tabBelow_of_tabIs h) (hk.to_below (fun _ h => h)))
theorem y_Itoa (B : World) (hT : TabW B) (n : Int) (hn : -9223372036854775808 ≤ n ∧ n ≤ 9223372036854775807) : FnRB B Tryd.prog 26 [.o (.c (.int .i64 n))] (.one (.o (.c (.string (strL (numT n)))))) := fun w vs hk hok => by
  match vs, hok with
  | [v], ⟨hv, _⟩ =>
    obtain rfl : v = .int .i64 n := hv
    refine (Tryd.strconv_Itoa n hn.1 hn.2 w (hT.on hk)).mono (fun e w' hr => ?_)
    obtain ⟨rfl, k, os, rfl⟩ := hr
    refine ⟨_, rfl, made_plain rfl, ?_⟩
    exact ⟨rfl, rfl, rfl, by simp, fun i hi => by rw [Sort.heap_grow_old _ _ (by simpa using hi)]; simp⟩
theorem yI_num (B : World) (hT : TabW B) (n : Int) (hn : -9223372036854775808 ≤ n ∧ n ≤ 9223372036854775807) : FnRB B Tryd.prog 18 [.o (.c (.int .i64 n))] (.one (.o (.c (.string (strL (numT n)))))) := by
  refine fnRB_of_ax Tryd.func18 rfl Tryd.ntmps18 rfl (fun w hBw => ?_)
  have c1 := y_Itoa w (hT.on hBw) n hn
  (repeat (first | (with_reducible first | refine then_normal ?_ | refine then_exit ?_ | refine then_ret ?_ | refine out_same ?_ | refine out_other rfl ?_ | refine out_ret ?_ | refine out_normal ?_ | refine ax_seq ?_ | refine ax_plain ?_ | refine ax_drawn (by kernel_rfl) ?_ | refine ax_block ?_ | refine ax_skip ?_ | refine ax_exit ?_ | refine ax_ret ?_ | refine LX.nil ?_) | refine And.intro (by kernel_rfl) ?_ | refine ax_condT rfl ?_ | refine ax_condF rfl ?_ | refine ax_condHT rfl (by assumption) ?_ | refine ax_condHF rfl (by assumption) ?_ | (refine withG (by first | exact gon_none rfl | exact gon_some rfl rfl rfl) (fun hg => ?_); (first | refine x_callB hg (by rfl) (fun _ h => h) (c1) (by rfl) (by rfl) Tryd.func26 (by kernel_rfl) (by rfl) (by rfl) (by first | ((repeat (first | exact .nil | refine .cons ?_ ?_ | refine .o ?_ | refine .a ?_ | exact .c _ | exact .r rfl .ro | exact .r rfl (.row _) | exact .nil _ _)); done) | fail) (by rfl) ?_ | refine Lx.move hg rfl rfl rfl ?_ | refine Lx.assign hg rfl rfl rfl ?_); clear hg)))
  (refine ends_res1 Tryd.results18 (by first | exact item_tmp rfl | exact item_cellS rfl rfl rfl | exact item_cellO rfl rfl) ?_ ?_; (repeat (first | exact .nil | refine .cons ?_ ?_ | refine .o ?_ | refine .a ?_ | exact .c rfl | exact .r (by rfl) rfl | exact .nil _ _ rfl | (refine .c ?_; rotate_left) | (refine .r (by rfl) ?_; rotate_left) | (refine .nil _ _ ?_; rotate_left))); all_goals (try rfl))
end Go.Proofs.YtjdncnajedglgaaDoor.C

import Derived.Test.YtkdndllgocdbdaaUp
import Derived.Test.YtkdndllgocdbdaaShelfP
import Derived.Test.YtkdndllgocdbdaaUYPairOrder
import Derived.Test.YtkdndllgocdbdaaUAxsk
import Derived.Test.YtkdndllgocdbdaaUPairsb
import Derived.Test.YtkdndllgocdbdaaUSlicesClonePair
namespace Go.Proofs.Ytkdndllgocdbdaa.C
open Go.RowKit Go.Proofs.YtkdndllgocdbdaaW Go.Proofs.YtkdndllgocdbdaaW.PrintWords Go.Proofs.Ytkdndllgocdbdaa.U
set_option maxHeartbeats 1000000
set_option maxRecDepth 100000
set_option linter.unusedVariables false
set_option linter.unusedSimpArgs false
theorem y_ClonePair (l : List Pair) (hn : l.length ≤ 1000000000) : FnR Try.prog 85 [.o (.r kPair 84 l)] (.one (.o (.r kPair 84 l))) := fun w vs h => by
  obtain ⟨A, c, rfl, h1⟩ := row_args h
  exact (slices_Clone_Pair A c l w h1 hn).mono (fun e w' ⟨Ao, co, he, ho, hb⟩ => ⟨_, he, made_row ho, hb⟩)
open Go.Sort in
theorem pair_swo : SWO (Go.Proofs.ltOf pairC) where
  irrefl x := by unfold Go.Proofs.ltOf; rw [pairC_lt]; cases h : pairLt x x with | false => rfl | true => exact (pairLt_wo.asym _ _ h).symm.trans h |> fun e => by cases e
  trans x y z h1 h2 := by unfold Go.Proofs.ltOf at *; rw [pairC_lt] at *; exact pairLt_wo.trans h1 h2
  ntrans x y z h1 h2 := by unfold Go.Proofs.ltOf at *; rw [pairC_lt] at *; exact pairLt_wo.ntrans _ _ _ h1 h2
theorem y_sortFuncP (xs : List Pair) (hn : xs.length ≤ 1000000000) : FnS Try.prog 86 [.o (.vl (.i 1)), .o (.vl (.c (.func (.func 87) #[] #[])))] [(1, .row kPair 84 xs)] (.t []) [(1, .row kPair 84 (sortL pairLt xs))] :=
  fnS_sortK _ flat_flat rfl (sortL pairLt) sortL_len xs hn (fun blk off cap D w hH hblk hsz => by
    have eg : ∀ args w, (callFunc 87 args).run Try.prog w = .ok (.enter 87 args) w := enters_of Try.func87 (by kernel_rfl) rfl
    have := Go.Proofs.AnyQ.slices_SortFunc_total (α := Pair) Try.sortPair 5 Try.isAgg84 Try.sizeOf84 Pair.enc (fun _ => rfl) (fun x v hv => flat_flat.one (d := kPair) (enc := Pair.enc) x v hv) pairC pair_swo 87 #[] blk off cap D w eg (fun m os dk _ x y => pairOrder_ex x y _) hH hblk hsz (fun x y h1 h2 => by unfold Go.Proofs.ltOf at h1 h2; rw [pairC_lt] at h1 h2; exact pairLt_total x y h1 h2)
    refine this.mono (fun en w' hr => ⟨hr.1, ?_⟩)
    obtain ⟨_, n, os, h⟩ := hr
    refine ⟨n, os, ?_⟩
    rw [h]
    have e : (fun x y : Pair => !Go.Proofs.ltOf pairC y x) = fun x y => !pairLt y x := by funext x y; unfold Go.Proofs.ltOf; rw [pairC_lt]
    rw [e, sortP_merge]
    rfl) (fun p cap w => Go.Proofs.AnyF.slices_SortFunc_none Try.sortPair p cap _ w)
theorem yI_sortP (l : List Pair) (hn : l.length ≤ 2000000) : FnR Try.prog 51 [.o (.r kPair 84 l)] (.one (.o (.r kPair 84 (sortP l)))) := by
  unfold sortP
  by_cases hl : l.length ≤ 1600
  rotate_left
  · have hd : decide ((1600 : Int) < (l.length : Int)) = true := by simp; omega
    rw [if_neg hl]
    refine fnR_of_ax Try.func51 rfl Try.ntmps51 rfl (fun w => ?_)
    (repeat (first | (with_reducible first | refine then_normal ?_ | refine then_exit ?_ | refine then_ret ?_ | refine out_same ?_ | refine out_other rfl ?_ | refine out_ret ?_ | refine out_normal ?_ | refine ax_seq ?_ | refine ax_plain ?_ | refine ax_drawn (by kernel_rfl) ?_ | refine ax_block ?_ | refine ax_skip ?_ | refine ax_exit ?_ | refine ax_ret ?_ | refine LX.nil ?_) | refine And.intro (by kernel_rfl) ?_ | refine ax_condT rfl ?_ | refine ax_condF rfl ?_ | refine ax_condHT rfl (by assumption) ?_ | refine ax_condHF rfl (by assumption) ?_ | (refine withG (by first | exact gon_none rfl | exact gon_some rfl rfl rfl) (fun hg => ?_); (first | (refine gate gCmp rfl ?_; refine x_binH hg rfl rfl rfl rfl (fun _ => rfl) (by assumption) ?_) | (refine gate gBuiltin rfl ?_; refine x_lenS hg rfl rfl rfl ?_) | refine Lx.move hg rfl rfl rfl ?_ | refine Lx.assign hg rfl rfl rfl ?_ | (refine gate gBuiltin rfl ?_; refine x_len hg rfl rfl rfl rfl (by first | exact .ro | exact .row _) ?_) | refine Lx.bin hg rfl rfl rfl rfl (fun _ => rfl) ?_); clear hg)))
    (refine ends_res1 Try.results51 (by first | exact item_tmp rfl | exact item_cellS rfl rfl rfl | exact item_cellO rfl rfl) ?_ ?_; (repeat (first | exact .nil | refine .cons ?_ ?_ | refine .o ?_ | refine .a ?_ | exact .c rfl | exact .r (by rfl) rfl | exact .nil _ _ rfl | (refine .c ?_; rotate_left) | (refine .r (by rfl) ?_; rotate_left) | (refine .nil _ _ ?_; rotate_left))); all_goals (try rfl))
  have hd : decide ((1600 : Int) < (l.length : Int)) = false := by simp; omega
  rw [if_pos hl]
  have cC := y_ClonePair l (by omega)
  have cS := (y_sortFuncP l (by omega)).ren [(1, 100080)] rfl rfl rfl rfl rfl rfl rfl rfl rfl
  refine fnR_of_ax Try.func51 rfl Try.ntmps51 rfl (fun w => ?_)
  (repeat (first | (with_reducible first | refine then_normal ?_ | refine then_exit ?_ | refine then_ret ?_ | refine out_same ?_ | refine out_other rfl ?_ | refine out_ret ?_ | refine out_normal ?_ | refine ax_seq ?_ | refine ax_plain ?_ | refine ax_drawn (by kernel_rfl) ?_ | refine ax_block ?_ | refine ax_skip ?_ | refine ax_exit ?_ | refine ax_ret ?_ | refine LX.nil ?_) | refine And.intro (by kernel_rfl) ?_ | refine ax_condT rfl ?_ | refine ax_condF rfl ?_ | refine ax_condHT rfl (by assumption) ?_ | refine ax_condHF rfl (by assumption) ?_ | (refine withG (by first | exact gon_none rfl | exact gon_some rfl rfl rfl) (fun hg => ?_); (first | refine x_call hg (by rfl) (cC) (by rfl) (by rfl) Try.func85 (by kernel_rfl) (by rfl) (by rfl) (by first | ((repeat (first | exact .nil | refine .cons ?_ ?_ | refine .o ?_ | refine .a ?_ | exact .c _ | exact .r rfl .ro | exact .r rfl (.row _) | exact .nil _ _)); done) | fail) (by rfl) ?_ | refine x_callS hg (by rfl) (cS) (by rfl) (by rfl) Try.func86 (by kernel_rfl) (by rfl) (by rfl) (by first | ((repeat (first | exact .nil | refine .cons ?_ ?_ | refine .o ?_ | refine .a ?_ | exact .vl _ | exact .r (t := 0) (.r rfl .ro) | exact .r (t := 0) (.r rfl (.row _)) | exact .r (.nil _ 0) | exact .r (t := 0) (.s (by rfl) (by first | exact .ro | exact .row _) (by rfl) (by first | assumption | omega | (simp only [List.length_append, List.length_take, List.length_drop, List.length_set, List.length_map, List.length_range, List.length_drop, List.length_replicate, Nat.zero_add]; omega)) (by first | rfl | assumption)))); done) | fail) (by repeat (first | exact trivial | refine ⟨rfl, ?_⟩)) (by rfl) ?_ | (refine gate gCmp rfl ?_; refine x_binH hg rfl rfl rfl rfl (fun _ => rfl) (by assumption) ?_) | (refine gate gBuiltin rfl ?_; refine x_lenS hg rfl rfl rfl ?_) | refine Lx.move hg rfl rfl rfl ?_ | refine Lx.assign hg rfl rfl rfl ?_ | (refine gate gBuiltin rfl ?_; refine x_len hg rfl rfl rfl rfl (by first | exact .ro | exact .row _) ?_) | refine Lx.bin hg rfl rfl rfl rfl (fun _ => rfl) ?_); clear hg)))
  (refine ends_res1 Try.results51 (by first | exact item_tmp rfl | exact item_cellS rfl rfl rfl | exact item_cellO rfl rfl) ?_ ?_; (repeat (first | exact .nil | refine .cons ?_ ?_ | refine .o ?_ | refine .a ?_ | exact .c rfl | exact .r (by rfl) rfl | exact .nil _ _ rfl | (refine .c ?_; rotate_left) | (refine .r (by rfl) ?_; rotate_left) | (refine .nil _ _ ?_; rotate_left))); all_goals (try rfl))
end Go.Proofs.Ytkdndllgocdbdaa.C

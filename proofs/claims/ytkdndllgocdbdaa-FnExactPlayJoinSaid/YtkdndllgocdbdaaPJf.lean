import Derived.Test.YtkdndllgocdbdaaUp
import Derived.Test.YtkdndllgocdbdaaPJb
import Derived.Test.YtkdndllgocdbdaaPJc
import Derived.Test.YtkdndllgocdbdaaPJd
import Derived.Test.YtkdndllgocdbdaaPJe
import Derived.Test.YtkdndllgocdbdaaPJg
namespace Go.Proofs.Ytkdndllgocdbdaa.C
open Go.RowKit Go.Proofs.YtkdndllgocdbdaaW Go.Proofs.YtkdndllgocdbdaaW.PrintWords Go.Proofs.Ytkdndllgocdbdaa.U
set_option maxHeartbeats 1000000
set_option maxRecDepth 100000
set_option linter.unusedVariables false
set_option linter.unusedSimpArgs false
theorem addL_le {l l' : List Frame} {m c : Int} {left : Bool} {f : Frame} : (addL l l' m c left f).length ≤ l.length + 1 := by rw [addL]; split <;> simp
theorem addR_le {l l' : List Frame} {m c : Int} {left : Bool} {f : Frame} : (addR l l' m c left f).length ≤ l'.length + 1 := by rw [addR]; split <;> simp
theorem addPs_le {l l' : List Frame} {m c : Int} {left : Bool} {f : Frame} : (addPs l l' m c left f).length ≤ l.length + l'.length := by
  rw [addPs]
  split
  · cases left
    · simpa using Nat.le_trans (pairs_le (k := l.length) (c := c) (left := false) (f := f) (Nat.le_refl l.length) |> fun h => by simpa using h) (Nat.le_add_right l.length l'.length)
    · simpa using Nat.le_trans (pairs_le (k := l'.length) (c := c) (left := true) (f := f) (Nat.le_refl l'.length) |> fun h => by simpa using h) (Nat.le_add_left l'.length l.length)
  · simp
theorem yI_AddJoin (l l' : List Frame) (m by_ : Int) (left : Bool) (f : Frame) (hn : l.length ≤ 2000000) (hn' : l'.length ≤ 2000000) : FnR Try.prog 40 [.a [.r kFrame 56 l, .r kFrame 56 l', .c (.int .i64 m)], .o (.c (.int .i64 by_)), .o (.c (.bool left)), .a [.c (.int .i64 f.kind), .c (.int .i64 f.key), .c (.int .i64 f.time), .c (.int .i64 f.value)]] (.many [.a [.r kFrame 56 (addL l l' m by_ left f), .r kFrame 56 (addR l l' m by_ left f), .c (.int .i64 m)], .o (.r kPair 84 (addPs l l' m by_ left f)), .o (.c (.int .i64 (addCode l l' m by_ left f)))]) := by
  by_cases hok : (okJoin l l' m && (okEv f && inB by_ 0 1000000)) = true
  rotate_left
  · have hb := Bool.eq_false_iff.2 hok
    have e : addCode l l' m by_ left f = 3 := by rw [addCode, if_pos hb]
    simp only [addL, addR, addPs, e]
    cases left
    · exact y_addBad_false l l' m by_ f (by omega) (by omega) hb
    · exact y_addBad_true l l' m by_ f (by omega) (by omega) hb
  by_cases ht : f.time ≤ m
  · have e : addCode l l' m by_ left f = 1 := by rw [addCode, if_neg (by simp [hok]), if_pos ht]
    simp only [addL, addR, addPs, e]
    cases left
    · exact y_addLate_false l l' m by_ f (by omega) (by omega) hok ht
    · exact y_addLate_true l l' m by_ f (by omega) (by omega) hok ht
  by_cases h40 : (if left then l else l').length = 40
  · have e : addCode l l' m by_ left f = 2 := by rw [addCode, if_neg (by simp [hok]), if_neg ht, if_pos h40]
    simp only [addL, addR, addPs, e]
    cases left
    · exact y_addFull_false l l' m by_ f (by omega) (by omega) hok ht h40
    · exact y_addFull_true l l' m by_ f (by omega) (by omega) hok ht h40
  · have e : addCode l l' m by_ left f = 0 := by rw [addCode, if_neg (by simp [hok]), if_neg ht, if_neg h40]
    simp only [addL, addR, addPs, e]
    cases left
    · exact y_addGood_false l l' m by_ f (by omega) (by omega) hok ht h40
    · exact y_addGood_true l l' m by_ f (by omega) (by omega) hok ht h40
theorem yS_AddJoin (l l' : List Frame) (m by_ : Int) (left : Bool) (f : Frame) (hn : l.length ≤ 2000000) (hn' : l'.length ≤ 2000000) : FnR Try.prog 38 [.a [.r kFrame 56 l, .r kFrame 56 l', .c (.int .i64 m)], .o (.c (.int .i64 by_)), .o (.c (.bool left)), .a [.c (.int .i64 f.kind), .c (.int .i64 f.key), .c (.int .i64 f.time), .c (.int .i64 f.value)]] (.many [.a [.r kFrame 56 (addL l l' m by_ left f), .r kFrame 56 (addR l l' m by_ left f), .c (.int .i64 m)], .o (.r kPair 84 (addPs l l' m by_ left f)), .o (.c (.int .i64 (addCode l l' m by_ left f)))]) := by
  by_cases hok : (okJoin l l' m && (okEv f && inB by_ 0 1000000)) = true
  rotate_left
  · have hb := Bool.eq_false_iff.2 hok
    have e : addCode l l' m by_ left f = 3 := by rw [addCode, if_pos hb]
    simp only [addL, addR, addPs, e]
    exact yS_addBad l l' m by_ f (by omega) (by omega) left hb
  by_cases ht : f.time ≤ m
  · have e : addCode l l' m by_ left f = 1 := by rw [addCode, if_neg (by simp [hok]), if_pos ht]
    simp only [addL, addR, addPs, e]
    exact yS_addLate l l' m by_ f (by omega) (by omega) left hok ht
  by_cases h40 : (if left then l else l').length = 40
  · have e : addCode l l' m by_ left f = 2 := by rw [addCode, if_neg (by simp [hok]), if_neg ht, if_pos h40]
    simp only [addL, addR, addPs, e]
    cases left
    · exact yS_addFull_false l l' m by_ f (by omega) (by omega) hok ht h40
    · exact yS_addFull_true l l' m by_ f (by omega) (by omega) hok ht h40
  · have e : addCode l l' m by_ left f = 0 := by rw [addCode, if_neg (by simp [hok]), if_neg ht, if_neg h40]
    simp only [addL, addR, addPs, e]
    cases left
    · exact yS_addGood_false l l' m by_ f (by omega) (by omega) hok ht h40
    · exact yS_addGood_true l l' m by_ f (by omega) (by omega) hok ht h40
theorem y_isMark (n : Int) : FnR Try.prog 58 [.o (.c (.int .i64 n))] (.one (.o (.c (.bool (inB n (-1) 1000000))))) := fnR_plain0 rfl (fun w => impl_isMark n w)
theorem yI_raiseBad (l l' : List Frame) (m by_ mk : Int) (hn : l.length ≤ 2000000) (hn' : l'.length ≤ 2000000) (hbad : rjOk l l' m by_ mk = false) : FnR Try.prog 35 [.a [.r kFrame 56 l, .r kFrame 56 l', .c (.int .i64 m)], .o (.c (.int .i64 by_)), .o (.c (.int .i64 mk))] (.many [.a [.r kFrame 56 l, .r kFrame 56 l', .c (.int .i64 m)], .o (.c (.int .i64 (-1)))]) := by
  have cJ := y_JoinOk l l' m
  have cM := y_isMark mk
  have cI := y_isTime by_
  unfold rjOk at hbad
  generalize okJoin l l' m = b1 at cJ hbad
  generalize inB mk (-1) 1000000 = b2 at cM hbad
  generalize inB by_ 0 1000000 = b3 at cI hbad
  cases b1
  rotate_left
  cases b2
  rotate_left
  cases b3
  rotate_left
  · cases hbad
  all_goals
    refine fnR_of_ax Try.func35 rfl Try.ntmps35 rfl (fun w => ?_)
    (repeat (first | (with_reducible first | refine then_normal ?_ | refine then_exit ?_ | refine then_ret ?_ | refine out_same ?_ | refine out_other rfl ?_ | refine out_ret ?_ | refine out_normal ?_ | refine ax_seq ?_ | refine ax_plain ?_ | refine ax_drawn (by kernel_rfl) ?_ | refine ax_block ?_ | refine ax_skip ?_ | refine ax_exit ?_ | refine ax_ret ?_ | refine LX.nil ?_) | refine And.intro (by kernel_rfl) ?_ | refine ax_condT rfl ?_ | refine ax_condF rfl ?_ | refine ax_condHT rfl (by assumption) ?_ | refine ax_condHF rfl (by assumption) ?_ | refine Lx.off (goff_some rfl rfl rfl rfl) rfl ?_ | (refine withG (by first | exact gon_none rfl | exact gon_some rfl rfl rfl) (fun hg => ?_); (first | refine x_call hg (by rfl) (cJ) (by rfl) (by rfl) Try.func16 (by kernel_rfl) (by rfl) (by rfl) (by first | ((repeat (first | exact .nil | refine .cons ?_ ?_ | refine .o ?_ | refine .a ?_ | exact .c _ | exact .r rfl .ro | exact .r rfl (.row _) | exact .nil _ _)); done) | fail) (by rfl) ?_ | refine x_call hg (by rfl) (cM) (by rfl) (by rfl) Try.func58 (by kernel_rfl) (by rfl) (by rfl) (by first | ((repeat (first | exact .nil | refine .cons ?_ ?_ | refine .o ?_ | refine .a ?_ | exact .c _ | exact .r rfl .ro | exact .r rfl (.row _) | exact .nil _ _)); done) | fail) (by rfl) ?_ | refine x_call hg (by rfl) (cI) (by rfl) (by rfl) Try.func66 (by kernel_rfl) (by rfl) (by rfl) (by first | ((repeat (first | exact .nil | refine .cons ?_ ?_ | refine .o ?_ | refine .a ?_ | exact .c _ | exact .r rfl .ro | exact .r rfl (.row _) | exact .nil _ _)); done) | fail) (by rfl) ?_ | refine x_call hg (by rfl) (y_ownJoin l l' m (by omega) (by omega)) (by rfl) (by rfl) Try.func72 (by kernel_rfl) (by rfl) (by rfl) (by first | ((repeat (first | exact .nil | refine .cons ?_ ?_ | refine .o ?_ | refine .a ?_ | exact .c _ | exact .r rfl .ro | exact .r rfl (.row _) | exact .nil _ _)); done) | fail) (by rfl) ?_ | (refine gate gCmp rfl ?_; refine x_binH hg rfl rfl rfl rfl (fun _ => rfl) (by assumption) ?_) | (refine gate gBuiltin rfl ?_; refine x_lenS hg rfl rfl rfl ?_) | (refine gate gBuiltin rfl ?_; refine x_max hg rfl rfl rfl rfl ?_) | refine x_makeF hg rfl rfl rfl (by rfl) ?_ | refine Lx.move hg rfl rfl rfl ?_ | refine Lx.assign hg rfl rfl rfl ?_ | refine x_load1 hg rfl rfl rfl rfl rfl ?_ | refine x_fieldP hg rfl rfl rfl (by rfl) (by rfl) ?_ | (refine gate gLoad rfl ?_; refine x_loadE hg rfl rfl rfl rfl (by first | exact .ro | exact .row _) (by first | assumption | exact set_get (by first | assumption | omega | (simp only [List.length_set]; first | assumption | omega))) (by rfl) ?_) | refine x_fieldE hg rfl rfl rfl (by rfl) (by rfl) ?_ | (refine gate gLoad rfl ?_; refine x_loadF hg rfl rfl rfl rfl (by first | exact .ro | exact .row _) (by first | assumption | exact set_get (by first | assumption | omega | (simp only [List.length_set]; first | assumption | omega))) (by rfl) ?_) | (refine gate gBuiltin rfl ?_; refine x_len hg rfl rfl rfl rfl (by first | exact .ro | exact .row _) ?_) | refine x_loadA hg rfl rfl rfl rfl (by rfl) ?_ | refine x_add hg rfl rfl rfl rfl (by omega) ?_ | refine x_sub hg rfl rfl rfl rfl (by omega) ?_ | refine Lx.bin hg rfl rfl rfl rfl (fun _ => rfl) ?_ | refine Lx.un hg rfl rfl rfl (fun _ => rfl) ?_ | (refine gate gStore rfl ?_; refine x_storeE1 hg rfl rfl rfl rfl rfl (by first | assumption | exact set_get (by first | assumption | omega | (simp only [List.length_set]; first | assumption | omega))) rfl (by rfl) (by rfl) ?_) | (refine gate gStore rfl ?_; refine x_storeEA hg rfl rfl rfl rfl rfl (by first | assumption | exact set_get (by first | assumption | omega | (simp only [List.length_set]; first | assumption | omega))) rfl (by rfl) (by rfl) (by rfl) ?_) | refine x_store1 hg rfl rfl rfl rfl rfl rfl rfl ?_ | refine x_storeA hg rfl rfl rfl rfl rfl rfl (by rfl) (by rfl) ?_ | refine x_alloc hg rfl rfl rfl rfl ?_ | refine x_box hg rfl rfl rfl rfl rfl rfl ?_ | refine x_pickT hg rfl rfl rfl rfl ?_ | refine x_pickF hg rfl rfl rfl rfl ?_); clear hg)))
    (refine ends_res2 Try.results35 (by first | exact item_tmp rfl | exact item_cellS rfl rfl rfl | exact item_cellO rfl rfl) (by first | exact item_tmp rfl | exact item_cellS rfl rfl rfl | exact item_cellO rfl rfl) ?_ ?_; (repeat (first | exact .nil | refine .cons ?_ ?_ | refine .o ?_ | refine .a ?_ | exact .c rfl | exact .r (by rfl) rfl | exact .nil _ _ rfl | (refine .c ?_; rotate_left) | (refine .r (by rfl) ?_; rotate_left) | (refine .nil _ _ ?_; rotate_left))); all_goals (try rfl))
theorem yI_raiseGood (l l' : List Frame) (m by_ mk : Int) (hn : l.length ≤ 2000000) (hn' : l'.length ≤ 2000000) (hok : rjOk l l' m by_ mk = true) : FnR Try.prog 35 [.a [.r kFrame 56 l, .r kFrame 56 l', .c (.int .i64 m)], .o (.c (.int .i64 by_)), .o (.c (.int .i64 mk))] (.many [.a [.r kFrame 56 (l.filter (keepT (max m mk) by_)), .r kFrame 56 (l'.filter (keepT (max m mk) by_)), .c (.int .i64 (max m mk))], .o (.c (.int .i64 ((l.length : Int) + l'.length - (l.filter (keepT (max m mk) by_)).length - (l'.filter (keepT (max m mk) by_)).length)))]) := by
  have cJ := y_JoinOk l l' m
  have cM := y_isMark mk
  have cI := y_isTime by_
  unfold rjOk at hok
  simp only [Bool.and_eq_true] at hok
  have hm := okJoin_mark hok.1
  have hmk := inB_iff.1 hok.2.1
  have hby := inB_iff.1 hok.2.2
  rw [hok.1] at cJ
  rw [hok.2.1] at cM
  rw [hok.2.2] at cI
  have c1 := y_deleteA l l' (max m mk) by_ (by omega) hby hn
  have c2 := y_deleteB l' (l.filter (keepT (max m mk) by_) ++ List.replicate (l.length - (l.filter (keepT (max m mk) by_)).length) ⟨0, 0, 0, 0⟩) (l.filter (keepT (max m mk) by_)).length (max m mk) by_ (by omega) hby hn'
  have h1 := List.length_filter_le (keepT (max m mk) by_) l
  have h2 := List.length_filter_le (keepT (max m mk) by_) l'
  refine fnR_of_ax Try.func35 rfl Try.ntmps35 rfl (fun w => ?_)
  (repeat (first | (with_reducible first | refine then_normal ?_ | refine then_exit ?_ | refine then_ret ?_ | refine out_same ?_ | refine out_other rfl ?_ | refine out_ret ?_ | refine out_normal ?_ | refine ax_seq ?_ | refine ax_plain ?_ | refine ax_drawn (by kernel_rfl) ?_ | refine ax_block ?_ | refine ax_skip ?_ | refine ax_exit ?_ | refine ax_ret ?_ | refine LX.nil ?_) | refine And.intro (by kernel_rfl) ?_ | refine ax_condT rfl ?_ | refine ax_condF rfl ?_ | refine ax_condHT rfl (by assumption) ?_ | refine ax_condHF rfl (by assumption) ?_ | refine Lx.off (goff_some rfl rfl rfl rfl) rfl ?_ | (refine withG (by first | exact gon_none rfl | exact gon_some rfl rfl rfl) (fun hg => ?_); (first | refine x_call hg (by rfl) (cJ) (by rfl) (by rfl) Try.func16 (by kernel_rfl) (by rfl) (by rfl) (by first | ((repeat (first | exact .nil | refine .cons ?_ ?_ | refine .o ?_ | refine .a ?_ | exact .c _ | exact .r rfl .ro | exact .r rfl (.row _) | exact .nil _ _)); done) | fail) (by rfl) ?_ | refine x_call hg (by rfl) (cM) (by rfl) (by rfl) Try.func58 (by kernel_rfl) (by rfl) (by rfl) (by first | ((repeat (first | exact .nil | refine .cons ?_ ?_ | refine .o ?_ | refine .a ?_ | exact .c _ | exact .r rfl .ro | exact .r rfl (.row _) | exact .nil _ _)); done) | fail) (by rfl) ?_ | refine x_call hg (by rfl) (cI) (by rfl) (by rfl) Try.func66 (by kernel_rfl) (by rfl) (by rfl) (by first | ((repeat (first | exact .nil | refine .cons ?_ ?_ | refine .o ?_ | refine .a ?_ | exact .c _ | exact .r rfl .ro | exact .r rfl (.row _) | exact .nil _ _)); done) | fail) (by rfl) ?_ | refine x_call hg (by rfl) (y_ownJoin l l' m (by omega) (by omega)) (by rfl) (by rfl) Try.func72 (by kernel_rfl) (by rfl) (by rfl) (by first | ((repeat (first | exact .nil | refine .cons ?_ ?_ | refine .o ?_ | refine .a ?_ | exact .c _ | exact .r rfl .ro | exact .r rfl (.row _) | exact .nil _ _)); done) | fail) (by rfl) ?_ | refine x_callS hg (by rfl) (c1) (by rfl) (by rfl) Try.func74 (by kernel_rfl) (by rfl) (by rfl) (by first | ((repeat (first | exact .nil | refine .cons ?_ ?_ | refine .o ?_ | refine .a ?_ | exact .vl _ | exact .r (t := 0) (.r rfl .ro) | exact .r (t := 0) (.r rfl (.row _)) | exact .r (.nil _ 0) | exact .r (t := 0) (.s (by rfl) (by first | exact .ro | exact .row _) (by rfl) (by first | assumption | omega | (simp only [List.length_append, List.length_take, List.length_drop, List.length_set, List.length_map, List.length_range]; omega)) (by first | rfl | assumption)))); done) | fail) (by repeat (first | exact trivial | refine ⟨rfl, ?_⟩)) (by rfl) ?_ | refine x_callS hg (by rfl) (c2) (by rfl) (by rfl) Try.func74 (by kernel_rfl) (by rfl) (by rfl) (by first | ((repeat (first | exact .nil | refine .cons ?_ ?_ | refine .o ?_ | refine .a ?_ | exact .vl _ | exact .r (t := 0) (.r rfl .ro) | exact .r (t := 0) (.r rfl (.row _)) | exact .r (.nil _ 0) | exact .r (t := 0) (.s (by rfl) (by first | exact .ro | exact .row _) (by rfl) (by first | assumption | omega | (simp only [List.length_append, List.length_take, List.length_drop, List.length_set, List.length_map, List.length_range]; omega)) (by first | rfl | assumption)))); done) | fail) (by repeat (first | exact trivial | refine ⟨rfl, ?_⟩)) (by rfl) ?_ | (refine gate gCmp rfl ?_; refine x_binH hg rfl rfl rfl rfl (fun _ => rfl) (by assumption) ?_) | (refine gate gBuiltin rfl ?_; refine x_lenS hg rfl rfl rfl ?_) | (refine gate gBuiltin rfl ?_; refine x_max hg rfl rfl rfl rfl ?_) | refine x_makeF hg rfl rfl rfl (by rfl) ?_ | refine Lx.move hg rfl rfl rfl ?_ | refine Lx.assign hg rfl rfl rfl ?_ | refine x_load1 hg rfl rfl rfl rfl rfl ?_ | refine x_fieldP hg rfl rfl rfl (by rfl) (by rfl) ?_ | (refine gate gLoad rfl ?_; refine x_loadE hg rfl rfl rfl rfl (by first | exact .ro | exact .row _) (by first | assumption | exact set_get (by first | assumption | omega | (simp only [List.length_set]; first | assumption | omega))) (by rfl) ?_) | refine x_fieldE hg rfl rfl rfl (by rfl) (by rfl) ?_ | (refine gate gLoad rfl ?_; refine x_loadF hg rfl rfl rfl rfl (by first | exact .ro | exact .row _) (by first | assumption | exact set_get (by first | assumption | omega | (simp only [List.length_set]; first | assumption | omega))) (by rfl) ?_) | (refine gate gBuiltin rfl ?_; refine x_len hg rfl rfl rfl rfl (by first | exact .ro | exact .row _) ?_) | refine x_loadA hg rfl rfl rfl rfl (by rfl) ?_ | refine x_add hg rfl rfl rfl rfl (by omega) ?_ | refine x_sub hg rfl rfl rfl rfl (by omega) ?_ | refine Lx.bin hg rfl rfl rfl rfl (fun _ => rfl) ?_ | refine Lx.un hg rfl rfl rfl (fun _ => rfl) ?_ | (refine gate gStore rfl ?_; refine x_storeE1 hg rfl rfl rfl rfl rfl (by first | assumption | exact set_get (by first | assumption | omega | (simp only [List.length_set]; first | assumption | omega))) rfl (by rfl) (by rfl) ?_) | (refine gate gStore rfl ?_; refine x_storeEA hg rfl rfl rfl rfl rfl (by first | assumption | exact set_get (by first | assumption | omega | (simp only [List.length_set]; first | assumption | omega))) rfl (by rfl) (by rfl) (by rfl) ?_) | refine x_store1 hg rfl rfl rfl rfl rfl rfl rfl ?_ | refine x_storeA hg rfl rfl rfl rfl rfl rfl (by rfl) (by rfl) ?_ | refine x_alloc hg rfl rfl rfl rfl ?_ | refine x_box hg rfl rfl rfl rfl rfl rfl ?_ | refine x_pickT hg rfl rfl rfl rfl ?_ | refine x_pickF hg rfl rfl rfl rfl ?_); clear hg)))
  refine ends_trim 100110 (l.filter (keepT (max m mk) by_)).length 3000 rfl ?_ rfl ?_
  · rw [List.length_append]; omega
  refine ends_trim 100111 (l'.filter (keepT (max m mk) by_)).length 3001 rfl ?_ rfl ?_
  · rw [List.length_append]; omega
  have t1 : (l.filter (keepT (max m mk) by_) ++ List.replicate (l.length - (l.filter (keepT (max m mk) by_)).length) (⟨0, 0, 0, 0⟩ : Frame)).take (l.filter (keepT (max m mk) by_)).length = l.filter (keepT (max m mk) by_) := List.take_left' rfl
  have t2 : (l'.filter (keepT (max m mk) by_) ++ List.replicate (l'.length - (l'.filter (keepT (max m mk) by_)).length) (⟨0, 0, 0, 0⟩ : Frame)).take (l'.filter (keepT (max m mk) by_)).length = l'.filter (keepT (max m mk) by_) := List.take_left' rfl
  refine ends_res2 Try.results35 (item_whole (j := 1) (id := 3001) (d := kFrame) (item_whole (j := 0) (id := 3000) (d := kFrame) (item_cellS rfl rfl rfl) rfl rfl (.row _) (congrArg List.length t1.symm)) rfl rfl (.row _) (congrArg List.length t2.symm)) (item_tmp rfl) ?_ (by rfl)
  exact .cons (.a (.cons (.r rfl t1) (.cons (.r rfl t2) (.cons (.c rfl) .nil)))) (.cons (.o (.c rfl)) .nil)
end Go.Proofs.Ytkdndllgocdbdaa.C

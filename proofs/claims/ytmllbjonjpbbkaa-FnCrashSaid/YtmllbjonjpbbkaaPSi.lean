import Derived.Test.YtmllbjonjpbbkaaUp
import Derived.Test.YtmllbjonjpbbkaaPSd
import Derived.Test.YtmllbjonjpbbkaaUYTsave
import Derived.Test.YtmllbjonjpbbkaaPSg
import Derived.Test.YtmllbjonjpbbkaaPSh
namespace Go.Proofs.Ytmllbjonjpbbkaa.C
open Go.RowKit Go.Proofs.YtmllbjonjpbbkaaW Go.Proofs.YtmllbjonjpbbkaaW.PrintWords Go.Proofs.Ytmllbjonjpbbkaa.U
set_option maxHeartbeats 1000000
set_option maxRecDepth 100000
set_option linter.unusedVariables false
set_option linter.unusedSimpArgs false
theorem yS_savesBad (size room : Int) (l : List Frame) (e : Int) (q : List Save) (c : Bool) (hq : savesL size room l e = q) (hc : savesOk size room l e = c) (hl : l.length ≤ 1000000000) (hno : savesOk size room l e = false) : FnR Try.prog 51 [.o (.c (.int .i64 size)), .o (.c (.int .i64 room)), .o (.r kFrame 40 l), .o (.c (.int .i64 e))] (.many [.o (.r (kSave 92) 60 q), .o (.c (.bool c))]) := by
  have c2 := yS_size14 size room
  have c3 := yS_within e 1 300
  cases h1 : (inB size 1 1000000 && inB room 1 40)
  · rw [h1] at c2
    have hb : savesOk size room l e = false := by rw [savesOk, h1]; rfl
    obtain ⟨rfl, rfl⟩ : [] = q ∧ false = c := ⟨by rw [← hq]; exact (saves_bad hb).symm, by rw [← hc, hb]⟩
    refine fnR_of_ax Try.func51 rfl Try.ntmps51 rfl (fun w => ?_)
    (repeat (first | (with_reducible first | refine then_normal ?_ | refine then_ret ?_ | refine ax_seq ?_ | refine ax_plain ?_ | refine ax_ret ?_ | refine LX.nil ?_) | refine ax_condT rfl ?_ | refine Lx.off (goff_some rfl rfl rfl rfl) rfl ?_ | (refine withG (by first | exact gon_none rfl | exact gon_some rfl rfl rfl) (fun hg => ?_); (first | refine x_call hg (by rfl) (c2) (by rfl) (by rfl) Try.func77 (by kernel_rfl) (by rfl) (by rfl) (by first | ((repeat (first | exact .nil | refine .cons ?_ ?_ | refine .o ?_ | refine .a ?_ | exact .c _ | exact .r rfl .ro | exact .r rfl (.row _) | exact .nil _ _)); done) | fail) (by rfl) ?_ | refine Lx.move hg rfl rfl rfl ?_ | refine Lx.assign hg rfl rfl rfl ?_ | refine Lx.un hg rfl rfl rfl (fun _ => rfl) ?_ | refine x_pickT hg rfl rfl rfl rfl ?_); clear hg)))
    (refine ends_res2 Try.results51 (by first | exact item_tmp rfl | exact item_cellS rfl rfl rfl | exact item_cellO rfl rfl) (by first | exact item_tmp rfl | exact item_cellS rfl rfl rfl | exact item_cellO rfl rfl) ?_ ?_; (repeat (first | exact .nil | refine .cons ?_ ?_ | refine .o ?_ | refine .a ?_ | exact .c rfl | exact .r (by rfl) rfl | exact .nil _ _ rfl | (refine .c ?_; rotate_left) | (refine .r (by rfl) ?_; rotate_left) | (refine .nil _ _ ?_; rotate_left))); all_goals (try rfl))
  rw [h1] at c2
  by_cases h2 : l.length ≤ 300
  rotate_left
  · have d1 : decide ((300 : Int) < (l.length : Int)) = true := by simp; omega
    have hb : savesOk size room l e = false := by rw [savesOk, decide_eq_false h2]; simp
    obtain ⟨rfl, rfl⟩ : [] = q ∧ false = c := ⟨by rw [← hq]; exact (saves_bad hb).symm, by rw [← hc, hb]⟩
    refine fnR_of_ax Try.func51 rfl Try.ntmps51 rfl (fun w => ?_)
    (repeat (first | (with_reducible first | refine then_normal ?_ | refine then_ret ?_ | refine ax_seq ?_ | refine ax_plain ?_ | refine ax_ret ?_ | refine LX.nil ?_) | refine ax_condT rfl ?_ | refine Lx.off (goff_some rfl rfl rfl rfl) rfl ?_ | (refine withG (by first | exact gon_none rfl | exact gon_some rfl rfl rfl) (fun hg => ?_); (first | refine x_call hg (by rfl) (c2) (by rfl) (by rfl) Try.func77 (by kernel_rfl) (by rfl) (by rfl) (by first | ((repeat (first | exact .nil | refine .cons ?_ ?_ | refine .o ?_ | refine .a ?_ | exact .c _ | exact .r rfl .ro | exact .r rfl (.row _) | exact .nil _ _)); done) | fail) (by rfl) ?_ | (refine gate gCmp rfl ?_; refine x_binH hg rfl rfl rfl rfl (fun _ => rfl) (by assumption) ?_) | refine Lx.move hg rfl rfl rfl ?_ | refine Lx.assign hg rfl rfl rfl ?_ | (refine gate gBuiltin rfl ?_; refine x_len hg rfl rfl rfl rfl (by first | exact .ro | exact .row _) ?_) | refine Lx.un hg rfl rfl rfl (fun _ => rfl) ?_ | refine x_pickT hg rfl rfl rfl rfl ?_ | refine x_pickF hg rfl rfl rfl rfl ?_); clear hg)))
    (refine ends_res2 Try.results51 (by first | exact item_tmp rfl | exact item_cellS rfl rfl rfl | exact item_cellO rfl rfl) (by first | exact item_tmp rfl | exact item_cellS rfl rfl rfl | exact item_cellO rfl rfl) ?_ ?_; (repeat (first | exact .nil | refine .cons ?_ ?_ | refine .o ?_ | refine .a ?_ | exact .c rfl | exact .r (by rfl) rfl | exact .nil _ _ rfl | (refine .c ?_; rotate_left) | (refine .r (by rfl) ?_; rotate_left) | (refine .nil _ _ ?_; rotate_left))); all_goals (try rfl))
  have d1 : decide ((300 : Int) < (l.length : Int)) = false := by simp; omega
  cases h3 : inB e 1 300
  · rw [h3] at c3
    have hb : savesOk size room l e = false := by rw [savesOk, h3]; simp
    obtain ⟨rfl, rfl⟩ : [] = q ∧ false = c := ⟨by rw [← hq]; exact (saves_bad hb).symm, by rw [← hc, hb]⟩
    refine fnR_of_ax Try.func51 rfl Try.ntmps51 rfl (fun w => ?_)
    (repeat (first | (with_reducible first | refine then_normal ?_ | refine then_ret ?_ | refine ax_seq ?_ | refine ax_plain ?_ | refine ax_ret ?_ | refine LX.nil ?_) | refine ax_condT rfl ?_ | refine Lx.off (goff_some rfl rfl rfl rfl) rfl ?_ | (refine withG (by first | exact gon_none rfl | exact gon_some rfl rfl rfl) (fun hg => ?_); (first | refine x_call hg (by rfl) (c2) (by rfl) (by rfl) Try.func77 (by kernel_rfl) (by rfl) (by rfl) (by first | ((repeat (first | exact .nil | refine .cons ?_ ?_ | refine .o ?_ | refine .a ?_ | exact .c _ | exact .r rfl .ro | exact .r rfl (.row _) | exact .nil _ _)); done) | fail) (by rfl) ?_ | refine x_call hg (by rfl) (c3) (by rfl) (by rfl) Try.func30 (by kernel_rfl) (by rfl) (by rfl) (by first | ((repeat (first | exact .nil | refine .cons ?_ ?_ | refine .o ?_ | refine .a ?_ | exact .c _ | exact .r rfl .ro | exact .r rfl (.row _) | exact .nil _ _)); done) | fail) (by rfl) ?_ | (refine gate gCmp rfl ?_; refine x_binH hg rfl rfl rfl rfl (fun _ => rfl) (by assumption) ?_) | refine Lx.move hg rfl rfl rfl ?_ | refine Lx.assign hg rfl rfl rfl ?_ | (refine gate gBuiltin rfl ?_; refine x_len hg rfl rfl rfl rfl (by first | exact .ro | exact .row _) ?_) | refine Lx.un hg rfl rfl rfl (fun _ => rfl) ?_ | refine x_pickT hg rfl rfl rfl rfl ?_ | refine x_pickF hg rfl rfl rfl rfl ?_); clear hg)))
    (refine ends_res2 Try.results51 (by first | exact item_tmp rfl | exact item_cellS rfl rfl rfl | exact item_cellO rfl rfl) (by first | exact item_tmp rfl | exact item_cellS rfl rfl rfl | exact item_cellO rfl rfl) ?_ ?_; (repeat (first | exact .nil | refine .cons ?_ ?_ | refine .o ?_ | refine .a ?_ | exact .c rfl | exact .r (by rfl) rfl | exact .nil _ _ rfl | (refine .c ?_; rotate_left) | (refine .r (by rfl) ?_; rotate_left) | (refine .nil _ _ ?_; rotate_left))); all_goals (try rfl))
  rw [h3] at c3
  by_cases h4 : l.length / e.toNat + 1 ≤ 20
  · exfalso
    rw [Bool.and_eq_true] at h1
    rw [savesOk_iff.2 ⟨h1, h2, h3, h4⟩] at hno
    cases hno
  · have hb : savesOk size room l e = false := hno
    obtain ⟨E, rfl⟩ := Int.eq_ofNat_of_zero_le (show 0 ≤ e by have := inB_iff.1 h3; omega)
    have hE := inB_iff.1 h3
    have eq1 : (l.length : Int) / (E : Int) + 1 = ((l.length / E + 1 : Nat) : Int) := by rw [Int.natCast_add, Int.natCast_ediv]; rfl
    have hdl : l.length / E ≤ l.length := Nat.div_le_self _ _
    have hdq : (l.length : Int) / (E : Int) ≤ 1000000000 := Int.le_trans (Int.ediv_le_self _ (Int.natCast_nonneg _)) (by omega)
    have hdz : 0 ≤ (l.length : Int) / (E : Int) := Int.ediv_nonneg (Int.natCast_nonneg _) (Int.natCast_nonneg _)
    rw [Int.toNat_natCast] at h4
    have d2 : decide ((20 : Int) < (l.length : Int) / (E : Int) + 1) = true := by rw [eq1]; exact decide_eq_true (by omega)
    obtain ⟨rfl, rfl⟩ : [] = q ∧ false = c := ⟨by rw [← hq]; exact (saves_bad hb).symm, by rw [← hc, hb]⟩
    refine fnR_of_ax Try.func51 rfl Try.ntmps51 rfl (fun w => ?_)
    (repeat (first | (with_reducible first | refine then_normal ?_ | refine then_ret ?_ | refine ax_seq ?_ | refine ax_plain ?_ | refine ax_ret ?_ | refine LX.nil ?_) | refine ax_condT rfl ?_ | (refine withG (by first | exact gon_none rfl | exact gon_some rfl rfl rfl) (fun hg => ?_); (first | refine x_call hg (by rfl) (c2) (by rfl) (by rfl) Try.func77 (by kernel_rfl) (by rfl) (by rfl) (by first | ((repeat (first | exact .nil | refine .cons ?_ ?_ | refine .o ?_ | refine .a ?_ | exact .c _ | exact .r rfl .ro | exact .r rfl (.row _) | exact .nil _ _)); done) | fail) (by rfl) ?_ | refine x_call hg (by rfl) (c3) (by rfl) (by rfl) Try.func30 (by kernel_rfl) (by rfl) (by rfl) (by first | ((repeat (first | exact .nil | refine .cons ?_ ?_ | refine .o ?_ | refine .a ?_ | exact .c _ | exact .r rfl .ro | exact .r rfl (.row _) | exact .nil _ _)); done) | fail) (by rfl) ?_ | (refine gate gCmp rfl ?_; refine x_binH hg rfl rfl rfl rfl (fun _ => rfl) (by assumption) ?_) | refine Lx.move hg rfl rfl rfl ?_ | refine Lx.assign hg rfl rfl rfl ?_ | (refine gate gBuiltin rfl ?_; refine x_len hg rfl rfl rfl rfl (by first | exact .ro | exact .row _) ?_) | refine x_add hg rfl rfl rfl rfl (by omega) ?_ | refine x_quo hg rfl rfl rfl rfl (by omega) ?_ | refine Lx.un hg rfl rfl rfl (fun _ => rfl) ?_ | refine x_pickF hg rfl rfl rfl rfl ?_); clear hg)))
    (refine ends_res2 Try.results51 (by first | exact item_tmp rfl | exact item_cellS rfl rfl rfl | exact item_cellO rfl rfl) (by first | exact item_tmp rfl | exact item_cellS rfl rfl rfl | exact item_cellO rfl rfl) ?_ ?_; (repeat (first | exact .nil | refine .cons ?_ ?_ | refine .o ?_ | refine .a ?_ | exact .c rfl | exact .r (by rfl) rfl | exact .nil _ _ rfl | (refine .c ?_; rotate_left) | (refine .r (by rfl) ?_; rotate_left) | (refine .nil _ _ ?_; rotate_left))); all_goals (try rfl))
theorem yS_savesOk (size room : Int) (l : List Frame) (E : Nat) (q : List Save) (hq : savesTo size room l E (l.length / E + 1) = q) (hok : savesOk size room l (E : Int) = true) : FnR Try.prog 51 [.o (.c (.int .i64 size)), .o (.c (.int .i64 room)), .o (.r kFrame 40 l), .o (.c (.int .i64 (E : Int)))] (.many [.o (.r (kSave 92) 60 q), .o (.c (.bool true))]) := by
  obtain ⟨⟨h1, h1'⟩, h2, h3, h4⟩ := savesOk_iff.1 hok
  rw [Int.toNat_natCast] at h4
  have hE := inB_iff.1 h3
  have eq1 : (l.length : Int) / (E : Int) + 1 = ((l.length / E + 1 : Nat) : Int) := by rw [Int.natCast_add, Int.natCast_ediv]; rfl
  have hdl : l.length / E ≤ l.length := Nat.div_le_self _ _
  have hdq : (l.length : Int) / (E : Int) ≤ 1000000000 := Int.le_trans (Int.ediv_le_self _ (Int.natCast_nonneg _)) (by omega)
  have hdz : 0 ≤ (l.length : Int) / (E : Int) := Int.ediv_nonneg (Int.natCast_nonneg _) (Int.natCast_nonneg _)
  have d1 : decide ((300 : Int) < (l.length : Int)) = false := by simp; omega
  have d2 : decide ((20 : Int) < (l.length : Int) / (E : Int) + 1) = false := by rw [eq1]; exact decide_eq_false (by omega)
  have hE0 : 0 < E := by omega
  have c2 := yS_size14 size room
  have c3 := yS_within (E : Int) 1 300
  rw [h1, h1'] at c2
  rw [h3] at c3
  refine fnR_of_ax Try.func51 rfl Try.ntmps51 rfl (fun w => ?_)
  (repeat (first | (with_reducible first | refine then_normal ?_ | refine ax_seq ?_ | refine ax_plain ?_ | refine ax_block ?_ | refine ax_skip ?_ | refine LX.nil ?_) | refine ax_condF rfl ?_ | (refine withG (by first | exact gon_none rfl | exact gon_some rfl rfl rfl) (fun hg => ?_); (first | refine x_call hg (by rfl) (c2) (by rfl) (by rfl) Try.func77 (by kernel_rfl) (by rfl) (by rfl) (by first | ((repeat (first | exact .nil | refine .cons ?_ ?_ | refine .o ?_ | refine .a ?_ | exact .c _ | exact .r rfl .ro | exact .r rfl (.row _) | exact .nil _ _)); done) | fail) (by rfl) ?_ | refine x_call hg (by rfl) (c3) (by rfl) (by rfl) Try.func30 (by kernel_rfl) (by rfl) (by rfl) (by first | ((repeat (first | exact .nil | refine .cons ?_ ?_ | refine .o ?_ | refine .a ?_ | exact .c _ | exact .r rfl .ro | exact .r rfl (.row _) | exact .nil _ _)); done) | fail) (by rfl) ?_ | (refine gate gCmp rfl ?_; refine x_binH hg rfl rfl rfl rfl (fun _ => rfl) (by assumption) ?_) | refine Lx.move hg rfl rfl rfl ?_ | refine Lx.assign hg rfl rfl rfl ?_ | (refine gate gBuiltin rfl ?_; refine x_len hg rfl rfl rfl rfl (by first | exact .ro | exact .row _) ?_) | refine x_add hg rfl rfl rfl rfl (by omega) ?_ | refine x_quo hg rfl rfl rfl rfl (by omega) ?_ | refine Lx.un hg rfl rfl rfl (fun _ => rfl) ?_ | refine x_pickF hg rfl rfl rfl rfl ?_ | refine x_buildSN hg rfl (by rfl) rfl rfl rfl ?_); clear hg)))
  refine ax_loop (γ := Nat) (fun j => St.of 61 [(0, .o (.c (.int .i64 size))), (1, .o (.c (.int .i64 room))), (2, .o (.i 1000)), (3, .o (.c (.int .i64 (E : Int)))), (10, .o (.i 2000)), (11, .o (.c (.int .i64 ((j * E : Nat) : Int))))] [(1000, .ro kFrame l), (2000, .row (kSave 92) 60 (savesTo size room l E j))]) (fun j => j ≤ l.length / E + 1) (fun j => l.length / E + 1 - j) 0 (ρ0 := renL [(2000, 36)]) (Nat.zero_le _) (Sub.of rfl ?_ ?_ rfl) rfl (fun j hj => ?_)
  · (repeat (first | exact trivial | refine ⟨⟨rfl, rfl⟩, ?_⟩ | (refine ⟨⟨?_, rfl⟩, ?_⟩; rotate_left)))
    all_goals exact eqI (by rw [Nat.zero_mul]; rfl)
  · (repeat (first | exact trivial | refine ⟨⟨rfl, rfl⟩, ?_⟩ | (refine ⟨⟨?_, rfl⟩, ?_⟩; rotate_left)))
  (repeat (first | (with_reducible first | refine then_normal ?_ | refine ax_seq ?_ | refine ax_plain ?_ | refine LX.nil ?_) | (refine withG (by first | exact gon_none rfl | exact gon_some rfl rfl rfl) (fun hg => ?_); (first | refine Lx.move hg rfl rfl rfl ?_ | (refine gate gBuiltin rfl ?_; refine x_len hg rfl rfl rfl rfl (by first | exact .ro | exact .row _) ?_) | refine Lx.bin hg rfl rfl rfl rfl (fun _ => rfl) ?_); clear hg)))
  refine ax_cond rfl (fun hlt => ?_) (fun hlt => ?_)
  · have hle : j * E ≤ l.length := by have := of_decide_eq_true hlt; omega
    have hjd : j ≤ l.length / E := (div_tell hE0).1 hle
    have cN := yS_new
    have eT : (l.drop 0).take (j * E - 0) = l.take (j * E) := rfl
    have cA := yS_addall newS size room ((l.drop 0).take (j * E - 0)) 0 (Nat.zero_le _)
    have hT : ((l.drop 0).take (j * E - 0)).length ≤ 300 := by rw [eT, List.length_take]; omega
    rw [new_all h1 h1' hT, new_add h1 h1' hT, show addsTo size room newS ((l.drop 0).take (j * E - 0)) = addsN size room l (j * E) from rfl] at cA
    have hs : savesTo size room l E (j + 1) = _ := savesTo_succ size room l E j
    have hal := addsN_len size room l (j * E)
    have hsl := savesTo_len size room l E j
    generalize addsN size room l (j * E) = t at cA hs hal
    dsimp only [newS] at cA
    (repeat (first | (with_reducible first | refine then_normal ?_ | refine out_normal ?_ | refine ax_seq ?_ | refine ax_plain ?_ | refine ax_drawn (by kernel_rfl) ?_ | refine ax_block ?_ | refine ax_skip ?_ | refine LX.nil ?_) | refine And.intro (by kernel_rfl) ?_ | (refine withG (by first | exact gon_none rfl | exact gon_some rfl rfl rfl) (fun hg => ?_); (first | refine x_call hg (by rfl) (cN) (by rfl) (by rfl) Try.func78 (by kernel_rfl) (by rfl) (by rfl) (by first | ((repeat (first | exact .nil | refine .cons ?_ ?_ | refine .o ?_ | refine .a ?_ | exact .c _ | exact .r rfl .ro | exact .r rfl (.row _) | exact .nil _ _)); done) | fail) (by rfl) ?_ | refine x_call hg (by rfl) (cA) (by rfl) (by rfl) Try.func53 (by kernel_rfl) (by rfl) (by rfl) (by first | ((repeat (first | exact .nil | refine .cons ?_ ?_ | refine .o ?_ | refine .a ?_ | exact .c _ | exact .r rfl .ro | exact .r rfl (.row _) | exact .nil _ _ | exact .s rfl .ro rfl (by first | assumption | omega | (simp only [List.length_append, List.length_take, List.length_drop, List.length_set, List.length_map, List.length_range, List.length_drop, List.length_replicate, Nat.zero_add]; omega)) rfl | exact .s rfl (.row _) rfl (by first | assumption | omega | (simp only [List.length_append, List.length_take, List.length_drop, List.length_set, List.length_map, List.length_range, List.length_drop, List.length_replicate, Nat.zero_add]; omega)) rfl)); done) | fail) (by rfl) ?_ | (refine gate gSlice rfl ?_; refine x_slice hg rfl rfl rfl (by rfl) (by rfl) rfl (by first | exact .ro | exact .row _) (by rfl) (by first | rfl | assumption | (show _ = _; omega)) (by first | rfl | assumption | (show _ = _; omega)) (by first | assumption | omega | (simp only [List.length_append, List.length_take, List.length_drop, List.length_set, List.length_map, List.length_range, List.length_drop, List.length_replicate, Nat.zero_add]; omega)) (by first | assumption | omega | (simp only [List.length_append, List.length_take, List.length_drop, List.length_set, List.length_map, List.length_range, List.length_drop, List.length_replicate, Nat.zero_add]; omega)) ?_) | refine Lx.move hg rfl rfl rfl ?_ | refine Lx.extract hg rfl rfl rfl rfl ?_ | refine Lx.assign hg rfl rfl rfl ?_ | refine x_loadA hg rfl rfl rfl rfl (by rfl) ?_ | refine x_add hg rfl rfl rfl rfl (by omega) ?_ | refine x_storeA hg rfl rfl rfl rfl rfl rfl (by rfl) (by rfl) ?_ | refine x_alloc hg rfl rfl rfl rfl ?_ | refine x_build hg rfl rfl rfl (by rfl) ?_ | refine x_buildSD hg rfl (by rfl) rfl rfl (by rfl) rfl rfl rfl ?_ | (refine gate gBuiltin rfl ?_; refine x_appendD hg rfl (by rfl) rfl rfl rfl (by rfl) rfl rfl (by first | omega | (simp only [List.length_append, List.length_take, List.length_drop, List.length_cons, List.length_nil, List.length_map]; omega)) rfl rfl ?_)); clear hg)))
    refine ⟨j + 1, renL [(2000, 59)], Nat.succ_le_succ hjd, by omega, Sub.of rfl ?_ ?_ rfl, rfl⟩
    · (repeat (first | exact trivial | refine ⟨⟨rfl, rfl⟩, ?_⟩ | (refine ⟨⟨?_, rfl⟩, ?_⟩; rotate_left)))
      exact eqI (by rw [Nat.succ_mul]; rfl)
    · (repeat (first | exact trivial | refine ⟨⟨rfl, rfl⟩, ?_⟩ | (refine ⟨⟨?_, rfl⟩, ?_⟩; rotate_left)))
      exact eqR hs.symm
  · have hgt : ¬ j * E ≤ l.length := by have := of_decide_eq_false hlt; omega
    obtain rfl : j = l.length / E + 1 := by
      have : ¬ j ≤ l.length / E := fun h => hgt ((div_tell hE0).2 h)
      omega
    rw [hq]
    (repeat (first | (with_reducible first | refine then_normal ?_ | refine then_exit ?_ | refine out_same ?_ | refine ax_seq ?_ | refine ax_plain ?_ | refine ax_exit ?_ | refine ax_ret ?_ | refine LX.nil ?_) | (refine withG (by first | exact gon_none rfl | exact gon_some rfl rfl rfl) (fun hg => ?_); (first | refine Lx.move hg rfl rfl rfl ?_ | refine Lx.assign hg rfl rfl rfl ?_); clear hg)))
    (refine ends_res2 Try.results51 (by first | exact item_tmp rfl | exact item_cellS rfl rfl rfl | exact item_cellO rfl rfl) (by first | exact item_tmp rfl | exact item_cellS rfl rfl rfl | exact item_cellO rfl rfl) ?_ ?_; (repeat (first | exact .nil | refine .cons ?_ ?_ | refine .o ?_ | refine .a ?_ | exact .c rfl | exact .r (by rfl) rfl | exact .nil _ _ rfl | (refine .c ?_; rotate_left) | (refine .r (by rfl) ?_; rotate_left) | (refine .nil _ _ ?_; rotate_left))); all_goals (try rfl))
theorem yS_saves (size room : Int) (l : List Frame) (e : Int) (hl : l.length ≤ 1000000000) : FnR Try.prog 51 [.o (.c (.int .i64 size)), .o (.c (.int .i64 room)), .o (.r kFrame 40 l), .o (.c (.int .i64 e))] (.many [.o (.r (kSave 92) 60 (savesL size room l e)), .o (.c (.bool (savesOk size room l e)))]) := by
  cases hok : savesOk size room l e
  · exact yS_savesBad size room l e _ _ rfl hok hl hok
  · have h3 := inB_iff.1 (savesOk_iff.1 hok).2.2.1
    obtain ⟨E, rfl⟩ := Int.eq_ofNat_of_zero_le (show 0 ≤ e by omega)
    exact yS_savesOk size room l E _ (saves_ok hok).symm hok
theorem yI_savesBad (size room : Int) (l : List Frame) (e : Int) (q : List Save) (c : Bool) (hq : savesL size room l e = q) (hc : savesOk size room l e = c) (hl : l.length ≤ 1000000000) (hno : savesOk size room l e = false) : FnR Try.prog 27 [.o (.c (.int .i64 size)), .o (.c (.int .i64 room)), .o (.r kFrame 40 l), .o (.c (.int .i64 e))] (.many [.o (.r (kSave 92) 60 q), .o (.c (.bool c))]) := by
  have cN := yI_new
  have c3 := yI_within e 1 300
  have cA := yI_addall newS size room l 0 (Nat.zero_le _)
  generalize hQ : addAllL newS size room l 0 = Q at cA
  cases h0 : addOk newS size room l 0
  · rw [h0] at cA
    dsimp only [newS] at cA
    have hb : savesOk size room l e = false := hno
    obtain ⟨rfl, rfl⟩ : [] = q ∧ false = c := ⟨by rw [← hq]; exact (saves_bad hb).symm, by rw [← hc, hb]⟩
    refine fnR_of_ax Try.func27 rfl Try.ntmps27 rfl (fun w => ?_)
    (repeat (first | (with_reducible first | refine then_normal ?_ | refine then_ret ?_ | refine ax_seq ?_ | refine ax_plain ?_ | refine ax_ret ?_ | refine LX.nil ?_) | refine ax_condT rfl ?_ | refine Lx.off (goff_some rfl rfl rfl rfl) rfl ?_ | (refine withG (by first | exact gon_none rfl | exact gon_some rfl rfl rfl) (fun hg => ?_); (first | refine x_call hg (by rfl) (cN) (by rfl) (by rfl) Try.func26 (by kernel_rfl) (by rfl) (by rfl) (by first | ((repeat (first | exact .nil | refine .cons ?_ ?_ | refine .o ?_ | refine .a ?_ | exact .c _ | exact .r rfl .ro | exact .r rfl (.row _) | exact .nil _ _)); done) | fail) (by rfl) ?_ | refine x_call hg (by rfl) (cA) (by rfl) (by rfl) Try.func25 (by kernel_rfl) (by rfl) (by rfl) (by first | ((repeat (first | exact .nil | refine .cons ?_ ?_ | refine .o ?_ | refine .a ?_ | exact .c _ | exact .r rfl .ro | exact .r rfl (.row _) | exact .nil _ _)); done) | fail) (by rfl) ?_ | refine Lx.move hg rfl rfl rfl ?_ | refine Lx.extract hg rfl rfl rfl rfl ?_ | refine Lx.assign hg rfl rfl rfl ?_ | refine Lx.un hg rfl rfl rfl (fun _ => rfl) ?_ | refine x_storeA hg rfl rfl rfl rfl rfl rfl (by rfl) (by rfl) ?_ | refine x_alloc hg rfl rfl rfl rfl ?_ | refine x_pickT hg rfl rfl rfl rfl ?_); clear hg)))
    (refine ends_res2 Try.results27 (by first | exact item_tmp rfl | exact item_cellS rfl rfl rfl | exact item_cellO rfl rfl) (by first | exact item_tmp rfl | exact item_cellS rfl rfl rfl | exact item_cellO rfl rfl) ?_ ?_; (repeat (first | exact .nil | refine .cons ?_ ?_ | refine .o ?_ | refine .a ?_ | exact .c rfl | exact .r (by rfl) rfl | exact .nil _ _ rfl | (refine .c ?_; rotate_left) | (refine .r (by rfl) ?_; rotate_left) | (refine .nil _ _ ?_; rotate_left))); all_goals (try rfl))
  obtain ⟨_, h1, h1', h2, _⟩ := addOk_iff.1 h0
  rw [h0] at cA
  dsimp only [newS] at cA
  cases h3 : inB e 1 300
  · rw [h3] at c3
    have hb : savesOk size room l e = false := hno
    obtain ⟨rfl, rfl⟩ : [] = q ∧ false = c := ⟨by rw [← hq]; exact (saves_bad hb).symm, by rw [← hc, hb]⟩
    refine fnR_of_ax Try.func27 rfl Try.ntmps27 rfl (fun w => ?_)
    (repeat (first | (with_reducible first | refine then_normal ?_ | refine then_ret ?_ | refine ax_seq ?_ | refine ax_plain ?_ | refine ax_ret ?_ | refine LX.nil ?_) | refine ax_condT rfl ?_ | refine Lx.off (goff_some rfl rfl rfl rfl) rfl ?_ | (refine withG (by first | exact gon_none rfl | exact gon_some rfl rfl rfl) (fun hg => ?_); (first | refine x_call hg (by rfl) (cN) (by rfl) (by rfl) Try.func26 (by kernel_rfl) (by rfl) (by rfl) (by first | ((repeat (first | exact .nil | refine .cons ?_ ?_ | refine .o ?_ | refine .a ?_ | exact .c _ | exact .r rfl .ro | exact .r rfl (.row _) | exact .nil _ _)); done) | fail) (by rfl) ?_ | refine x_call hg (by rfl) (cA) (by rfl) (by rfl) Try.func25 (by kernel_rfl) (by rfl) (by rfl) (by first | ((repeat (first | exact .nil | refine .cons ?_ ?_ | refine .o ?_ | refine .a ?_ | exact .c _ | exact .r rfl .ro | exact .r rfl (.row _) | exact .nil _ _)); done) | fail) (by rfl) ?_ | refine x_call hg (by rfl) (c3) (by rfl) (by rfl) Try.func58 (by kernel_rfl) (by rfl) (by rfl) (by first | ((repeat (first | exact .nil | refine .cons ?_ ?_ | refine .o ?_ | refine .a ?_ | exact .c _ | exact .r rfl .ro | exact .r rfl (.row _) | exact .nil _ _)); done) | fail) (by rfl) ?_ | refine Lx.move hg rfl rfl rfl ?_ | refine Lx.extract hg rfl rfl rfl rfl ?_ | refine Lx.assign hg rfl rfl rfl ?_ | refine Lx.un hg rfl rfl rfl (fun _ => rfl) ?_ | refine x_storeA hg rfl rfl rfl rfl rfl rfl (by rfl) (by rfl) ?_ | refine x_alloc hg rfl rfl rfl rfl ?_ | refine x_pickT hg rfl rfl rfl rfl ?_ | refine x_pickF hg rfl rfl rfl rfl ?_); clear hg)))
    (refine ends_res2 Try.results27 (by first | exact item_tmp rfl | exact item_cellS rfl rfl rfl | exact item_cellO rfl rfl) (by first | exact item_tmp rfl | exact item_cellS rfl rfl rfl | exact item_cellO rfl rfl) ?_ ?_; (repeat (first | exact .nil | refine .cons ?_ ?_ | refine .o ?_ | refine .a ?_ | exact .c rfl | exact .r (by rfl) rfl | exact .nil _ _ rfl | (refine .c ?_; rotate_left) | (refine .r (by rfl) ?_; rotate_left) | (refine .nil _ _ ?_; rotate_left))); all_goals (try rfl))
  rw [h3] at c3
  by_cases h4 : l.length / e.toNat + 1 ≤ 20
  · exfalso
    rw [savesOk_iff.2 ⟨⟨h1, h1'⟩, h2, h3, h4⟩] at hno
    cases hno
  · have hb : savesOk size room l e = false := hno
    obtain ⟨E, rfl⟩ := Int.eq_ofNat_of_zero_le (show 0 ≤ e by have := inB_iff.1 h3; omega)
    have hE := inB_iff.1 h3
    have eq1 : (l.length : Int) / (E : Int) + 1 = ((l.length / E + 1 : Nat) : Int) := by rw [Int.natCast_add, Int.natCast_ediv]; rfl
    have hdl : l.length / E ≤ l.length := Nat.div_le_self _ _
    have hdq : (l.length : Int) / (E : Int) ≤ 1000000000 := Int.le_trans (Int.ediv_le_self _ (Int.natCast_nonneg _)) (by omega)
    have hdz : 0 ≤ (l.length : Int) / (E : Int) := Int.ediv_nonneg (Int.natCast_nonneg _) (Int.natCast_nonneg _)
    rw [Int.toNat_natCast] at h4
    have d2 : decide ((20 : Int) < (l.length : Int) / (E : Int) + 1) = true := by rw [eq1]; exact decide_eq_true (by omega)
    obtain ⟨rfl, rfl⟩ : [] = q ∧ false = c := ⟨by rw [← hq]; exact (saves_bad hb).symm, by rw [← hc, hb]⟩
    refine fnR_of_ax Try.func27 rfl Try.ntmps27 rfl (fun w => ?_)
    (repeat (first | (with_reducible first | refine then_normal ?_ | refine then_ret ?_ | refine ax_seq ?_ | refine ax_plain ?_ | refine ax_ret ?_ | refine LX.nil ?_) | refine ax_condT rfl ?_ | (refine withG (by first | exact gon_none rfl | exact gon_some rfl rfl rfl) (fun hg => ?_); (first | refine x_call hg (by rfl) (cN) (by rfl) (by rfl) Try.func26 (by kernel_rfl) (by rfl) (by rfl) (by first | ((repeat (first | exact .nil | refine .cons ?_ ?_ | refine .o ?_ | refine .a ?_ | exact .c _ | exact .r rfl .ro | exact .r rfl (.row _) | exact .nil _ _)); done) | fail) (by rfl) ?_ | refine x_call hg (by rfl) (cA) (by rfl) (by rfl) Try.func25 (by kernel_rfl) (by rfl) (by rfl) (by first | ((repeat (first | exact .nil | refine .cons ?_ ?_ | refine .o ?_ | refine .a ?_ | exact .c _ | exact .r rfl .ro | exact .r rfl (.row _) | exact .nil _ _)); done) | fail) (by rfl) ?_ | refine x_call hg (by rfl) (c3) (by rfl) (by rfl) Try.func58 (by kernel_rfl) (by rfl) (by rfl) (by first | ((repeat (first | exact .nil | refine .cons ?_ ?_ | refine .o ?_ | refine .a ?_ | exact .c _ | exact .r rfl .ro | exact .r rfl (.row _) | exact .nil _ _)); done) | fail) (by rfl) ?_ | (refine gate gCmp rfl ?_; refine x_binH hg rfl rfl rfl rfl (fun _ => rfl) (by assumption) ?_) | refine Lx.move hg rfl rfl rfl ?_ | refine Lx.extract hg rfl rfl rfl rfl ?_ | refine Lx.assign hg rfl rfl rfl ?_ | (refine gate gBuiltin rfl ?_; refine x_len hg rfl rfl rfl rfl (by first | exact .ro | exact .row _) ?_) | refine x_add hg rfl rfl rfl rfl (by omega) ?_ | refine x_quo hg rfl rfl rfl rfl (by omega) ?_ | refine Lx.un hg rfl rfl rfl (fun _ => rfl) ?_ | refine x_storeA hg rfl rfl rfl rfl rfl rfl (by rfl) (by rfl) ?_ | refine x_alloc hg rfl rfl rfl rfl ?_ | refine x_pickF hg rfl rfl rfl rfl ?_); clear hg)))
    (refine ends_res2 Try.results27 (by first | exact item_tmp rfl | exact item_cellS rfl rfl rfl | exact item_cellO rfl rfl) (by first | exact item_tmp rfl | exact item_cellS rfl rfl rfl | exact item_cellO rfl rfl) ?_ ?_; (repeat (first | exact .nil | refine .cons ?_ ?_ | refine .o ?_ | refine .a ?_ | exact .c rfl | exact .r (by rfl) rfl | exact .nil _ _ rfl | (refine .c ?_; rotate_left) | (refine .r (by rfl) ?_; rotate_left) | (refine .nil _ _ ?_; rotate_left))); all_goals (try rfl))
theorem mod_hit {k E : Nat} (hE : 0 < E) (h : (k + 1) % E = 0) : (k + 1) / E = k / E + 1 ∧ (k / E + 1) * E = k + 1 := by
  have h1 := Nat.div_add_mod (k + 1) E
  have h2 := Nat.div_add_mod k E
  have h3 := Nat.mod_lt k hE
  have e1 : (k + 1) / E = k / E + 1 := by
    have h4 := Nat.succ_div (a := k) (b := E)
    rw [h4, if_pos (Nat.dvd_of_mod_eq_zero h)]
  refine ⟨e1, ?_⟩
  rw [← e1, Nat.mul_comm]
  omega
theorem mod_miss {k E : Nat} (h : ¬ (k + 1) % E = 0) : (k + 1) / E = k / E := by
  have h4 := Nat.succ_div (a := k) (b := E)
  rw [h4, if_neg (fun hd => h (Nat.mod_eq_zero_of_dvd hd))]
  rfl
theorem yI_savesOk (size room : Int) (l : List Frame) (E : Nat) (q : List Save) (hq : savesTo size room l E (l.length / E + 1) = q) (hok : savesOk size room l (E : Int) = true) : FnR Try.prog 27 [.o (.c (.int .i64 size)), .o (.c (.int .i64 room)), .o (.r kFrame 40 l), .o (.c (.int .i64 (E : Int)))] (.many [.o (.r (kSave 92) 60 q), .o (.c (.bool true))]) := by
  obtain ⟨⟨h1, h1'⟩, h2, h3, h4⟩ := savesOk_iff.1 hok
  rw [Int.toNat_natCast] at h4
  have hE := inB_iff.1 h3
  have eq1 : (l.length : Int) / (E : Int) + 1 = ((l.length / E + 1 : Nat) : Int) := by rw [Int.natCast_add, Int.natCast_ediv]; rfl
  have hdl : l.length / E ≤ l.length := Nat.div_le_self _ _
  have hdq : (l.length : Int) / (E : Int) ≤ 1000000000 := Int.le_trans (Int.ediv_le_self _ (Int.natCast_nonneg _)) (by omega)
  have hdz : 0 ≤ (l.length : Int) / (E : Int) := Int.ediv_nonneg (Int.natCast_nonneg _) (Int.natCast_nonneg _)
  have d1 : decide ((300 : Int) < (l.length : Int)) = false := by simp; omega
  have d2 : decide ((20 : Int) < (l.length : Int) / (E : Int) + 1) = false := by rw [eq1]; exact decide_eq_false (by omega)
  have hE0 : 0 < E := by omega
  have c3 := yI_within (E : Int) 1 300
  rw [h3] at c3
  have cN := yI_new
  have cA := yI_addall newS size room l 0 (Nat.zero_le _)
  generalize hQ : addAllL newS size room l 0 = Q at cA
  rw [new_add h1 h1' h2] at cA
  dsimp only [newS] at cA
  refine fnR_of_ax Try.func27 rfl Try.ntmps27 rfl (fun w => ?_)
  (repeat (first | (with_reducible first | refine then_normal ?_ | refine ax_seq ?_ | refine ax_plain ?_ | refine ax_block ?_ | refine ax_skip ?_ | refine LX.nil ?_) | refine ax_condF rfl ?_ | (refine withG (by first | exact gon_none rfl | exact gon_some rfl rfl rfl) (fun hg => ?_); (first | refine x_call hg (by rfl) (cN) (by rfl) (by rfl) Try.func26 (by kernel_rfl) (by rfl) (by rfl) (by first | ((repeat (first | exact .nil | refine .cons ?_ ?_ | refine .o ?_ | refine .a ?_ | exact .c _ | exact .r rfl .ro | exact .r rfl (.row _) | exact .nil _ _)); done) | fail) (by rfl) ?_ | refine x_call hg (by rfl) (cA) (by rfl) (by rfl) Try.func25 (by kernel_rfl) (by rfl) (by rfl) (by first | ((repeat (first | exact .nil | refine .cons ?_ ?_ | refine .o ?_ | refine .a ?_ | exact .c _ | exact .r rfl .ro | exact .r rfl (.row _) | exact .nil _ _)); done) | fail) (by rfl) ?_ | refine x_call hg (by rfl) (c3) (by rfl) (by rfl) Try.func58 (by kernel_rfl) (by rfl) (by rfl) (by first | ((repeat (first | exact .nil | refine .cons ?_ ?_ | refine .o ?_ | refine .a ?_ | exact .c _ | exact .r rfl .ro | exact .r rfl (.row _) | exact .nil _ _)); done) | fail) (by rfl) ?_ | refine x_buildSDz hg rfl (by rfl) rfl rfl (by rfl) rfl rfl ?_ | (refine gate gCmp rfl ?_; refine x_binH hg rfl rfl rfl rfl (fun _ => rfl) (by assumption) ?_) | refine Lx.move hg rfl rfl rfl ?_ | refine Lx.extract hg rfl rfl rfl rfl ?_ | refine Lx.assign hg rfl rfl rfl ?_ | (refine gate gBuiltin rfl ?_; refine x_len hg rfl rfl rfl rfl (by first | exact .ro | exact .row _) ?_) | refine x_loadA hg rfl rfl rfl rfl (by rfl) ?_ | refine x_add hg rfl rfl rfl rfl (by omega) ?_ | refine x_quo hg rfl rfl rfl rfl (by omega) ?_ | refine Lx.un hg rfl rfl rfl (fun _ => rfl) ?_ | refine x_storeA hg rfl rfl rfl rfl rfl rfl (by rfl) (by rfl) ?_ | refine x_alloc hg rfl rfl rfl rfl ?_ | refine x_build hg rfl rfl rfl (by rfl) ?_ | refine x_pickF hg rfl rfl rfl rfl ?_); clear hg)))
  have hs0 : savesTo size room l E (0 / E + 1) = [⟨0, [], -1, 0, 0⟩] := by
    rw [Nat.zero_div]
    show [svOf (0 * E) (addsN size room l (0 * E))] = _
    rw [Nat.zero_mul]
    rfl
  refine ax_nilrow (d := kAgg) (e := 92) 2001 12 0 rfl rfl rfl ?_
  refine ax_loop (γ := Nat) (fun k => St.of 70 [(0, .o (.c (.int .i64 size))), (1, .o (.c (.int .i64 room))), (3, .o (.c (.int .i64 (E : Int)))), (12, .o (.p 12 0)), (13, .o (.i 2000)), (43, .o (.i 1000)), (44, .o (.c (.int .i64 (l.length : Int)))), (45, .o (.c (.int .i64 (k : Int))))] [(1000, .ro kFrame l), (12, .box 49 [.i 2001, .c (.int .i64 (addsN size room l k).mark), .c (.int .i64 (addsN size room l k).late), .c (.int .i64 (addsN size room l k).over)]), (2001, .row kAgg 92 (addsN size room l k).aggs), (2000, .row (kSave 92) 60 (savesTo size room l E (k / E + 1)))]) (fun k => k ≤ l.length) (fun k => l.length - k) 0 (ρ0 := renL [(2000, 42)]) (Nat.zero_le _) (Sub.of rfl ?_ ?_ rfl) rfl (fun k hk => ?_)
  · (repeat (first | exact trivial | refine ⟨⟨rfl, rfl⟩, ?_⟩ | (refine ⟨⟨?_, rfl⟩, ?_⟩; rotate_left)))
  · (repeat (first | exact trivial | refine ⟨⟨rfl, rfl⟩, ?_⟩ | (refine ⟨⟨?_, rfl⟩, ?_⟩; rotate_left)))
    all_goals first | rfl | exact eqR hs0.symm
  (repeat (first | (with_reducible first | refine then_normal ?_ | refine ax_seq ?_ | refine ax_plain ?_ | refine LX.nil ?_) | (refine withG (by first | exact gon_none rfl | exact gon_some rfl rfl rfl) (fun hg => ?_); (first | refine Lx.bin hg rfl rfl rfl rfl (fun _ => rfl) ?_); clear hg)))
  refine ax_cond rfl (fun hlt => ?_) (fun hlt => ?_)
  · have hlt' : k < l.length := by simpa using hlt
    obtain ⟨f, hf⟩ := elt hlt'
    have hs := addsN_succ (size := size) (room := room) hf
    have hal := addsN_len size room l k
    have hal2 := addsN_len size room l (k + 1)
    have cF := yI_added (addsN size room l k) size room f (by omega)
    rw [← hs] at cF
    generalize addsN size room l k = t at cF
    have hkd : k / E ≤ l.length / E := Nat.div_le_div_right (by omega)
    have hsl := savesTo_len size room l E (k / E + 1)
    by_cases hm : (k + 1) % E = 0
    · obtain ⟨m1, m2⟩ := mod_hit hE0 hm
      have d3 : (((k : Int) + 1) % (E : Int) == 0) = true := by
        rw [show ((k : Int) + 1) % (E : Int) = (((k + 1) % E : Nat) : Int) from rfl, hm]; rfl
      have hss := savesTo_succ size room l E (k / E + 1)
      rw [m2] at hss
      have cW := yI_ownShard (addsN size room l (k + 1)).aggs (addsN size room l (k + 1)).mark (addsN size room l (k + 1)).late (addsN size room l (k + 1)).over (by omega)
      (repeat (first | (with_reducible first | refine then_normal ?_ | refine out_normal ?_ | refine ax_seq ?_ | refine ax_plain ?_ | refine ax_block ?_ | refine ax_skip ?_ | refine LX.nil ?_) | refine ax_condT rfl ?_ | (refine withG (by first | exact gon_none rfl | exact gon_some rfl rfl rfl) (fun hg => ?_); (first | refine x_call hg (by rfl) (cF) (by rfl) (by rfl) Try.func59 (by kernel_rfl) (by rfl) (by rfl) (by first | ((repeat (first | exact .nil | refine .cons ?_ ?_ | refine .o ?_ | refine .a ?_ | exact .c _ | exact .r rfl .ro | exact .r rfl (.row _) | exact .nil _ _)); done) | fail) (by rfl) ?_ | refine x_call hg (by rfl) (cW) (by rfl) (by rfl) Try.func55 (by kernel_rfl) (by rfl) (by rfl) (by first | ((repeat (first | exact .nil | refine .cons ?_ ?_ | refine .o ?_ | refine .a ?_ | exact .c _ | exact .r rfl .ro | exact .r rfl (.row _) | exact .nil _ _)); done) | fail) (by rfl) ?_ | (refine gate gCmp rfl ?_; refine x_binH hg rfl rfl rfl rfl (fun _ => rfl) (by assumption) ?_) | refine Lx.move hg rfl rfl rfl ?_ | refine Lx.assign hg rfl rfl rfl ?_ | (refine gate gIndex rfl ?_; refine x_index hg rfl rfl rfl rfl rfl (by first | exact .ro | exact .row _) (by rfl) (by first | rfl | assumption) (by first | assumption | omega | (simp only [List.length_set]; first | assumption | omega)) ?_) | (refine gate gLoad rfl ?_; refine x_loadE hg rfl rfl rfl rfl (by first | exact .ro | exact .row _) (by first | assumption | exact set_get (by first | assumption | omega | (simp only [List.length_set]; first | assumption | omega))) (by rfl) ?_) | refine x_loadA hg rfl rfl rfl rfl (by rfl) ?_ | refine x_add hg rfl rfl rfl rfl (by omega) ?_ | refine x_rem hg rfl rfl rfl rfl (by omega) ?_ | refine x_storeA hg rfl rfl rfl rfl rfl rfl (by rfl) (by rfl) ?_ | refine x_alloc hg rfl rfl rfl rfl ?_ | refine x_build hg rfl rfl rfl (by rfl) ?_ | refine x_buildSD hg rfl (by rfl) rfl rfl (by rfl) rfl rfl rfl ?_ | (refine gate gBuiltin rfl ?_; refine x_appendD hg rfl (by rfl) rfl rfl rfl (by rfl) rfl rfl (by first | omega | (simp only [List.length_append, List.length_take, List.length_drop, List.length_cons, List.length_nil, List.length_map]; omega)) rfl rfl ?_)); clear hg)))
      refine ⟨k + 1, renL [(2000, 67), (2001, 100540)], hlt', by omega, Sub.of rfl ?_ ?_ rfl, rfl⟩
      · (repeat (first | exact trivial | refine ⟨⟨rfl, rfl⟩, ?_⟩ | (refine ⟨⟨?_, rfl⟩, ?_⟩; rotate_left)))
      · (repeat (first | exact trivial | refine ⟨⟨rfl, rfl⟩, ?_⟩ | (refine ⟨⟨?_, rfl⟩, ?_⟩; rotate_left)))
        all_goals first | done | exact eqR (by rw [m1, hss]; rfl)
    · have d3 : (((k : Int) + 1) % (E : Int) == 0) = false := by
        rw [show ((k : Int) + 1) % (E : Int) = (((k + 1) % E : Nat) : Int) from rfl]
        simp only [beq_eq_false_iff_ne, ne_eq]
        omega
      (repeat (first | (with_reducible first | refine then_normal ?_ | refine out_normal ?_ | refine ax_seq ?_ | refine ax_plain ?_ | refine ax_block ?_ | refine ax_skip ?_ | refine LX.nil ?_) | refine ax_condF rfl ?_ | (refine withG (by first | exact gon_none rfl | exact gon_some rfl rfl rfl) (fun hg => ?_); (first | refine x_call hg (by rfl) (cF) (by rfl) (by rfl) Try.func59 (by kernel_rfl) (by rfl) (by rfl) (by first | ((repeat (first | exact .nil | refine .cons ?_ ?_ | refine .o ?_ | refine .a ?_ | exact .c _ | exact .r rfl .ro | exact .r rfl (.row _) | exact .nil _ _)); done) | fail) (by rfl) ?_ | (refine gate gCmp rfl ?_; refine x_binH hg rfl rfl rfl rfl (fun _ => rfl) (by assumption) ?_) | refine Lx.move hg rfl rfl rfl ?_ | refine Lx.assign hg rfl rfl rfl ?_ | (refine gate gIndex rfl ?_; refine x_index hg rfl rfl rfl rfl rfl (by first | exact .ro | exact .row _) (by rfl) (by first | rfl | assumption) (by first | assumption | omega | (simp only [List.length_set]; first | assumption | omega)) ?_) | (refine gate gLoad rfl ?_; refine x_loadE hg rfl rfl rfl rfl (by first | exact .ro | exact .row _) (by first | assumption | exact set_get (by first | assumption | omega | (simp only [List.length_set]; first | assumption | omega))) (by rfl) ?_) | refine x_loadA hg rfl rfl rfl rfl (by rfl) ?_ | refine x_add hg rfl rfl rfl rfl (by omega) ?_ | refine x_rem hg rfl rfl rfl rfl (by omega) ?_ | refine x_storeA hg rfl rfl rfl rfl rfl rfl (by rfl) (by rfl) ?_ | refine x_alloc hg rfl rfl rfl rfl ?_); clear hg)))
      refine ⟨k + 1, renL [(2001, 100540)], hlt', by omega, Sub.of rfl ?_ ?_ rfl, rfl⟩
      · (repeat (first | exact trivial | refine ⟨⟨rfl, rfl⟩, ?_⟩ | (refine ⟨⟨?_, rfl⟩, ?_⟩; rotate_left)))
      · (repeat (first | exact trivial | refine ⟨⟨rfl, rfl⟩, ?_⟩ | (refine ⟨⟨?_, rfl⟩, ?_⟩; rotate_left)))
        all_goals first | done | exact eqR (by rw [mod_miss hm])
  · obtain rfl : k = l.length := by
      have : ¬ k < l.length := by simpa using hlt
      omega
    rw [hq]
    (repeat (first | (with_reducible first | refine then_normal ?_ | refine then_exit ?_ | refine out_same ?_ | refine ax_seq ?_ | refine ax_plain ?_ | refine ax_exit ?_ | refine ax_ret ?_ | refine LX.nil ?_) | (refine withG (by first | exact gon_none rfl | exact gon_some rfl rfl rfl) (fun hg => ?_); (first | refine Lx.move hg rfl rfl rfl ?_ | refine Lx.assign hg rfl rfl rfl ?_); clear hg)))
    (refine ends_res2 Try.results27 (by first | exact item_tmp rfl | exact item_cellS rfl rfl rfl | exact item_cellO rfl rfl) (by first | exact item_tmp rfl | exact item_cellS rfl rfl rfl | exact item_cellO rfl rfl) ?_ ?_; (repeat (first | exact .nil | refine .cons ?_ ?_ | refine .o ?_ | refine .a ?_ | exact .c rfl | exact .r (by rfl) rfl | exact .nil _ _ rfl | (refine .c ?_; rotate_left) | (refine .r (by rfl) ?_; rotate_left) | (refine .nil _ _ ?_; rotate_left))); all_goals (try rfl))
theorem yI_saves (size room : Int) (l : List Frame) (e : Int) (hl : l.length ≤ 1000000000) : FnR Try.prog 27 [.o (.c (.int .i64 size)), .o (.c (.int .i64 room)), .o (.r kFrame 40 l), .o (.c (.int .i64 e))] (.many [.o (.r (kSave 92) 60 (savesL size room l e)), .o (.c (.bool (savesOk size room l e)))]) := by
  cases hok : savesOk size room l e
  · exact yI_savesBad size room l e _ _ rfl hok hl hok
  · have h3 := inB_iff.1 (savesOk_iff.1 hok).2.2.1
    obtain ⟨E, rfl⟩ := Int.eq_ofNat_of_zero_le (show 0 ≤ e by omega)
    exact yI_savesOk size room l E _ (saves_ok hok).symm hok
end Go.Proofs.Ytmllbjonjpbbkaa.C

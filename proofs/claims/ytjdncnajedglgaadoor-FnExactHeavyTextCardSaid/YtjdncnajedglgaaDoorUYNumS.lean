import Derived.Test.YtjdncnajedglgaaDoorUp
import Derived.Test.YtjdncnajedglgaaDoorUText
import Derived.Test.YtjdncnajedglgaaDoorPTy
import Derived.Test.YtjdncnajedglgaaDoorUAxh
namespace Go.Proofs.YtjdncnajedglgaaDoor.C
open Go.RowKit Go.Proofs.YtjdncnajedglgaaDoorW Go.Proofs.YtjdncnajedglgaaDoorW.PrintWords Go.Proofs.YtjdncnajedglgaaDoor.U
set_option maxHeartbeats 1000000
set_option maxRecDepth 100000
set_option linter.unusedVariables false
set_option linter.unusedSimpArgs false
set_option maxHeartbeats 4000000 in
theorem yS_num (n : Int) (hn : -9223372036854775808 ≤ n ∧ n ≤ 9223372036854775807) : FnR Tryd.prog 17 [.o (.c (.int .i64 n))] (.one (.o (.c (.string (strL (numT n)))))) := by
  by_cases h0 : n = 0
  · subst h0
    have e : numT 0 = [48] := by decide +kernel
    rw [e]
    refine fnR_of_ax Tryd.func17 rfl Tryd.ntmps17 rfl (fun w => ?_)
    (repeat (first | (with_reducible first | refine then_normal ?_ | refine then_exit ?_ | refine then_ret ?_ | refine out_same ?_ | refine out_other rfl ?_ | refine out_ret ?_ | refine out_normal ?_ | refine ax_seq ?_ | refine ax_plain ?_ | refine ax_drawn (by kernel_rfl) ?_ | refine ax_block ?_ | refine ax_skip ?_ | refine ax_exit ?_ | refine ax_ret ?_ | refine LX.nil ?_) | refine And.intro (by kernel_rfl) ?_ | refine ax_condT rfl ?_ | refine ax_condF rfl ?_ | refine ax_condHT rfl (by assumption) ?_ | refine ax_condHF rfl (by assumption) ?_ | (refine withG (by first | exact gon_none rfl | exact gon_some rfl rfl rfl) (fun hg => ?_); (first | (refine gate gCmp rfl ?_; refine x_binH hg rfl rfl rfl rfl (fun _ => rfl) (by assumption) ?_) | refine Lx.move hg rfl rfl rfl ?_ | refine Lx.assign hg rfl rfl rfl ?_ | refine x_add hg rfl rfl rfl rfl (by omega) ?_ | refine x_quo hg rfl rfl rfl rfl (by omega) ?_ | refine x_rem hg rfl rfl rfl rfl (by omega) ?_ | refine Lx.bin hg rfl rfl rfl rfl (fun _ => rfl) ?_ | refine Lx.un hg rfl rfl rfl (fun _ => rfl) ?_ | refine x_conv hg rfl rfl rfl ?_ | refine x_buildS hg rfl (by rfl) rfl rfl (by rfl) (by rfl) (by rfl) rfl rfl ?_); clear hg)))
    (refine ends_res1 Tryd.results17 (by first | exact item_tmp rfl | exact item_cellS rfl rfl rfl | exact item_cellO rfl rfl) ?_ ?_; (repeat (first | exact .nil | refine .cons ?_ ?_ | refine .o ?_ | refine .a ?_ | exact .c rfl | exact .r (by rfl) rfl | exact .nil _ _ rfl | (refine .c ?_; rotate_left) | (refine .r (by rfl) ?_; rotate_left) | (refine .nil _ _ ?_; rotate_left))); all_goals (try rfl))
  have d0 : (n == 0) = false := by simp [h0]
  by_cases hneg : 0 ≤ n
  · obtain ⟨m, rfl⟩ := Int.eq_ofNat_of_zero_le hneg
    have d1 : decide ((m : Int) < 0) = false := decide_eq_false (by omega)
    have e : numT (m : Int) = zdig m ++ [] := by
      rw [List.append_nil, zdig_pos (by omega), numT, Lib.itoa, if_neg (by omega), Int.toNat_natCast]
    rw [e]
    refine fnR_of_ax Tryd.func17 rfl Tryd.ntmps17 rfl (fun w => ?_)
    (repeat (first | (with_reducible first | refine then_normal ?_ | refine then_exit ?_ | refine then_ret ?_ | refine out_same ?_ | refine out_other rfl ?_ | refine out_ret ?_ | refine out_normal ?_ | refine ax_seq ?_ | refine ax_plain ?_ | refine ax_drawn (by kernel_rfl) ?_ | refine ax_block ?_ | refine ax_skip ?_ | refine ax_exit ?_ | refine ax_ret ?_ | refine LX.nil ?_) | refine And.intro (by kernel_rfl) ?_ | refine ax_condT rfl ?_ | refine ax_condF rfl ?_ | refine ax_condHT rfl (by assumption) ?_ | refine ax_condHF rfl (by assumption) ?_ | (refine withG (by first | exact gon_none rfl | exact gon_some rfl rfl rfl) (fun hg => ?_); (first | (refine gate gCmp rfl ?_; refine x_binH hg rfl rfl rfl rfl (fun _ => rfl) (by assumption) ?_) | refine Lx.move hg rfl rfl rfl ?_ | refine Lx.assign hg rfl rfl rfl ?_ | refine x_add hg rfl rfl rfl rfl (by omega) ?_ | refine x_quo hg rfl rfl rfl rfl (by omega) ?_ | refine x_rem hg rfl rfl rfl rfl (by omega) ?_ | refine Lx.bin hg rfl rfl rfl rfl (fun _ => rfl) ?_ | refine Lx.un hg rfl rfl rfl (fun _ => rfl) ?_ | refine x_conv hg rfl rfl rfl ?_ | refine x_buildS hg rfl (by rfl) rfl rfl (by rfl) (by rfl) (by rfl) rfl rfl ?_); clear hg)))
    refine ax_loop (γ := Nat × List UInt8) (fun g => St.of 31 [(0, .o (.c (.int .i64 (g.1 : Int)))), (3, .o (.c (.string (strL g.2)))), (4, .o (.c (.bool false)))] []) (fun g => g.1 ≤ m ∧ zdig m ++ [] = zdig g.1 ++ g.2 ∧ g.2.length ≤ 20) (fun g => g.1) (m, []) (ρ0 := renL []) ⟨Nat.le_refl _, rfl, Nat.zero_le _⟩ (Sub.of rfl ?_ ?_ rfl) rfl (fun g hg => ?_)
    · (repeat (first | exact trivial | refine ⟨⟨rfl, rfl⟩, ?_⟩ | (refine ⟨⟨?_, rfl⟩, ?_⟩; rotate_left)))
    · (repeat (first | exact trivial | refine ⟨⟨rfl, rfl⟩, ?_⟩ | (refine ⟨⟨?_, rfl⟩, ?_⟩; rotate_left)))
    obtain ⟨u, acc⟩ := g
    obtain ⟨hu, hacc, hal⟩ := hg
    dsimp only at hu hacc hal ⊢
    by_cases hz : u = 0
    · subst hz
      have d2 : (((0 : Nat) : Int) != 0) = false := by simp
      rw [hacc]
      (repeat (first | (with_reducible first | refine then_normal ?_ | refine then_exit ?_ | refine then_ret ?_ | refine out_same ?_ | refine out_other rfl ?_ | refine out_ret ?_ | refine out_normal ?_ | refine ax_seq ?_ | refine ax_plain ?_ | refine ax_drawn (by kernel_rfl) ?_ | refine ax_block ?_ | refine ax_skip ?_ | refine ax_exit ?_ | refine ax_ret ?_ | refine LX.nil ?_) | refine And.intro (by kernel_rfl) ?_ | refine ax_condT rfl ?_ | refine ax_condF rfl ?_ | refine ax_condHT rfl (by assumption) ?_ | refine ax_condHF rfl (by assumption) ?_ | (refine withG (by first | exact gon_none rfl | exact gon_some rfl rfl rfl) (fun hg => ?_); (first | (refine gate gCmp rfl ?_; refine x_binH hg rfl rfl rfl rfl (fun _ => rfl) (by assumption) ?_) | refine Lx.move hg rfl rfl rfl ?_ | refine Lx.assign hg rfl rfl rfl ?_ | refine x_add hg rfl rfl rfl rfl (by omega) ?_ | refine x_quo hg rfl rfl rfl rfl (by omega) ?_ | refine x_rem hg rfl rfl rfl rfl (by omega) ?_ | refine Lx.bin hg rfl rfl rfl rfl (fun _ => rfl) ?_ | refine Lx.un hg rfl rfl rfl (fun _ => rfl) ?_ | refine x_conv hg rfl rfl rfl ?_ | refine x_buildS hg rfl (by rfl) rfl rfl (by rfl) (by rfl) (by rfl) rfl rfl ?_); clear hg)))
      (refine ends_res1 Tryd.results17 (by first | exact item_tmp rfl | exact item_cellS rfl rfl rfl | exact item_cellO rfl rfl) ?_ ?_; (repeat (first | exact .nil | refine .cons ?_ ?_ | refine .o ?_ | refine .a ?_ | exact .c rfl | exact .r (by rfl) rfl | exact .nil _ _ rfl | (refine .c ?_; rotate_left) | (refine .r (by rfl) ?_; rotate_left) | (refine .nil _ _ ?_; rotate_left))); all_goals (try rfl))
    · have d2 : ((u : Int) != 0) = true := by simp [hz]
      have d3 : decide ((u : Int) % 10 < 0) = false := decide_eq_false (by omega)
      have hx : (IntKind.u8.wrap (48 + (u : Int) % 10)).toNat = 48 + u % 10 := by rw [u8_small (by omega)]; omega
      (repeat (first | (with_reducible first | refine then_normal ?_ | refine then_exit ?_ | refine then_ret ?_ | refine out_same ?_ | refine out_other rfl ?_ | refine out_ret ?_ | refine out_normal ?_ | refine ax_seq ?_ | refine ax_plain ?_ | refine ax_drawn (by kernel_rfl) ?_ | refine ax_block ?_ | refine ax_skip ?_ | refine ax_exit ?_ | refine ax_ret ?_ | refine LX.nil ?_) | refine And.intro (by kernel_rfl) ?_ | refine ax_condT rfl ?_ | refine ax_condF rfl ?_ | refine ax_condHT rfl (by assumption) ?_ | refine ax_condHF rfl (by assumption) ?_ | (refine withG (by first | exact gon_none rfl | exact gon_some rfl rfl rfl) (fun hg => ?_); (first | refine x_convBS hg rfl rfl Tryd.underlying53 Tryd.underlying5 Tryd.underlying9 rfl rfl (by first | exact .ro | exact .row _) (by simp) ?_ | refine x_cat hg rfl rfl rfl rfl (by simp only [strOfNums_size, strL_size, List.length_cons, List.length_nil]; first | omega | (show _ ≤ _; simp [ByteArray.size]; omega)) ?_ | (refine gate gCmp rfl ?_; refine x_binH hg rfl rfl rfl rfl (fun _ => rfl) (by assumption) ?_) | refine Lx.move hg rfl rfl rfl ?_ | refine Lx.assign hg rfl rfl rfl ?_ | refine x_add hg rfl rfl rfl rfl (by omega) ?_ | refine x_quo hg rfl rfl rfl rfl (by omega) ?_ | refine x_rem hg rfl rfl rfl rfl (by omega) ?_ | refine Lx.bin hg rfl rfl rfl rfl (fun _ => rfl) ?_ | refine Lx.un hg rfl rfl rfl (fun _ => rfl) ?_ | refine x_conv hg rfl rfl rfl ?_ | refine x_buildS hg rfl (by rfl) rfl rfl (by rfl) (by rfl) (by rfl) rfl rfl ?_); clear hg)))
      refine ⟨(u / 10, UInt8.ofNat (48 + u % 10) :: acc), renL [], ⟨by show u / 10 ≤ m; omega, ?_, ?_⟩, by show u / 10 < u; omega, Sub.of rfl ?_ ?_ rfl, rfl⟩
      · show zdig m ++ [] = zdig (u / 10) ++ (UInt8.ofNat (48 + u % 10) :: acc)
        rw [hacc, zdig_step (by omega), List.append_assoc]
        rfl
      · show acc.length + 1 ≤ 20
        have h1 := zdig_len (u := m) (by omega)
        have h2 := congrArg List.length hacc
        rw [zdig_step (u := u) (by omega)] at h2
        simp only [List.length_append, List.length_cons, List.length_nil] at h2
        omega
      · (repeat (first | exact trivial | refine ⟨⟨rfl, rfl⟩, ?_⟩ | (refine ⟨⟨?_, rfl⟩, ?_⟩; rotate_left)))
        all_goals first | done | exact eqS (one_app _ u hx acc) | exact eqI rfl | exact eqI (by omega)
      · (repeat (first | exact trivial | refine ⟨⟨rfl, rfl⟩, ?_⟩ | (refine ⟨⟨?_, rfl⟩, ?_⟩; rotate_left)))
  · obtain ⟨m, hm⟩ := Int.eq_ofNat_of_zero_le (show 0 ≤ -n by omega)
    obtain rfl : n = -(m : Int) := by omega
    have d1 : decide (-(m : Int) < 0) = true := decide_eq_true (by omega)
    have e : numT (-(m : Int)) = 45 :: (zdig m ++ []) := by
      rw [List.append_nil, zdig_pos (by omega), numT, Lib.itoa, if_pos (by omega), Int.natAbs_neg, Int.natAbs_natCast]
    rw [e]
    refine fnR_of_ax Tryd.func17 rfl Tryd.ntmps17 rfl (fun w => ?_)
    (repeat (first | (with_reducible first | refine then_normal ?_ | refine then_exit ?_ | refine then_ret ?_ | refine out_same ?_ | refine out_other rfl ?_ | refine out_ret ?_ | refine out_normal ?_ | refine ax_seq ?_ | refine ax_plain ?_ | refine ax_drawn (by kernel_rfl) ?_ | refine ax_block ?_ | refine ax_skip ?_ | refine ax_exit ?_ | refine ax_ret ?_ | refine LX.nil ?_) | refine And.intro (by kernel_rfl) ?_ | refine ax_condT rfl ?_ | refine ax_condF rfl ?_ | refine ax_condHT rfl (by assumption) ?_ | refine ax_condHF rfl (by assumption) ?_ | (refine withG (by first | exact gon_none rfl | exact gon_some rfl rfl rfl) (fun hg => ?_); (first | (refine gate gCmp rfl ?_; refine x_binH hg rfl rfl rfl rfl (fun _ => rfl) (by assumption) ?_) | refine Lx.move hg rfl rfl rfl ?_ | refine Lx.assign hg rfl rfl rfl ?_ | refine x_add hg rfl rfl rfl rfl (by omega) ?_ | refine x_quo hg rfl rfl rfl rfl (by omega) ?_ | refine x_rem hg rfl rfl rfl rfl (by omega) ?_ | refine Lx.bin hg rfl rfl rfl rfl (fun _ => rfl) ?_ | refine Lx.un hg rfl rfl rfl (fun _ => rfl) ?_ | refine x_conv hg rfl rfl rfl ?_ | refine x_buildS hg rfl (by rfl) rfl rfl (by rfl) (by rfl) (by rfl) rfl rfl ?_); clear hg)))
    refine ax_loop (γ := Nat × List UInt8) (fun g => St.of 31 [(0, .o (.c (.int .i64 (-(g.1 : Int))))), (3, .o (.c (.string (strL g.2)))), (4, .o (.c (.bool true)))] []) (fun g => g.1 ≤ m ∧ zdig m ++ [] = zdig g.1 ++ g.2 ∧ g.2.length ≤ 20) (fun g => g.1) (m, []) (ρ0 := renL []) ⟨Nat.le_refl _, rfl, Nat.zero_le _⟩ (Sub.of rfl ?_ ?_ rfl) rfl (fun g hg => ?_)
    · (repeat (first | exact trivial | refine ⟨⟨rfl, rfl⟩, ?_⟩ | (refine ⟨⟨?_, rfl⟩, ?_⟩; rotate_left)))
    · (repeat (first | exact trivial | refine ⟨⟨rfl, rfl⟩, ?_⟩ | (refine ⟨⟨?_, rfl⟩, ?_⟩; rotate_left)))
    obtain ⟨u, acc⟩ := g
    obtain ⟨hu, hacc, hal⟩ := hg
    dsimp only at hu hacc hal ⊢
    by_cases hz : u = 0
    · subst hz
      have d2 : (-((0 : Nat) : Int) != 0) = false := by simp
      rw [hacc, show 45 :: (zdig 0 ++ acc) = [45] ++ acc from rfl, ← strL_app]
      (repeat (first | (with_reducible first | refine then_normal ?_ | refine then_exit ?_ | refine then_ret ?_ | refine out_same ?_ | refine out_other rfl ?_ | refine out_ret ?_ | refine out_normal ?_ | refine ax_seq ?_ | refine ax_plain ?_ | refine ax_drawn (by kernel_rfl) ?_ | refine ax_block ?_ | refine ax_skip ?_ | refine ax_exit ?_ | refine ax_ret ?_ | refine LX.nil ?_) | refine And.intro (by kernel_rfl) ?_ | refine ax_condT rfl ?_ | refine ax_condF rfl ?_ | refine ax_condHT rfl (by assumption) ?_ | refine ax_condHF rfl (by assumption) ?_ | (refine withG (by first | exact gon_none rfl | exact gon_some rfl rfl rfl) (fun hg => ?_); (first | refine x_cat hg rfl rfl rfl rfl (by simp only [strOfNums_size, strL_size, List.length_cons, List.length_nil]; first | omega | (show _ ≤ _; simp [ByteArray.size]; omega)) ?_ | (refine gate gCmp rfl ?_; refine x_binH hg rfl rfl rfl rfl (fun _ => rfl) (by assumption) ?_) | refine Lx.move hg rfl rfl rfl ?_ | refine Lx.assign hg rfl rfl rfl ?_ | refine x_add hg rfl rfl rfl rfl (by omega) ?_ | refine x_quo hg rfl rfl rfl rfl (by omega) ?_ | refine x_rem hg rfl rfl rfl rfl (by omega) ?_ | refine Lx.bin hg rfl rfl rfl rfl (fun _ => rfl) ?_ | refine Lx.un hg rfl rfl rfl (fun _ => rfl) ?_ | refine x_conv hg rfl rfl rfl ?_ | refine x_buildS hg rfl (by rfl) rfl rfl (by rfl) (by rfl) (by rfl) rfl rfl ?_); clear hg)))
      (refine ends_res1 Tryd.results17 (by first | exact item_tmp rfl | exact item_cellS rfl rfl rfl | exact item_cellO rfl rfl) ?_ ?_; (repeat (first | exact .nil | refine .cons ?_ ?_ | refine .o ?_ | refine .a ?_ | exact .c rfl | exact .r (by rfl) rfl | exact .nil _ _ rfl | (refine .c ?_; rotate_left) | (refine .r (by rfl) ?_; rotate_left) | (refine .nil _ _ ?_; rotate_left))); all_goals (try rfl))
    · have d2 : (-(u : Int) != 0) = true := by simp [hz]
      have hR := neg_rem u
      have hQ := neg_quo u
      have hub : u ≤ 9223372036854775808 := by omega
      have hN : IntKind.i64.wrap (0 - (-(u : Int)).tmod 10) = ((u % 10 : Nat) : Int) := by rw [hR, i64_small (by omega)]; omega
      have hW : IntKind.i64.wrap ((-(u : Int)).tdiv 10) = -((u / 10 : Nat) : Int) := by rw [hQ, i64_small (by omega)]
      by_cases hd0 : u % 10 = 0
      · have d3 : decide ((-(u : Int)).tmod 10 < 0) = false := decide_eq_false (by rw [hR]; omega)
        have hx : (IntKind.u8.wrap (48 + (-(u : Int)).tmod 10)).toNat = 48 + u % 10 := by rw [hR, u8_small (by omega)]; omega
        (repeat (first | (with_reducible first | refine then_normal ?_ | refine then_exit ?_ | refine then_ret ?_ | refine out_same ?_ | refine out_other rfl ?_ | refine out_ret ?_ | refine out_normal ?_ | refine ax_seq ?_ | refine ax_plain ?_ | refine ax_drawn (by kernel_rfl) ?_ | refine ax_block ?_ | refine ax_skip ?_ | refine ax_exit ?_ | refine ax_ret ?_ | refine LX.nil ?_) | refine And.intro (by kernel_rfl) ?_ | refine ax_condT rfl ?_ | refine ax_condF rfl ?_ | refine ax_condHT rfl (by assumption) ?_ | refine ax_condHF rfl (by assumption) ?_ | (refine withG (by first | exact gon_none rfl | exact gon_some rfl rfl rfl) (fun hg => ?_); (first | refine x_convBS hg rfl rfl Tryd.underlying53 Tryd.underlying5 Tryd.underlying9 rfl rfl (by first | exact .ro | exact .row _) (by simp) ?_ | refine x_cat hg rfl rfl rfl rfl (by simp only [strOfNums_size, strL_size, List.length_cons, List.length_nil]; first | omega | (show _ ≤ _; simp [ByteArray.size]; omega)) ?_ | (refine gate gCmp rfl ?_; refine x_binH hg rfl rfl rfl rfl (fun _ => rfl) (by assumption) ?_) | refine Lx.move hg rfl rfl rfl ?_ | refine Lx.assign hg rfl rfl rfl ?_ | refine x_add hg rfl rfl rfl rfl (by omega) ?_ | refine x_quo hg rfl rfl rfl rfl (by omega) ?_ | refine x_rem hg rfl rfl rfl rfl (by omega) ?_ | refine Lx.bin hg rfl rfl rfl rfl (fun _ => rfl) ?_ | refine Lx.un hg rfl rfl rfl (fun _ => rfl) ?_ | refine x_conv hg rfl rfl rfl ?_ | refine x_buildS hg rfl (by rfl) rfl rfl (by rfl) (by rfl) (by rfl) rfl rfl ?_); clear hg)))
        refine ⟨(u / 10, UInt8.ofNat (48 + u % 10) :: acc), renL [], ⟨by show u / 10 ≤ m; omega, ?_, ?_⟩, by show u / 10 < u; omega, Sub.of rfl ?_ ?_ rfl, rfl⟩
        · show zdig m ++ [] = zdig (u / 10) ++ (UInt8.ofNat (48 + u % 10) :: acc)
          rw [hacc, zdig_step (by omega), List.append_assoc]
          rfl
        · show acc.length + 1 ≤ 20
          have h1 := zdig_len (u := m) (by omega)
          have h2 := congrArg List.length hacc
          rw [zdig_step (u := u) (by omega)] at h2
          simp only [List.length_append, List.length_cons, List.length_nil] at h2
          omega
        · (repeat (first | exact trivial | refine ⟨⟨rfl, rfl⟩, ?_⟩ | (refine ⟨⟨?_, rfl⟩, ?_⟩; rotate_left)))
          all_goals first | done | exact eqS (one_app _ u hx acc) | exact eqI hW | exact eqI hQ
        · (repeat (first | exact trivial | refine ⟨⟨rfl, rfl⟩, ?_⟩ | (refine ⟨⟨?_, rfl⟩, ?_⟩; rotate_left)))
      · have d3 : decide ((-(u : Int)).tmod 10 < 0) = true := decide_eq_true (by rw [hR]; omega)
        have hx : (IntKind.u8.wrap (48 + IntKind.i64.wrap (0 - (-(u : Int)).tmod 10))).toNat = 48 + u % 10 := by rw [hN, u8_small (by omega)]; omega
        (repeat (first | (with_reducible first | refine then_normal ?_ | refine then_exit ?_ | refine then_ret ?_ | refine out_same ?_ | refine out_other rfl ?_ | refine out_ret ?_ | refine out_normal ?_ | refine ax_seq ?_ | refine ax_plain ?_ | refine ax_drawn (by kernel_rfl) ?_ | refine ax_block ?_ | refine ax_skip ?_ | refine ax_exit ?_ | refine ax_ret ?_ | refine LX.nil ?_) | refine And.intro (by kernel_rfl) ?_ | refine ax_condT rfl ?_ | refine ax_condF rfl ?_ | refine ax_condHT rfl (by assumption) ?_ | refine ax_condHF rfl (by assumption) ?_ | (refine withG (by first | exact gon_none rfl | exact gon_some rfl rfl rfl) (fun hg => ?_); (first | refine x_convBS hg rfl rfl Tryd.underlying53 Tryd.underlying5 Tryd.underlying9 rfl rfl (by first | exact .ro | exact .row _) (by simp) ?_ | refine x_cat hg rfl rfl rfl rfl (by simp only [strOfNums_size, strL_size, List.length_cons, List.length_nil]; first | omega | (show _ ≤ _; simp [ByteArray.size]; omega)) ?_ | (refine gate gCmp rfl ?_; refine x_binH hg rfl rfl rfl rfl (fun _ => rfl) (by assumption) ?_) | refine Lx.move hg rfl rfl rfl ?_ | refine Lx.assign hg rfl rfl rfl ?_ | refine x_add hg rfl rfl rfl rfl (by omega) ?_ | refine x_quo hg rfl rfl rfl rfl (by omega) ?_ | refine x_rem hg rfl rfl rfl rfl (by omega) ?_ | refine Lx.bin hg rfl rfl rfl rfl (fun _ => rfl) ?_ | refine Lx.un hg rfl rfl rfl (fun _ => rfl) ?_ | refine x_conv hg rfl rfl rfl ?_ | refine x_buildS hg rfl (by rfl) rfl rfl (by rfl) (by rfl) (by rfl) rfl rfl ?_); clear hg)))
        refine ⟨(u / 10, UInt8.ofNat (48 + u % 10) :: acc), renL [], ⟨by show u / 10 ≤ m; omega, ?_, ?_⟩, by show u / 10 < u; omega, Sub.of rfl ?_ ?_ rfl, rfl⟩
        · show zdig m ++ [] = zdig (u / 10) ++ (UInt8.ofNat (48 + u % 10) :: acc)
          rw [hacc, zdig_step (by omega), List.append_assoc]
          rfl
        · show acc.length + 1 ≤ 20
          have h1 := zdig_len (u := m) (by omega)
          have h2 := congrArg List.length hacc
          rw [zdig_step (u := u) (by omega)] at h2
          simp only [List.length_append, List.length_cons, List.length_nil] at h2
          omega
        · (repeat (first | exact trivial | refine ⟨⟨rfl, rfl⟩, ?_⟩ | (refine ⟨⟨?_, rfl⟩, ?_⟩; rotate_left)))
          all_goals first | done | exact eqS (one_app _ u hx acc) | exact eqI hW | exact eqI hQ
        · (repeat (first | exact trivial | refine ⟨⟨rfl, rfl⟩, ?_⟩ | (refine ⟨⟨?_, rfl⟩, ?_⟩; rotate_left)))
end Go.Proofs.YtjdncnajedglgaaDoor.C

-- Written by this session's program myprint.py over the kit's print and its own texts; Lean checks it.
-- made smaller: short names, half the indentation
import Derived.Test.YtengkenhmnpbeaaPFnExactPutSavex0
import Derived.Test.YtengkenhmnpbeaaPFnExactPutSavex5
import Derived.Test.YtengkenhmnpbeaaPFnExactPutSavex6
namespace Go.Proofs.Ytengkenhmnpbeaa.PFnExactPutSave
open Go.RowKit Go.Proofs.YtengkenhmnpbeaaW.PrintWords Go.Proofs.YtengkenhmnpbeaaW.PrintLast Go.Proofs.YtengkenhmnpbeaaW.PrintMore
open Go.Proofs.YtengkenhmnpbeaaW.PrintWords renaming pw_below_drewN → qa, blk_frozen → qb, below_alloc → qc, below_drew1 → qd, blk_cell → qe, blk_drewN → qf, blk_alloc → qg, below_set → qh, blk_drew → qi, below_size → qj, below_step → qk, blk_below → ql
attribute [local go_sem] max2_int min2_int max_two min_two max_three min_three max_four min_four   -- for this text's walks alone
set_option linter.unusedVariables false
set_option linter.unusedSimpArgs false

/-! ### impl_ShardOk: function 71 -/
def impl_ShardOk.f (k : Nat) (l0_0 : List (S84)) (a0_1 : Int) (a0_2 : Int) (a0_3 : Int) : Option (Bool) := if (l0_0.length : Int) ≤ 40 then ((impl_areAggs.f k l0_0).bind fun t254 => (if t254 = true then ((impl_areSorted.f k l0_0).bind fun t255 => (if t255 = true then ((impl_isMark.f a0_1).bind fun t256 => (if t256 = true then ((impl_isMany.f a0_2).bind fun t257 => (if t257 = true then ((impl_isMany.f a0_3).bind fun t258 => (some t258)) else (some false))) else (some false))) else (some false))) else (some false))) else (some false)
theorem impl_ShardOk.mono : ∀ a0 a1 a2 a3 k, LeO (impl_ShardOk.f k a0 a1 a2 a3) (impl_ShardOk.f (k + 1) a0 a1 a2 a3) := by
 intro a0 a1 a2 a3 k
 unfold impl_ShardOk.f
 repeat' first
   | (with_reducible exact impl_areAggs.mono _ _)
   | (with_reducible exact impl_areSorted.mono _ _)
   | (with_reducible exact LeO.refl _)
   | (with_reducible exact LeO.none _)
   | (with_reducible refine LeO.ite ?_ ?_)
   | (with_reducible refine LeO.bind ?_ (fun _ => ?_))
   | exact impl_areAggs.mono _ _
   | exact impl_areSorted.mono _ _
   | exact LeO.none _
   | refine LeO.ite ?_ ?_
   | refine LeO.bind ?_ (fun _ => ?_)
set_option maxHeartbeats 8000000 in
set_option maxRecDepth 100000 in
theorem impl_ShardOk.calls (k : Nat) (A0_0 : Option Addr) (c0_0 : Nat) (l0_0 : List (S84)) (a0_1 : Int) (a0_2 : Int) (a0_3 : Int) (r : Bool) (w : World) (hr0_0 : Kd.C k84 w A0_0 l0_0.length l0_0) (hc0_0 : l0_0.length ≤ c0_0) (h : impl_ShardOk.f k l0_0 a0_1 a0_2 a0_3 = some r) :
  Calls Try.prog 71 #[.agg #[.slice A0_0 l0_0.length c0_0, .int .i64 a0_1, .int .i64 a0_2, .int .i64 a0_3]] w fun e w' => e = .returned (.bool r) ∧ Below w.heap.size w w' := by
 have hu29 := Try.underlying29
 have HR0_0 := Aside0.mk hr0_0
 have HC0_0 := Aside0.mk hc0_0
 clear hr0_0 hc0_0
 have HB := Aside0.mk (Below.refl w.heap.size w)
 have H : (if (l0_0.length : Int) ≤ 40 then ((impl_areAggs.f k l0_0).bind fun t254 => (if t254 = true then ((impl_areSorted.f k l0_0).bind fun t255 => (if t255 = true then ((impl_isMark.f a0_1).bind fun t256 => (if t256 = true then ((impl_isMany.f a0_2).bind fun t257 => (if t257 = true then ((impl_isMany.f a0_3).bind fun t258 => (some t258)) else (some false))) else (some false))) else (some false))) else (some false))) else (some false)) = some r := h
 clear h
 by_cases c2 : (l0_0.length : Int) ≤ 40
 ·
  rw [if_pos c2] at H
  have c2b0 : decide ((l0_0.length : Int) ≤ 40) = true := decide_eq_true c2
  have c2b1 : decide (l0_0.length ≤ 40) = true := decide_eq_true (by omega)
  clear c2
  replace H := Option.bind_eq_some_iff.mp H
  obtain ⟨t254, A30, H⟩ := H
  replace H : (if t254 = true then ((impl_areSorted.f k l0_0).bind fun t255 => (if t255 = true then ((impl_isMark.f a0_1).bind fun t256 => (if t256 = true then ((impl_isMany.f a0_2).bind fun t257 => (if t257 = true then ((impl_isMany.f a0_3).bind fun t258 => (some t258)) else (some false))) else (some false))) else (some false))) else (some false)) = some r := H
  have A3 := Aside0.mk A30
  clear A30
  by_cases c4 : t254 = true
  ·
   subst c4
   have H1 : ((impl_areSorted.f k l0_0).bind fun t255 => (if t255 = true then ((impl_isMark.f a0_1).bind fun t256 => (if t256 = true then ((impl_isMany.f a0_2).bind fun t257 => (if t257 = true then ((impl_isMany.f a0_3).bind fun t258 => (some t258)) else (some false))) else (some false))) else (some false))) = some r := by rw [if_pos rfl] at H; exact H
   clear H
   have H := H1
   clear H1
   replace H := Option.bind_eq_some_iff.mp H
   obtain ⟨t255, A50, H⟩ := H
   replace H : (if t255 = true then ((impl_isMark.f a0_1).bind fun t256 => (if t256 = true then ((impl_isMany.f a0_2).bind fun t257 => (if t257 = true then ((impl_isMany.f a0_3).bind fun t258 => (some t258)) else (some false))) else (some false))) else (some false)) = some r := H
   have A5 := Aside0.mk A50
   clear A50
   by_cases c6 : t255 = true
   ·
    subst c6
    have H1 : ((impl_isMark.f a0_1).bind fun t256 => (if t256 = true then ((impl_isMany.f a0_2).bind fun t257 => (if t257 = true then ((impl_isMany.f a0_3).bind fun t258 => (some t258)) else (some false))) else (some false))) = some r := by rw [if_pos rfl] at H; exact H
    clear H
    have H := H1
    clear H1
    replace H := Option.bind_eq_some_iff.mp H
    obtain ⟨t256, A70, H⟩ := H
    replace H : (if t256 = true then ((impl_isMany.f a0_2).bind fun t257 => (if t257 = true then ((impl_isMany.f a0_3).bind fun t258 => (some t258)) else (some false))) else (some false)) = some r := H
    have A7 := Aside0.mk A70
    clear A70
    by_cases c8 : t256 = true
    ·
     subst c8
     have H1 : ((impl_isMany.f a0_2).bind fun t257 => (if t257 = true then ((impl_isMany.f a0_3).bind fun t258 => (some t258)) else (some false))) = some r := by rw [if_pos rfl] at H; exact H
     clear H
     have H := H1
     clear H1
     replace H := Option.bind_eq_some_iff.mp H
     obtain ⟨t257, A90, H⟩ := H
     replace H : (if t257 = true then ((impl_isMany.f a0_3).bind fun t258 => (some t258)) else (some false)) = some r := H
     have A9 := Aside0.mk A90
     clear A90
     by_cases c10 : t257 = true
     ·
      subst c10
      have H1 : ((impl_isMany.f a0_3).bind fun t258 => (some t258)) = some r := by rw [if_pos rfl] at H; exact H
      clear H
      have H := H1
      clear H1
      replace H := Option.bind_eq_some_iff.mp H
      obtain ⟨t258, A110, H⟩ := H
      replace H : (some t258) = some r := H
      have A11 := Aside0.mk A110
      clear A110
      obtain rfl := Option.some.inj H
      go_enter Try.func71, Try.ntmps71
      go_wp2_with (first | ((with_reducible refine gate_dst (N := 1) rfl ?_); refine box_event ?hg (N := 1) ?hd (cs := #[.slice A0_0 l0_0.length c0_0, .int .i64 a0_1, .int .i64 a0_2, .int .i64 a0_3]) (t := 29) ?hr ?_; (case hd => rfl); (case hg => rfl); (case hr => first | (go_simp; done) | (go_simp; rfl)); intro gb253 hg w12 hbox hb; have n0_ := Aside0.mk (qk (by repeat (first | (with_reducible first | exact HB.out | apply qc | apply qa | apply qd) | exact HB.out)) hb); have n1_ := Aside0.mk (hbox); have n2_ := Aside0.mk ((by rw [hg]; exact (qj (by repeat (first | (with_reducible first | exact HB.out | apply qc | apply qa | apply qd) | exact HB.out))) : w.heap.size ≤ gb253)); have n3_ := Aside0.mk ((by rw [hg]; exact (qj (by repeat (first | (with_reducible first | exact HB.out | apply qc | apply qa | apply qd) | exact HB.out))) : w.heap.size ≤ gb253)); clear HB; have HB := n0_; have BK253 := n1_; have GW253 := n2_; have GE253 := n3_; clear n0_ n1_ n2_ n3_; clear hb hbox hg; have hcz13_0 : w12.cell? ⟨gb253, 0, none⟩ = some (.slice A0_0 l0_0.length c0_0) := (qe BK253.out 0).trans rfl; have hcz13_1 : w12.cell? ⟨gb253, 1, none⟩ = some (.int .i64 a0_1) := (qe BK253.out 1).trans rfl; have hcz13_2 : w12.cell? ⟨gb253, 2, none⟩ = some (.int .i64 a0_2) := (qe BK253.out 2).trans rfl; have hcz13_3 : w12.cell? ⟨gb253, 3, none⟩ = some (.int .i64 a0_3) := (qe BK253.out 3).trans rfl; have hfz13_0 := qb BK253.out 0; have hfz13_1 := qb BK253.out 1; have hfz13_2 := qb BK253.out 2; have hfz13_3 := qb BK253.out 3) | (go_at_call 104; (with_reducible refine (impl_areAggs.calls k _ _ l0_0 true _ ?side1 ?side2 A3.out).mono ?_); (case side1 => repeat (first | exact (Kd.C_below HR0_0.out HB.out) | (with_reducible refine Kd.C_alloc ?_ _) | (with_reducible refine Kd.C_drewN ?_ _) | (with_reducible refine Kd.C_drew ?_))); (case side2 => exact HC0_0.out); rintro e w14 ⟨rfl, hb⟩; have n0_ := Aside0.mk (ql (g := gb253) (o := .cells #[.slice A0_0 l0_0.length c0_0, .int .i64 a0_1, .int .i64 a0_2, .int .i64 a0_3] 29 (0, 0)) (by (with_reducible repeat (first | refine qf ?_ _ | refine qi ?_ | refine qg ?_ _)); exact BK253.out) hb); have n1_ := Aside0.mk (qk (by repeat (first | (with_reducible first | exact HB.out | apply qc | apply qa | apply qd | refine qh ?_ GE253.out) | exact HB.out)) hb); clear BK253; clear HB; have BK253 := n0_; have HB := n1_; clear n0_ n1_; (try clear hb); (try clear hb2); (try clear hk); (try clear hi); have hcz15_0 : w14.cell? ⟨gb253, 0, none⟩ = some (.slice A0_0 l0_0.length c0_0) := (qe BK253.out 0).trans rfl; have hcz15_1 : w14.cell? ⟨gb253, 1, none⟩ = some (.int .i64 a0_1) := (qe BK253.out 1).trans rfl; have hcz15_2 : w14.cell? ⟨gb253, 2, none⟩ = some (.int .i64 a0_2) := (qe BK253.out 2).trans rfl; have hcz15_3 : w14.cell? ⟨gb253, 3, none⟩ = some (.int .i64 a0_3) := (qe BK253.out 3).trans rfl; have hfz15_0 := qb BK253.out 0; have hfz15_1 := qb BK253.out 1; have hfz15_2 := qb BK253.out 2; have hfz15_3 := qb BK253.out 3) | (go_at_call 105; (with_reducible refine (impl_areSorted.calls k _ _ l0_0 true _ ?side1 ?side2 A5.out).mono ?_); (case side1 => repeat (first | exact (Kd.C_below HR0_0.out HB.out) | (with_reducible refine Kd.C_alloc ?_ _) | (with_reducible refine Kd.C_drewN ?_ _) | (with_reducible refine Kd.C_drew ?_))); (case side2 => exact HC0_0.out); rintro e w16 ⟨rfl, hb⟩; have n0_ := Aside0.mk (ql (g := gb253) (o := .cells #[.slice A0_0 l0_0.length c0_0, .int .i64 a0_1, .int .i64 a0_2, .int .i64 a0_3] 29 (0, 0)) (by (with_reducible repeat (first | refine qf ?_ _ | refine qi ?_ | refine qg ?_ _)); exact BK253.out) hb); have n1_ := Aside0.mk (qk (by repeat (first | (with_reducible first | exact HB.out | apply qc | apply qa | apply qd | refine qh ?_ GE253.out) | exact HB.out)) hb); clear BK253; clear HB; have BK253 := n0_; have HB := n1_; clear n0_ n1_; (try clear hb); (try clear hb2); (try clear hk); (try clear hi); have hcz17_0 : w16.cell? ⟨gb253, 0, none⟩ = some (.slice A0_0 l0_0.length c0_0) := (qe BK253.out 0).trans rfl; have hcz17_1 : w16.cell? ⟨gb253, 1, none⟩ = some (.int .i64 a0_1) := (qe BK253.out 1).trans rfl; have hcz17_2 : w16.cell? ⟨gb253, 2, none⟩ = some (.int .i64 a0_2) := (qe BK253.out 2).trans rfl; have hcz17_3 : w16.cell? ⟨gb253, 3, none⟩ = some (.int .i64 a0_3) := (qe BK253.out 3).trans rfl; have hfz17_0 := qb BK253.out 0; have hfz17_1 := qb BK253.out 1; have hfz17_2 := qb BK253.out 2; have hfz17_3 := qb BK253.out 3) | (go_at_call 106; (with_reducible refine (impl_isMark.calls a0_1 true _ A7.out).mono ?_); rintro e w' ⟨rfl, ⟨nd, rfl⟩⟩) | (go_at_call 107; (with_reducible refine (impl_isMany.calls a0_2 true _ A9.out).mono ?_); rintro e w' ⟨rfl, ⟨nd, rfl⟩⟩) | (go_at_call 107; (with_reducible refine (impl_isMany.calls a0_3 t258 _ A11.out).mono ?_); rintro e w' ⟨rfl, ⟨nd, rfl⟩⟩))
      go_ret
      exact ⟨by first | rfl | (simp [errW_none, errW_some] <;> rfl) | (simp [*, errW_none, errW_some] <;> rfl), by repeat (first | (with_reducible first | exact HB.out | apply qc | apply qa | apply qd | refine qh ?_ GE253.out) | exact HB.out)⟩
     ·
      replace c10 := Bool.eq_false_iff.mpr c10
      subst c10
      have H1 : (some false) = some r := by rw [if_neg (show ¬ (false = true) by decide)] at H; exact H
      clear H
      have H := H1
      clear H1
      obtain rfl := Option.some.inj H
      go_enter Try.func71, Try.ntmps71
      go_wp2_with (first | ((with_reducible refine gate_dst (N := 1) rfl ?_); refine box_event ?hg (N := 1) ?hd (cs := #[.slice A0_0 l0_0.length c0_0, .int .i64 a0_1, .int .i64 a0_2, .int .i64 a0_3]) (t := 29) ?hr ?_; (case hd => rfl); (case hg => rfl); (case hr => first | (go_simp; done) | (go_simp; rfl)); intro gb253 hg w18 hbox hb; have n0_ := Aside0.mk (qk (by repeat (first | (with_reducible first | exact HB.out | apply qc | apply qa | apply qd) | exact HB.out)) hb); have n1_ := Aside0.mk (hbox); have n2_ := Aside0.mk ((by rw [hg]; exact (qj (by repeat (first | (with_reducible first | exact HB.out | apply qc | apply qa | apply qd) | exact HB.out))) : w.heap.size ≤ gb253)); have n3_ := Aside0.mk ((by rw [hg]; exact (qj (by repeat (first | (with_reducible first | exact HB.out | apply qc | apply qa | apply qd) | exact HB.out))) : w.heap.size ≤ gb253)); clear HB; have HB := n0_; have BK253 := n1_; have GW253 := n2_; have GE253 := n3_; clear n0_ n1_ n2_ n3_; clear hb hbox hg; have hcz19_0 : w18.cell? ⟨gb253, 0, none⟩ = some (.slice A0_0 l0_0.length c0_0) := (qe BK253.out 0).trans rfl; have hcz19_1 : w18.cell? ⟨gb253, 1, none⟩ = some (.int .i64 a0_1) := (qe BK253.out 1).trans rfl; have hcz19_2 : w18.cell? ⟨gb253, 2, none⟩ = some (.int .i64 a0_2) := (qe BK253.out 2).trans rfl; have hcz19_3 : w18.cell? ⟨gb253, 3, none⟩ = some (.int .i64 a0_3) := (qe BK253.out 3).trans rfl; have hfz19_0 := qb BK253.out 0; have hfz19_1 := qb BK253.out 1; have hfz19_2 := qb BK253.out 2; have hfz19_3 := qb BK253.out 3) | (go_at_call 104; (with_reducible refine (impl_areAggs.calls k _ _ l0_0 true _ ?side1 ?side2 A3.out).mono ?_); (case side1 => repeat (first | exact (Kd.C_below HR0_0.out HB.out) | (with_reducible refine Kd.C_alloc ?_ _) | (with_reducible refine Kd.C_drewN ?_ _) | (with_reducible refine Kd.C_drew ?_))); (case side2 => exact HC0_0.out); rintro e w20 ⟨rfl, hb⟩; have n0_ := Aside0.mk (ql (g := gb253) (o := .cells #[.slice A0_0 l0_0.length c0_0, .int .i64 a0_1, .int .i64 a0_2, .int .i64 a0_3] 29 (0, 0)) (by (with_reducible repeat (first | refine qf ?_ _ | refine qi ?_ | refine qg ?_ _)); exact BK253.out) hb); have n1_ := Aside0.mk (qk (by repeat (first | (with_reducible first | exact HB.out | apply qc | apply qa | apply qd | refine qh ?_ GE253.out) | exact HB.out)) hb); clear BK253; clear HB; have BK253 := n0_; have HB := n1_; clear n0_ n1_; (try clear hb); (try clear hb2); (try clear hk); (try clear hi); have hcz21_0 : w20.cell? ⟨gb253, 0, none⟩ = some (.slice A0_0 l0_0.length c0_0) := (qe BK253.out 0).trans rfl; have hcz21_1 : w20.cell? ⟨gb253, 1, none⟩ = some (.int .i64 a0_1) := (qe BK253.out 1).trans rfl; have hcz21_2 : w20.cell? ⟨gb253, 2, none⟩ = some (.int .i64 a0_2) := (qe BK253.out 2).trans rfl; have hcz21_3 : w20.cell? ⟨gb253, 3, none⟩ = some (.int .i64 a0_3) := (qe BK253.out 3).trans rfl; have hfz21_0 := qb BK253.out 0; have hfz21_1 := qb BK253.out 1; have hfz21_2 := qb BK253.out 2; have hfz21_3 := qb BK253.out 3) | (go_at_call 105; (with_reducible refine (impl_areSorted.calls k _ _ l0_0 true _ ?side1 ?side2 A5.out).mono ?_); (case side1 => repeat (first | exact (Kd.C_below HR0_0.out HB.out) | (with_reducible refine Kd.C_alloc ?_ _) | (with_reducible refine Kd.C_drewN ?_ _) | (with_reducible refine Kd.C_drew ?_))); (case side2 => exact HC0_0.out); rintro e w22 ⟨rfl, hb⟩; have n0_ := Aside0.mk (ql (g := gb253) (o := .cells #[.slice A0_0 l0_0.length c0_0, .int .i64 a0_1, .int .i64 a0_2, .int .i64 a0_3] 29 (0, 0)) (by (with_reducible repeat (first | refine qf ?_ _ | refine qi ?_ | refine qg ?_ _)); exact BK253.out) hb); have n1_ := Aside0.mk (qk (by repeat (first | (with_reducible first | exact HB.out | apply qc | apply qa | apply qd | refine qh ?_ GE253.out) | exact HB.out)) hb); clear BK253; clear HB; have BK253 := n0_; have HB := n1_; clear n0_ n1_; (try clear hb); (try clear hb2); (try clear hk); (try clear hi); have hcz23_0 : w22.cell? ⟨gb253, 0, none⟩ = some (.slice A0_0 l0_0.length c0_0) := (qe BK253.out 0).trans rfl; have hcz23_1 : w22.cell? ⟨gb253, 1, none⟩ = some (.int .i64 a0_1) := (qe BK253.out 1).trans rfl; have hcz23_2 : w22.cell? ⟨gb253, 2, none⟩ = some (.int .i64 a0_2) := (qe BK253.out 2).trans rfl; have hcz23_3 : w22.cell? ⟨gb253, 3, none⟩ = some (.int .i64 a0_3) := (qe BK253.out 3).trans rfl; have hfz23_0 := qb BK253.out 0; have hfz23_1 := qb BK253.out 1; have hfz23_2 := qb BK253.out 2; have hfz23_3 := qb BK253.out 3) | (go_at_call 106; (with_reducible refine (impl_isMark.calls a0_1 true _ A7.out).mono ?_); rintro e w' ⟨rfl, ⟨nd, rfl⟩⟩) | (go_at_call 107; (with_reducible refine (impl_isMany.calls a0_2 false _ A9.out).mono ?_); rintro e w' ⟨rfl, ⟨nd, rfl⟩⟩))
      go_ret
      exact ⟨by first | rfl | (simp [errW_none, errW_some] <;> rfl) | (simp [*, errW_none, errW_some] <;> rfl), by repeat (first | (with_reducible first | exact HB.out | apply qc | apply qa | apply qd | refine qh ?_ GE253.out) | exact HB.out)⟩
    ·
     replace c8 := Bool.eq_false_iff.mpr c8
     subst c8
     have H1 : (some false) = some r := by rw [if_neg (show ¬ (false = true) by decide)] at H; exact H
     clear H
     have H := H1
     clear H1
     obtain rfl := Option.some.inj H
     go_enter Try.func71, Try.ntmps71
     go_wp2_with (first | ((with_reducible refine gate_dst (N := 1) rfl ?_); refine box_event ?hg (N := 1) ?hd (cs := #[.slice A0_0 l0_0.length c0_0, .int .i64 a0_1, .int .i64 a0_2, .int .i64 a0_3]) (t := 29) ?hr ?_; (case hd => rfl); (case hg => rfl); (case hr => first | (go_simp; done) | (go_simp; rfl)); intro gb253 hg w24 hbox hb; have n0_ := Aside0.mk (qk (by repeat (first | (with_reducible first | exact HB.out | apply qc | apply qa | apply qd) | exact HB.out)) hb); have n1_ := Aside0.mk (hbox); have n2_ := Aside0.mk ((by rw [hg]; exact (qj (by repeat (first | (with_reducible first | exact HB.out | apply qc | apply qa | apply qd) | exact HB.out))) : w.heap.size ≤ gb253)); have n3_ := Aside0.mk ((by rw [hg]; exact (qj (by repeat (first | (with_reducible first | exact HB.out | apply qc | apply qa | apply qd) | exact HB.out))) : w.heap.size ≤ gb253)); clear HB; have HB := n0_; have BK253 := n1_; have GW253 := n2_; have GE253 := n3_; clear n0_ n1_ n2_ n3_; clear hb hbox hg; have hcz25_0 : w24.cell? ⟨gb253, 0, none⟩ = some (.slice A0_0 l0_0.length c0_0) := (qe BK253.out 0).trans rfl; have hcz25_1 : w24.cell? ⟨gb253, 1, none⟩ = some (.int .i64 a0_1) := (qe BK253.out 1).trans rfl; have hcz25_2 : w24.cell? ⟨gb253, 2, none⟩ = some (.int .i64 a0_2) := (qe BK253.out 2).trans rfl; have hcz25_3 : w24.cell? ⟨gb253, 3, none⟩ = some (.int .i64 a0_3) := (qe BK253.out 3).trans rfl; have hfz25_0 := qb BK253.out 0; have hfz25_1 := qb BK253.out 1; have hfz25_2 := qb BK253.out 2; have hfz25_3 := qb BK253.out 3) | (go_at_call 104; (with_reducible refine (impl_areAggs.calls k _ _ l0_0 true _ ?side1 ?side2 A3.out).mono ?_); (case side1 => repeat (first | exact (Kd.C_below HR0_0.out HB.out) | (with_reducible refine Kd.C_alloc ?_ _) | (with_reducible refine Kd.C_drewN ?_ _) | (with_reducible refine Kd.C_drew ?_))); (case side2 => exact HC0_0.out); rintro e w26 ⟨rfl, hb⟩; have n0_ := Aside0.mk (ql (g := gb253) (o := .cells #[.slice A0_0 l0_0.length c0_0, .int .i64 a0_1, .int .i64 a0_2, .int .i64 a0_3] 29 (0, 0)) (by (with_reducible repeat (first | refine qf ?_ _ | refine qi ?_ | refine qg ?_ _)); exact BK253.out) hb); have n1_ := Aside0.mk (qk (by repeat (first | (with_reducible first | exact HB.out | apply qc | apply qa | apply qd | refine qh ?_ GE253.out) | exact HB.out)) hb); clear BK253; clear HB; have BK253 := n0_; have HB := n1_; clear n0_ n1_; (try clear hb); (try clear hb2); (try clear hk); (try clear hi); have hcz27_0 : w26.cell? ⟨gb253, 0, none⟩ = some (.slice A0_0 l0_0.length c0_0) := (qe BK253.out 0).trans rfl; have hcz27_1 : w26.cell? ⟨gb253, 1, none⟩ = some (.int .i64 a0_1) := (qe BK253.out 1).trans rfl; have hcz27_2 : w26.cell? ⟨gb253, 2, none⟩ = some (.int .i64 a0_2) := (qe BK253.out 2).trans rfl; have hcz27_3 : w26.cell? ⟨gb253, 3, none⟩ = some (.int .i64 a0_3) := (qe BK253.out 3).trans rfl; have hfz27_0 := qb BK253.out 0; have hfz27_1 := qb BK253.out 1; have hfz27_2 := qb BK253.out 2; have hfz27_3 := qb BK253.out 3) | (go_at_call 105; (with_reducible refine (impl_areSorted.calls k _ _ l0_0 true _ ?side1 ?side2 A5.out).mono ?_); (case side1 => repeat (first | exact (Kd.C_below HR0_0.out HB.out) | (with_reducible refine Kd.C_alloc ?_ _) | (with_reducible refine Kd.C_drewN ?_ _) | (with_reducible refine Kd.C_drew ?_))); (case side2 => exact HC0_0.out); rintro e w28 ⟨rfl, hb⟩; have n0_ := Aside0.mk (ql (g := gb253) (o := .cells #[.slice A0_0 l0_0.length c0_0, .int .i64 a0_1, .int .i64 a0_2, .int .i64 a0_3] 29 (0, 0)) (by (with_reducible repeat (first | refine qf ?_ _ | refine qi ?_ | refine qg ?_ _)); exact BK253.out) hb); have n1_ := Aside0.mk (qk (by repeat (first | (with_reducible first | exact HB.out | apply qc | apply qa | apply qd | refine qh ?_ GE253.out) | exact HB.out)) hb); clear BK253; clear HB; have BK253 := n0_; have HB := n1_; clear n0_ n1_; (try clear hb); (try clear hb2); (try clear hk); (try clear hi); have hcz29_0 : w28.cell? ⟨gb253, 0, none⟩ = some (.slice A0_0 l0_0.length c0_0) := (qe BK253.out 0).trans rfl; have hcz29_1 : w28.cell? ⟨gb253, 1, none⟩ = some (.int .i64 a0_1) := (qe BK253.out 1).trans rfl; have hcz29_2 : w28.cell? ⟨gb253, 2, none⟩ = some (.int .i64 a0_2) := (qe BK253.out 2).trans rfl; have hcz29_3 : w28.cell? ⟨gb253, 3, none⟩ = some (.int .i64 a0_3) := (qe BK253.out 3).trans rfl; have hfz29_0 := qb BK253.out 0; have hfz29_1 := qb BK253.out 1; have hfz29_2 := qb BK253.out 2; have hfz29_3 := qb BK253.out 3) | (go_at_call 106; (with_reducible refine (impl_isMark.calls a0_1 false _ A7.out).mono ?_); rintro e w' ⟨rfl, ⟨nd, rfl⟩⟩))
     go_ret
     exact ⟨by first | rfl | (simp [errW_none, errW_some] <;> rfl) | (simp [*, errW_none, errW_some] <;> rfl), by repeat (first | (with_reducible first | exact HB.out | apply qc | apply qa | apply qd | refine qh ?_ GE253.out) | exact HB.out)⟩
   ·
    replace c6 := Bool.eq_false_iff.mpr c6
    subst c6
    have H1 : (some false) = some r := by rw [if_neg (show ¬ (false = true) by decide)] at H; exact H
    clear H
    have H := H1
    clear H1
    obtain rfl := Option.some.inj H
    go_enter Try.func71, Try.ntmps71
    go_wp2_with (first | ((with_reducible refine gate_dst (N := 1) rfl ?_); refine box_event ?hg (N := 1) ?hd (cs := #[.slice A0_0 l0_0.length c0_0, .int .i64 a0_1, .int .i64 a0_2, .int .i64 a0_3]) (t := 29) ?hr ?_; (case hd => rfl); (case hg => rfl); (case hr => first | (go_simp; done) | (go_simp; rfl)); intro gb253 hg w30 hbox hb; have n0_ := Aside0.mk (qk (by repeat (first | (with_reducible first | exact HB.out | apply qc | apply qa | apply qd) | exact HB.out)) hb); have n1_ := Aside0.mk (hbox); have n2_ := Aside0.mk ((by rw [hg]; exact (qj (by repeat (first | (with_reducible first | exact HB.out | apply qc | apply qa | apply qd) | exact HB.out))) : w.heap.size ≤ gb253)); have n3_ := Aside0.mk ((by rw [hg]; exact (qj (by repeat (first | (with_reducible first | exact HB.out | apply qc | apply qa | apply qd) | exact HB.out))) : w.heap.size ≤ gb253)); clear HB; have HB := n0_; have BK253 := n1_; have GW253 := n2_; have GE253 := n3_; clear n0_ n1_ n2_ n3_; clear hb hbox hg; have hcz31_0 : w30.cell? ⟨gb253, 0, none⟩ = some (.slice A0_0 l0_0.length c0_0) := (qe BK253.out 0).trans rfl; have hcz31_1 : w30.cell? ⟨gb253, 1, none⟩ = some (.int .i64 a0_1) := (qe BK253.out 1).trans rfl; have hcz31_2 : w30.cell? ⟨gb253, 2, none⟩ = some (.int .i64 a0_2) := (qe BK253.out 2).trans rfl; have hcz31_3 : w30.cell? ⟨gb253, 3, none⟩ = some (.int .i64 a0_3) := (qe BK253.out 3).trans rfl; have hfz31_0 := qb BK253.out 0; have hfz31_1 := qb BK253.out 1; have hfz31_2 := qb BK253.out 2; have hfz31_3 := qb BK253.out 3) | (go_at_call 104; (with_reducible refine (impl_areAggs.calls k _ _ l0_0 true _ ?side1 ?side2 A3.out).mono ?_); (case side1 => repeat (first | exact (Kd.C_below HR0_0.out HB.out) | (with_reducible refine Kd.C_alloc ?_ _) | (with_reducible refine Kd.C_drewN ?_ _) | (with_reducible refine Kd.C_drew ?_))); (case side2 => exact HC0_0.out); rintro e w32 ⟨rfl, hb⟩; have n0_ := Aside0.mk (ql (g := gb253) (o := .cells #[.slice A0_0 l0_0.length c0_0, .int .i64 a0_1, .int .i64 a0_2, .int .i64 a0_3] 29 (0, 0)) (by (with_reducible repeat (first | refine qf ?_ _ | refine qi ?_ | refine qg ?_ _)); exact BK253.out) hb); have n1_ := Aside0.mk (qk (by repeat (first | (with_reducible first | exact HB.out | apply qc | apply qa | apply qd | refine qh ?_ GE253.out) | exact HB.out)) hb); clear BK253; clear HB; have BK253 := n0_; have HB := n1_; clear n0_ n1_; (try clear hb); (try clear hb2); (try clear hk); (try clear hi); have hcz33_0 : w32.cell? ⟨gb253, 0, none⟩ = some (.slice A0_0 l0_0.length c0_0) := (qe BK253.out 0).trans rfl; have hcz33_1 : w32.cell? ⟨gb253, 1, none⟩ = some (.int .i64 a0_1) := (qe BK253.out 1).trans rfl; have hcz33_2 : w32.cell? ⟨gb253, 2, none⟩ = some (.int .i64 a0_2) := (qe BK253.out 2).trans rfl; have hcz33_3 : w32.cell? ⟨gb253, 3, none⟩ = some (.int .i64 a0_3) := (qe BK253.out 3).trans rfl; have hfz33_0 := qb BK253.out 0; have hfz33_1 := qb BK253.out 1; have hfz33_2 := qb BK253.out 2; have hfz33_3 := qb BK253.out 3) | (go_at_call 105; (with_reducible refine (impl_areSorted.calls k _ _ l0_0 false _ ?side1 ?side2 A5.out).mono ?_); (case side1 => repeat (first | exact (Kd.C_below HR0_0.out HB.out) | (with_reducible refine Kd.C_alloc ?_ _) | (with_reducible refine Kd.C_drewN ?_ _) | (with_reducible refine Kd.C_drew ?_))); (case side2 => exact HC0_0.out); rintro e w34 ⟨rfl, hb⟩; have n0_ := Aside0.mk (ql (g := gb253) (o := .cells #[.slice A0_0 l0_0.length c0_0, .int .i64 a0_1, .int .i64 a0_2, .int .i64 a0_3] 29 (0, 0)) (by (with_reducible repeat (first | refine qf ?_ _ | refine qi ?_ | refine qg ?_ _)); exact BK253.out) hb); have n1_ := Aside0.mk (qk (by repeat (first | (with_reducible first | exact HB.out | apply qc | apply qa | apply qd | refine qh ?_ GE253.out) | exact HB.out)) hb); clear BK253; clear HB; have BK253 := n0_; have HB := n1_; clear n0_ n1_; (try clear hb); (try clear hb2); (try clear hk); (try clear hi)))
    go_ret
    exact ⟨by first | rfl | (simp [errW_none, errW_some] <;> rfl) | (simp [*, errW_none, errW_some] <;> rfl), by repeat (first | (with_reducible first | exact HB.out | apply qc | apply qa | apply qd | refine qh ?_ GE253.out) | exact HB.out)⟩
  ·
   replace c4 := Bool.eq_false_iff.mpr c4
   subst c4
   have H1 : (some false) = some r := by rw [if_neg (show ¬ (false = true) by decide)] at H; exact H
   clear H
   have H := H1
   clear H1
   obtain rfl := Option.some.inj H
   go_enter Try.func71, Try.ntmps71
   go_wp2_with (first | ((with_reducible refine gate_dst (N := 1) rfl ?_); refine box_event ?hg (N := 1) ?hd (cs := #[.slice A0_0 l0_0.length c0_0, .int .i64 a0_1, .int .i64 a0_2, .int .i64 a0_3]) (t := 29) ?hr ?_; (case hd => rfl); (case hg => rfl); (case hr => first | (go_simp; done) | (go_simp; rfl)); intro gb253 hg w35 hbox hb; have n0_ := Aside0.mk (qk (by repeat (first | (with_reducible first | exact HB.out | apply qc | apply qa | apply qd) | exact HB.out)) hb); have n1_ := Aside0.mk (hbox); have n2_ := Aside0.mk ((by rw [hg]; exact (qj (by repeat (first | (with_reducible first | exact HB.out | apply qc | apply qa | apply qd) | exact HB.out))) : w.heap.size ≤ gb253)); have n3_ := Aside0.mk ((by rw [hg]; exact (qj (by repeat (first | (with_reducible first | exact HB.out | apply qc | apply qa | apply qd) | exact HB.out))) : w.heap.size ≤ gb253)); clear HB; have HB := n0_; have BK253 := n1_; have GW253 := n2_; have GE253 := n3_; clear n0_ n1_ n2_ n3_; clear hb hbox hg; have hcz36_0 : w35.cell? ⟨gb253, 0, none⟩ = some (.slice A0_0 l0_0.length c0_0) := (qe BK253.out 0).trans rfl; have hcz36_1 : w35.cell? ⟨gb253, 1, none⟩ = some (.int .i64 a0_1) := (qe BK253.out 1).trans rfl; have hcz36_2 : w35.cell? ⟨gb253, 2, none⟩ = some (.int .i64 a0_2) := (qe BK253.out 2).trans rfl; have hcz36_3 : w35.cell? ⟨gb253, 3, none⟩ = some (.int .i64 a0_3) := (qe BK253.out 3).trans rfl; have hfz36_0 := qb BK253.out 0; have hfz36_1 := qb BK253.out 1; have hfz36_2 := qb BK253.out 2; have hfz36_3 := qb BK253.out 3) | (go_at_call 104; (with_reducible refine (impl_areAggs.calls k _ _ l0_0 false _ ?side1 ?side2 A3.out).mono ?_); (case side1 => repeat (first | exact (Kd.C_below HR0_0.out HB.out) | (with_reducible refine Kd.C_alloc ?_ _) | (with_reducible refine Kd.C_drewN ?_ _) | (with_reducible refine Kd.C_drew ?_))); (case side2 => exact HC0_0.out); rintro e w37 ⟨rfl, hb⟩; have n0_ := Aside0.mk (ql (g := gb253) (o := .cells #[.slice A0_0 l0_0.length c0_0, .int .i64 a0_1, .int .i64 a0_2, .int .i64 a0_3] 29 (0, 0)) (by (with_reducible repeat (first | refine qf ?_ _ | refine qi ?_ | refine qg ?_ _)); exact BK253.out) hb); have n1_ := Aside0.mk (qk (by repeat (first | (with_reducible first | exact HB.out | apply qc | apply qa | apply qd | refine qh ?_ GE253.out) | exact HB.out)) hb); clear BK253; clear HB; have BK253 := n0_; have HB := n1_; clear n0_ n1_; (try clear hb); (try clear hb2); (try clear hk); (try clear hi)))
   go_ret
   exact ⟨by first | rfl | (simp [errW_none, errW_some] <;> rfl) | (simp [*, errW_none, errW_some] <;> rfl), by repeat (first | (with_reducible first | exact HB.out | apply qc | apply qa | apply qd | refine qh ?_ GE253.out) | exact HB.out)⟩
 ·
  rw [if_neg c2] at H
  have c2b0 : decide ((l0_0.length : Int) ≤ 40) = false := decide_eq_false c2
  have c2b1 : decide (l0_0.length ≤ 40) = false := decide_eq_false (by omega)
  clear c2
  obtain rfl := Option.some.inj H
  go_enter Try.func71, Try.ntmps71
  go_wp2_with (first | ((with_reducible refine gate_dst (N := 1) rfl ?_); refine box_event ?hg (N := 1) ?hd (cs := #[.slice A0_0 l0_0.length c0_0, .int .i64 a0_1, .int .i64 a0_2, .int .i64 a0_3]) (t := 29) ?hr ?_; (case hd => rfl); (case hg => rfl); (case hr => first | (go_simp; done) | (go_simp; rfl)); intro gb253 hg w38 hbox hb; have n0_ := Aside0.mk (qk (by repeat (first | (with_reducible first | exact HB.out | apply qc | apply qa | apply qd) | exact HB.out)) hb); have n1_ := Aside0.mk (hbox); have n2_ := Aside0.mk ((by rw [hg]; exact (qj (by repeat (first | (with_reducible first | exact HB.out | apply qc | apply qa | apply qd) | exact HB.out))) : w.heap.size ≤ gb253)); have n3_ := Aside0.mk ((by rw [hg]; exact (qj (by repeat (first | (with_reducible first | exact HB.out | apply qc | apply qa | apply qd) | exact HB.out))) : w.heap.size ≤ gb253)); clear HB; have HB := n0_; have BK253 := n1_; have GW253 := n2_; have GE253 := n3_; clear n0_ n1_ n2_ n3_; clear hb hbox hg; have hcz39_0 : w38.cell? ⟨gb253, 0, none⟩ = some (.slice A0_0 l0_0.length c0_0) := (qe BK253.out 0).trans rfl; have hcz39_1 : w38.cell? ⟨gb253, 1, none⟩ = some (.int .i64 a0_1) := (qe BK253.out 1).trans rfl; have hcz39_2 : w38.cell? ⟨gb253, 2, none⟩ = some (.int .i64 a0_2) := (qe BK253.out 2).trans rfl; have hcz39_3 : w38.cell? ⟨gb253, 3, none⟩ = some (.int .i64 a0_3) := (qe BK253.out 3).trans rfl; have hfz39_0 := qb BK253.out 0; have hfz39_1 := qb BK253.out 1; have hfz39_2 := qb BK253.out 2; have hfz39_3 := qb BK253.out 3))
  go_ret
  exact ⟨by first | rfl | (simp [errW_none, errW_some] <;> rfl) | (simp [*, errW_none, errW_some] <;> rfl), by repeat (first | (with_reducible first | exact HB.out | apply qc | apply qa | apply qd | refine qh ?_ GE253.out) | exact HB.out)⟩

/-! ### impl_SaveOk: function 23 -/
def impl_SaveOk.f (k : Nat) (a0_0 : Int) (l0_1 : List (S84)) (a0_2 : Int) (a0_3 : Int) (a0_4 : Int) : Option (Bool) := (impl_within.f a0_0 0 300).bind fun t260 => (if t260 = true then ((impl_ShardOk.f k l0_1 a0_2 a0_3 a0_4).bind fun t261 => (some t261)) else (some false))
theorem impl_SaveOk.mono : ∀ a0 a1 a2 a3 a4 k, LeO (impl_SaveOk.f k a0 a1 a2 a3 a4) (impl_SaveOk.f (k + 1) a0 a1 a2 a3 a4) := by
 intro a0 a1 a2 a3 a4 k
 unfold impl_SaveOk.f
 repeat' first
   | (with_reducible exact impl_ShardOk.mono _ _ _ _ _)
   | (with_reducible exact LeO.refl _)
   | (with_reducible exact LeO.none _)
   | (with_reducible refine LeO.ite ?_ ?_)
   | (with_reducible refine LeO.bind ?_ (fun _ => ?_))
   | exact impl_ShardOk.mono _ _ _ _ _
   | exact LeO.none _
   | refine LeO.ite ?_ ?_
   | refine LeO.bind ?_ (fun _ => ?_)
set_option maxHeartbeats 8000000 in
set_option maxRecDepth 100000 in
theorem impl_SaveOk.calls (k : Nat) (a0_0 : Int) (A0_1 : Option Addr) (c0_1 : Nat) (l0_1 : List (S84)) (a0_2 : Int) (a0_3 : Int) (a0_4 : Int) (r : Bool) (w : World) (hr0_1 : Kd.C k84 w A0_1 l0_1.length l0_1) (hc0_1 : l0_1.length ≤ c0_1) (h : impl_SaveOk.f k a0_0 l0_1 a0_2 a0_3 a0_4 = some r) :
  Calls Try.prog 23 #[.agg #[.int .i64 a0_0, .slice A0_1 l0_1.length c0_1, .int .i64 a0_2, .int .i64 a0_3, .int .i64 a0_4]] w fun e w' => e = .returned (.bool r) ∧ Below w.heap.size w w' := by
 have hu37 := Try.underlying37
 have hu29 := Try.underlying29
 have HR0_1 := Aside0.mk hr0_1
 have HC0_1 := Aside0.mk hc0_1
 clear hr0_1 hc0_1
 have HB := Aside0.mk (Below.refl w.heap.size w)
 have H : ((impl_within.f a0_0 0 300).bind fun t260 => (if t260 = true then ((impl_ShardOk.f k l0_1 a0_2 a0_3 a0_4).bind fun t261 => (some t261)) else (some false))) = some r := h
 clear h
 replace H := Option.bind_eq_some_iff.mp H
 obtain ⟨t260, A20, H⟩ := H
 replace H : (if t260 = true then ((impl_ShardOk.f k l0_1 a0_2 a0_3 a0_4).bind fun t261 => (some t261)) else (some false)) = some r := H
 have A2 := Aside0.mk A20
 clear A20
 by_cases c3 : t260 = true
 ·
  subst c3
  have H1 : ((impl_ShardOk.f k l0_1 a0_2 a0_3 a0_4).bind fun t261 => (some t261)) = some r := by rw [if_pos rfl] at H; exact H
  clear H
  have H := H1
  clear H1
  replace H := Option.bind_eq_some_iff.mp H
  obtain ⟨t261, A40, H⟩ := H
  replace H : (some t261) = some r := H
  have A4 := Aside0.mk A40
  clear A40
  obtain rfl := Option.some.inj H
  go_enter Try.func23, Try.ntmps23
  go_wp2_with (first | ((with_reducible refine gate_dst (N := 1) rfl ?_); refine box_event ?hg (N := 1) ?hd (cs := #[.int .i64 a0_0, .slice A0_1 l0_1.length c0_1, .int .i64 a0_2, .int .i64 a0_3, .int .i64 a0_4]) (t := 37) ?hr ?_; (case hd => rfl); (case hg => rfl); (case hr => first | (go_simp; done) | (go_simp; rfl)); intro gb259 hg w5 hbox hb; have n0_ := Aside0.mk (qk (by repeat (first | (with_reducible first | exact HB.out | apply qc | apply qa | apply qd) | exact HB.out)) hb); have n1_ := Aside0.mk (hbox); have n2_ := Aside0.mk ((by rw [hg]; exact (qj (by repeat (first | (with_reducible first | exact HB.out | apply qc | apply qa | apply qd) | exact HB.out))) : w.heap.size ≤ gb259)); have n3_ := Aside0.mk ((by rw [hg]; exact (qj (by repeat (first | (with_reducible first | exact HB.out | apply qc | apply qa | apply qd) | exact HB.out))) : w.heap.size ≤ gb259)); clear HB; have HB := n0_; have BK259 := n1_; have GW259 := n2_; have GE259 := n3_; clear n0_ n1_ n2_ n3_; clear hb hbox hg; have hcz6_0 : w5.cell? ⟨gb259, 0, none⟩ = some (.int .i64 a0_0) := (qe BK259.out 0).trans rfl; have hcz6_1 : w5.cell? ⟨gb259, 1, none⟩ = some (.slice A0_1 l0_1.length c0_1) := (qe BK259.out 1).trans rfl; have hcz6_2 : w5.cell? ⟨gb259, 2, none⟩ = some (.int .i64 a0_2) := (qe BK259.out 2).trans rfl; have hcz6_3 : w5.cell? ⟨gb259, 3, none⟩ = some (.int .i64 a0_3) := (qe BK259.out 3).trans rfl; have hcz6_4 : w5.cell? ⟨gb259, 4, none⟩ = some (.int .i64 a0_4) := (qe BK259.out 4).trans rfl; have hfz6_0 := qb BK259.out 0; have hfz6_1 := qb BK259.out 1; have hfz6_2 := qb BK259.out 2; have hfz6_3 := qb BK259.out 3; have hfz6_4 := qb BK259.out 4) | ((with_reducible refine gate_callee (f := 70) rfl ?_); refine goesL_ (some 5) rfl rfl Try.func70 (by kernel_rfl) rfl #[.int .i64 a0_0, .int .i64 0, .int .i64 300] rfl (by (try simp only [List.map_toArray, List.map_cons, List.map_nil]); first | done | rfl | (simp only [List.length_drop, List.length_take]; rfl)) ?_; (with_reducible refine (impl_within.calls a0_0 0 300 true _ A2.out).mono ?_); rintro e w' ⟨rfl, ⟨nd, rfl⟩⟩; refine ⟨_, rfl, ?_⟩) | (go_at_call 71; (with_reducible refine (impl_ShardOk.calls k _ _ l0_1 a0_2 a0_3 a0_4 t261 _ ?side1 ?side2 A4.out).mono ?_); (case side1 => repeat (first | exact (Kd.C_below HR0_1.out (by repeat (first | (with_reducible first | exact HB.out | apply qc | apply qa | apply qd | refine qh ?_ GE259.out) | exact HB.out))) | (with_reducible refine Kd.C_alloc ?_ _) | (with_reducible refine Kd.C_drewN ?_ _) | (with_reducible refine Kd.C_drew ?_))); (case side2 => exact HC0_1.out); rintro e w7 ⟨rfl, hb⟩; have n0_ := Aside0.mk (ql (g := gb259) (o := .cells #[.int .i64 a0_0, .slice A0_1 l0_1.length c0_1, .int .i64 a0_2, .int .i64 a0_3, .int .i64 a0_4] 37 (0, 0)) (by (with_reducible repeat (first | refine qf ?_ _ | refine qi ?_ | refine qg ?_ _)); exact BK259.out) hb); have n1_ := Aside0.mk (qk (by repeat (first | (with_reducible first | exact HB.out | apply qc | apply qa | apply qd | refine qh ?_ GE259.out) | exact HB.out)) hb); clear BK259; clear HB; have BK259 := n0_; have HB := n1_; clear n0_ n1_; (try clear hb); (try clear hb2); (try clear hk); (try clear hi)))
  go_ret
  exact ⟨by first | rfl | (simp [errW_none, errW_some] <;> rfl) | (simp [*, errW_none, errW_some] <;> rfl), by repeat (first | (with_reducible first | exact HB.out | apply qc | apply qa | apply qd | refine qh ?_ GE259.out) | exact HB.out)⟩
 ·
  replace c3 := Bool.eq_false_iff.mpr c3
  subst c3
  have H1 : (some false) = some r := by rw [if_neg (show ¬ (false = true) by decide)] at H; exact H
  clear H
  have H := H1
  clear H1
  obtain rfl := Option.some.inj H
  go_enter Try.func23, Try.ntmps23
  go_wp2_with (first | ((with_reducible refine gate_dst (N := 1) rfl ?_); refine box_event ?hg (N := 1) ?hd (cs := #[.int .i64 a0_0, .slice A0_1 l0_1.length c0_1, .int .i64 a0_2, .int .i64 a0_3, .int .i64 a0_4]) (t := 37) ?hr ?_; (case hd => rfl); (case hg => rfl); (case hr => first | (go_simp; done) | (go_simp; rfl)); intro gb259 hg w8 hbox hb; have n0_ := Aside0.mk (qk (by repeat (first | (with_reducible first | exact HB.out | apply qc | apply qa | apply qd) | exact HB.out)) hb); have n1_ := Aside0.mk (hbox); have n2_ := Aside0.mk ((by rw [hg]; exact (qj (by repeat (first | (with_reducible first | exact HB.out | apply qc | apply qa | apply qd) | exact HB.out))) : w.heap.size ≤ gb259)); have n3_ := Aside0.mk ((by rw [hg]; exact (qj (by repeat (first | (with_reducible first | exact HB.out | apply qc | apply qa | apply qd) | exact HB.out))) : w.heap.size ≤ gb259)); clear HB; have HB := n0_; have BK259 := n1_; have GW259 := n2_; have GE259 := n3_; clear n0_ n1_ n2_ n3_; clear hb hbox hg; have hcz9_0 : w8.cell? ⟨gb259, 0, none⟩ = some (.int .i64 a0_0) := (qe BK259.out 0).trans rfl; have hcz9_1 : w8.cell? ⟨gb259, 1, none⟩ = some (.slice A0_1 l0_1.length c0_1) := (qe BK259.out 1).trans rfl; have hcz9_2 : w8.cell? ⟨gb259, 2, none⟩ = some (.int .i64 a0_2) := (qe BK259.out 2).trans rfl; have hcz9_3 : w8.cell? ⟨gb259, 3, none⟩ = some (.int .i64 a0_3) := (qe BK259.out 3).trans rfl; have hcz9_4 : w8.cell? ⟨gb259, 4, none⟩ = some (.int .i64 a0_4) := (qe BK259.out 4).trans rfl; have hfz9_0 := qb BK259.out 0; have hfz9_1 := qb BK259.out 1; have hfz9_2 := qb BK259.out 2; have hfz9_3 := qb BK259.out 3; have hfz9_4 := qb BK259.out 4) | ((with_reducible refine gate_callee (f := 70) rfl ?_); refine goesL_ (some 5) rfl rfl Try.func70 (by kernel_rfl) rfl #[.int .i64 a0_0, .int .i64 0, .int .i64 300] rfl (by (try simp only [List.map_toArray, List.map_cons, List.map_nil]); first | done | rfl | (simp only [List.length_drop, List.length_take]; rfl)) ?_; (with_reducible refine (impl_within.calls a0_0 0 300 false _ A2.out).mono ?_); rintro e w' ⟨rfl, ⟨nd, rfl⟩⟩; refine ⟨_, rfl, ?_⟩))
  go_ret
  exact ⟨by first | rfl | (simp [errW_none, errW_some] <;> rfl) | (simp [*, errW_none, errW_some] <;> rfl), by repeat (first | (with_reducible first | exact HB.out | apply qc | apply qa | apply qd | refine qh ?_ GE259.out) | exact HB.out)⟩

/-! ### impl_putNumber: function 79 -/
def impl_putNumber.l0 : Nat → List Int → Int → Int → Option (List Int)
 | 0, _, _, _ => none
 | k + 1, x0, x1, x7 => if x7 ≥ 0 then (if 0 ≤ (wrap64 (8 * x7)) then (if x0.length < 140737488355328 then (impl_putNumber.l0 k (x0 ++ [(shr .i64 x1 (wrap64 (8 * x7))) % 256]) x1 (wrap64 (x7 - 1))) else (none)) else (none)) else (some x0)
def impl_putNumber.f (k : Nat) (l0 : List Int) (a1 : Int) (a2 : Int) : Option (List Int) := impl_putNumber.l0 k l0 a1 (wrap64 (a2 - 1))
theorem impl_putNumber.mono_l : ∀ k, (∀ y0 y1 y2, LeO (impl_putNumber.l0 k y0 y1 y2) (impl_putNumber.l0 (k + 1) y0 y1 y2))
 | 0 => fun _ _ _ r h => by simp [impl_putNumber.l0] at h
 | k + 1 => by
  have ih0 := impl_putNumber.mono_l k
  ·
   intro y0 y1 y2
   unfold impl_putNumber.l0
   repeat' first
   | (with_reducible exact ih0 _ _ _)
   | (with_reducible exact LeO.refl _)
   | (with_reducible exact LeO.none _)
   | (with_reducible refine LeO.ite ?_ ?_)
   | (with_reducible refine LeO.bind ?_ (fun _ => ?_))
   | exact ih0 _ _ _
   | exact LeO.none _
   | refine LeO.ite ?_ ?_
   | refine LeO.bind ?_ (fun _ => ?_)
theorem impl_putNumber.mono : ∀ a0 a1 a2 k, LeO (impl_putNumber.f k a0 a1 a2) (impl_putNumber.f (k + 1) a0 a1 a2) := by
 intro a0 a1 a2 k
 have ih0 := impl_putNumber.mono_l k
 unfold impl_putNumber.f
 repeat' first
   | (with_reducible exact ih0 _ _ _)
   | (with_reducible exact LeO.refl _)
   | (with_reducible exact LeO.none _)
   | (with_reducible refine LeO.ite ?_ ?_)
   | (with_reducible refine LeO.bind ?_ (fun _ => ?_))
   | exact ih0 _ _ _
   | exact LeO.none _
   | refine LeO.ite ?_ ?_
   | refine LeO.bind ?_ (fun _ => ?_)
set_option maxHeartbeats 8000000 in
set_option maxRecDepth 100000 in
theorem impl_putNumber.calls (k : Nat) (P0_ : Nat → Prop) (u9000_ : Value) (l0 : List Int) (a1 : Int) (a2 : Int) (r : List Int) (w0 w : World) (hB : Below w0.heap.size w0 w) (ho0 : Kd.R (Kd.int .u8) 5 w w0.heap.size P0_ u9000_ l0) (h : impl_putNumber.f k l0 a1 a2 = some r) :
  Calls Try.prog 79 #[u9000_, .int .i64 a1, .int .i64 a2] w fun e w' => ∃ v0_ : Value, e = .returned (v0_) ∧ Kd.R (Kd.int .u8) 5 w' w0.heap.size (fun k_ => (P0_ k_ ∨ w.heap.size ≤ k_)) v0_ r ∧ Below w0.heap.size w0 w' ∧ Kept w w' (fun k_ => P0_ k_) := by
 have HO0 := Aside0.mk (show Kd.R (Kd.int .u8) 5 w w0.heap.size (fun k_ => (P0_ k_ ∨ w.heap.size ≤ k_)) u9000_ l0 from Kd.R_mono ho0 (fun k_ hk => (.inl hk)))
 have HK := Aside0.mk (Kept.refl w (fun k_ => P0_ k_))
 have HW0 := Aside0.mk hB.size
 have HB := Aside0.mk hB
 clear hB
 have H : (impl_putNumber.l0 k l0 a1 (wrap64 (a2 - 1))) = some r := h
 clear h
 have H' := Aside0.mk H
 clear H
 go_enter Try.func79, Try.ntmps79
 go_wp2
 go_loopg [0, 7] k (fun kq v0 v7 w' => ∃ (x0_1 : List Int) (x7_1 : Int), v7 = .int .i64 x7_1 ∧ Aside0 (impl_putNumber.l0 kq x0_1 a1 x7_1 = some r) ∧ Aside0 (kq ≤ k) ∧ Aside0 (Kd.R (Kd.int .u8) 5 w' w0.heap.size (fun k_ => (P0_ k_ ∨ w.heap.size ≤ k_)) v0 x0_1) ∧ Aside0 (Kept w w' (fun k_ => P0_ k_)) ∧ Aside0 (Below w0.heap.size w0 w'))
 case atStart => exact ⟨(l0), (wrap64 (a2 - 1)), (by first | rfl | (simp; done) | (simp [*]; done)), H', ⟨Nat.le_refl _⟩, ⟨by (with_reducible repeat (first | apply Kd.R_alloc | apply Kd.R_drewN | apply Kd.R_drew)); exact HO0.out⟩, ⟨by repeat (first | (with_reducible first | exact HK.out | apply Kept.alloc | apply Kept.drewN | apply Kept.drew) | exact HK.out)⟩, ⟨by repeat (first | (with_reducible first | exact HB.out | apply qc | apply qa | apply qd) | exact HB.out)⟩⟩
 case round =>
  clear H'
  try clear p2
  obtain ⟨x0_1, x7_1, rfl, HA, HK1, HO_0, HK, HB⟩ := hrel
  cases gk with
  | zero => exact absurd HA.out (by simp [impl_putNumber.l0])
  | succ k1 =>
   have H := HA.out
   clear HA
   simp only [impl_putNumber.l0] at H
   by_cases c4 : x7_1 ≥ 0
   ·
    rw [if_pos c4] at H
    have c4b0 : decide (0 ≤ x7_1) = true := decide_eq_true c4
    clear c4
    obtain ⟨ji5, hji5⟩ : ∃ j_ : Int, (wrap64 (8 * x7_1)) = j_ := ⟨_, rfl⟩
    replace H : (if 0 ≤ (ji5) then (if x0_1.length < 140737488355328 then (impl_putNumber.l0 k1 (x0_1 ++ [(shr .i64 a1 (ji5)) % 256]) a1 (wrap64 (x7_1 - 1))) else (none)) else (none)) = some r := by first | (rw [hji5] at H; exact H) | (simp only [hji5] at H ⊢; exact H)
    have hji5w : (IntKind.i64.wrap (8 * x7_1)) = ji5 := (i64_w _).trans hji5
    by_cases c6 : 0 ≤ (ji5)
    ·
     rw [if_pos c6] at H
     have c6b0 := eq_true c6
     have c6b1 : decide (0 ≤ (ji5)) = true := decide_eq_true c6
     clear c6
     obtain ⟨ji7, hji7⟩ : ∃ j_ : Int, (shr .i64 a1 (ji5)) = j_ := ⟨_, rfl⟩
     replace H : (if x0_1.length < 140737488355328 then (impl_putNumber.l0 k1 (x0_1 ++ [(ji7) % 256]) a1 (wrap64 (x7_1 - 1))) else (none)) = some r := by first | (rw [hji7] at H; exact H) | (simp only [hji7] at H ⊢; exact H)
     have hji7_ : (a1 / 2 ^ min (ji5).toNat 64) = ji7 := hji7
     have hji7z : (ji5) ≤ 64 → (a1 / 2 ^ (ji5).toNat) = ji7 := shr_small hji7
     by_cases c8 : x0_1.length < 140737488355328
     ·
      rw [if_pos c8] at H
      have LMc8 := Aside0.mk c8
      clear c8
      obtain ⟨y262, hy262⟩ : ∃ y_ : List Int, y_ = (x0_1 ++ [(ji7) % 256]) := ⟨_, rfl⟩
      replace H : (impl_putNumber.l0 k1 y262 a1 (wrap64 (x7_1 - 1))) = some r := by first | (rw [hy262]; with_reducible exact H) | (have H2_ := (Option.bind_some _ _).symm.trans H; rw [hy262]; with_reducible exact H2_) | (have H2_ := (Option.bind_some _ _).symm.trans H; with_reducible exact H2_) | with_reducible exact H | (rw [hy262]; exact H) | exact H
      have Ny262 := Aside0.mk hy262
      clear hy262
      have H' := Aside0.mk H
      clear H
      go_wp2_with (first | ((with_reducible refine gate_builtin (b := .append) (xs := #[.tmp 14, .tmp 20]) rfl ?_); at_builtin; refine Kd.R_append (Kd.int .u8) (w0 := w0) w0.heap.size rfl (.tmp 14) (.tmp 20) 49 5 (.int .u8 0) 1 rfl Try.underlying49 info5 rfl (by decide) (by omega) u0 x0_1 ((ji7) % 256) [.int .u8 ((ji7) % 256)] (fun k_ => (P0_ k_ ∨ w.heap.size ≤ k_)) (fun _ => False) rfl rfl ?aP (fun _ hk => hk.elim) ?aF ?aO ?aB ?aS ?aL ?_; (case aP => exact rfl); (case aB => exact (by repeat (first | (with_reducible first | exact HB.out | apply qc | apply qa | apply qd) | exact HB.out))); (case aF => exact (fun k_ hk => (.inr (Nat.le_trans (by first | exact HK.out.1 | exact (show Kept w _ (fun k_ => P0_ k_) from by repeat (first | (with_reducible first | exact HK.out | apply Kept.alloc | apply Kept.drewN | apply Kept.drew) | exact HK.out)).1) hk)))); (case aO => exact (by (with_reducible repeat (first | apply Kd.R_alloc | apply Kd.R_drewN | apply Kd.R_drew)); exact HO_0.out)); (case aS => exact (qj (by repeat (first | (with_reducible first | exact HB.out | apply qc | apply qa | apply qd) | exact HB.out)))); (case aL => have := LMc8.out; omega); intro v263 w9 ho hb hg hat; rw [← Ny262.out] at ho; have n0_ := Aside0.mk (hb); have n1_ := Aside0.mk (Kept.of_grown (S := (fun k_ => P0_ k_)) hg (by repeat (first | (with_reducible first | exact HK.out | apply Kept.alloc | apply Kept.drewN | apply Kept.drew) | exact HK.out)) (fun k_ e_ => (HO_0.out.1 k_ e_))); have n2_ := Aside0.mk (ho); clear HB; clear HK; clear HO_0; have HB := n0_; have HK := n1_; have HO264 := n2_; clear n0_ n1_ n2_; clear ho hb hg hat))
      go_roundg k1
      case measure => have := HK1.out; omega
      case rel => exact ⟨(y262), (wrap64 (x7_1 - 1)), (by first | rfl | (simp; done) | (simp [*]; done)), H', ⟨by have := HK1.out; omega⟩, ⟨by (with_reducible repeat (first | apply Kd.R_alloc | apply Kd.R_drewN | apply Kd.R_drew)); exact HO264.out⟩, ⟨by repeat (first | (with_reducible first | exact HK.out | apply Kept.alloc | apply Kept.drewN | apply Kept.drew) | exact HK.out)⟩, ⟨by repeat (first | (with_reducible first | exact HB.out | apply qc | apply qa | apply qd) | exact HB.out)⟩⟩
     ·
      rw [if_neg c8] at H
      exact absurd H (by simp)
    ·
     rw [if_neg c6] at H
     exact absurd H (by simp)
   ·
    rw [if_neg c4] at H
    have c4b0 : decide (0 ≤ x7_1) = false := decide_eq_false c4
    clear c4
    obtain rfl := Option.some.inj H
    go_wp2
    go_ret
    exact ⟨_, by first | rfl | (simp [errW_none, errW_some] <;> rfl) | (simp [*, errW_none, errW_some] <;> rfl), by (with_reducible repeat (first | apply Kd.R_alloc | apply Kd.R_drewN | apply Kd.R_drew)); exact HO_0.out, by repeat (first | (with_reducible first | exact HB.out | apply qc | apply qa | apply qd) | exact HB.out), by repeat (first | (with_reducible first | exact HK.out | apply Kept.alloc | apply Kept.drewN | apply Kept.drew) | exact HK.out)⟩

/-! ### impl_Check: function 80 -/
mutual
def impl_Check.l0 : Nat → Int → List Int → Int → Int → Option (Int)
 | 0, _, _, _, _ => none
 | k + 1, x3, x6, x7, x8 => if x8 < x7 then (if 0 ≤ x8 then (if x8 < (x6.length : Int) then (impl_Check.l1 k (Go.bits .xor .u32 x3 ((rd x6 x8) % 4294967296)) x6 x7 x8 0) else (none)) else (none)) else (some (wrap64 (Go.bits .xor .u32 4294967295 x3)))
def impl_Check.l1 : Nat → Int → List Int → Int → Int → Int → Option (Int)
 | 0, _, _, _, _, _ => none
 | k + 1, x3, x6, x7, x8, x16 => if x16 < 8 then (if (Go.bits .and .u32 x3 1) = 1 then (impl_Check.l1 k (Go.bits .xor .u32 (x3 / 2) 3988292384) x6 x7 x8 (wrap64 (x16 + 1))) else (impl_Check.l1 k (x3 / 2) x6 x7 x8 (wrap64 (x16 + 1)))) else (impl_Check.l0 k x3 x6 x7 (wrap64 (x8 + 1)))
end
def impl_Check.f (k : Nat) (l0 : List Int) : Option (Int) := impl_Check.l0 k 4294967295 l0 (l0.length : Int) 0
theorem impl_Check.mono_l : ∀ k, (∀ y0 y1 y2 y3, LeO (impl_Check.l0 k y0 y1 y2 y3) (impl_Check.l0 (k + 1) y0 y1 y2 y3)) ∧ (∀ y0 y1 y2 y3 y4, LeO (impl_Check.l1 k y0 y1 y2 y3 y4) (impl_Check.l1 (k + 1) y0 y1 y2 y3 y4))
 | 0 => ⟨fun _ _ _ _ r h => by simp [impl_Check.l0] at h, fun _ _ _ _ _ r h => by simp [impl_Check.l1] at h⟩
 | k + 1 => by
  obtain ⟨ih0, ih1⟩ := impl_Check.mono_l k
  refine ⟨?_, ?_⟩
  ·
   intro y0 y1 y2 y3
   unfold impl_Check.l0
   repeat' first
   | (with_reducible exact ih0 _ _ _ _)
   | (with_reducible exact ih1 _ _ _ _ _)
   | (with_reducible exact LeO.refl _)
   | (with_reducible exact LeO.none _)
   | (with_reducible refine LeO.ite ?_ ?_)
   | (with_reducible refine LeO.bind ?_ (fun _ => ?_))
   | exact ih0 _ _ _ _
   | exact ih1 _ _ _ _ _
   | exact LeO.none _
   | refine LeO.ite ?_ ?_
   | refine LeO.bind ?_ (fun _ => ?_)
  ·
   intro y0 y1 y2 y3 y4
   unfold impl_Check.l1
   repeat' first
   | (with_reducible exact ih0 _ _ _ _)
   | (with_reducible exact ih1 _ _ _ _ _)
   | (with_reducible exact LeO.refl _)
   | (with_reducible exact LeO.none _)
   | (with_reducible refine LeO.ite ?_ ?_)
   | (with_reducible refine LeO.bind ?_ (fun _ => ?_))
   | exact ih0 _ _ _ _
   | exact ih1 _ _ _ _ _
   | exact LeO.none _
   | refine LeO.ite ?_ ?_
   | refine LeO.bind ?_ (fun _ => ?_)
theorem impl_Check.mono : ∀ a0 k, LeO (impl_Check.f k a0) (impl_Check.f (k + 1) a0) := by
 intro a0 k
 obtain ⟨ih0, ih1⟩ := impl_Check.mono_l k
 unfold impl_Check.f
 repeat' first
   | (with_reducible exact ih0 _ _ _ _)
   | (with_reducible exact ih1 _ _ _ _ _)
   | (with_reducible exact LeO.refl _)
   | (with_reducible exact LeO.none _)
   | (with_reducible refine LeO.ite ?_ ?_)
   | (with_reducible refine LeO.bind ?_ (fun _ => ?_))
   | exact ih0 _ _ _ _
   | exact ih1 _ _ _ _ _
   | exact LeO.none _
   | refine LeO.ite ?_ ?_
   | refine LeO.bind ?_ (fun _ => ?_)
set_option maxHeartbeats 8000000 in
set_option maxRecDepth 100000 in
theorem impl_Check.calls (k : Nat) (A0 : Option Addr) (c0 : Nat) (l0 : List Int) (r : Int) (w : World) (hr0 : Kd.C (Kd.int .u8) w A0 l0.length l0) (hc0 : l0.length ≤ c0) (h : impl_Check.f k l0 = some r) :
  Calls Try.prog 80 #[.slice A0 l0.length c0] w fun e w' => e = .returned (.int .i64 r) ∧ Drawn0 w w' := by
 have HR0 := Aside0.mk hr0
 have HC0 := Aside0.mk hc0
 clear hr0 hc0
 have H : (impl_Check.l0 k 4294967295 l0 (l0.length : Int) 0) = some r := h
 clear h
 have H' := Aside0.mk H
 clear H
 go_enter Try.func80, Try.ntmps80
 go_wp2
 go_loopg [3, 8] k (fun kq v3 v8 w' => ∃ (x3_1 : Int) (x8_1 : Int), v3 = .int .u32 x3_1 ∧ v8 = .int .i64 x8_1 ∧ Aside0 (impl_Check.l0 kq x3_1 l0 (l0.length : Int) x8_1 = some r) ∧ Aside0 (kq ≤ k) ∧ Drawn0 w w')
 case atStart => exact ⟨(4294967295), (0), (by first | rfl | (simp; done) | (simp [*]; done)), (by first | rfl | (simp; done) | (simp [*]; done)), H', ⟨Nat.le_refl _⟩, by repeat (first | exact Drawn0.refl _ | apply Drawn0.step)⟩
 case round =>
  clear H'
  obtain ⟨x3_1, x8_1, rfl, rfl, HA, HK1, ⟨m1, rfl⟩⟩ := hrel
  cases gk with
  | zero => exact absurd HA.out (by simp [impl_Check.l0])
  | succ k1 =>
   have H := HA.out
   clear HA
   simp only [impl_Check.l0] at H
   by_cases c2 : x8_1 < (l0.length : Int)
   ·
    rw [if_pos c2] at H
    have c2b0 : decide (x8_1 < (l0.length : Int)) = true := decide_eq_true c2
    clear c2
    by_cases c3 : 0 ≤ x8_1
    ·
     rw [if_pos c3] at H
     have c3b0 : decide (0 ≤ x8_1) = true := decide_eq_true c3
     clear c3
     by_cases c4 : x8_1 < (l0.length : Int)
     ·
      rw [if_pos c4] at H
      have c4b0 : decide (x8_1 < (l0.length : Int)) = true := decide_eq_true c4
      clear c4
      have H' := Aside0.mk H
      clear H
      have p265 : 0 ≤ (x8_1 : Int) := of_decide_eq_true (by first | (with_reducible assumption) | assumption)
      have q265 : x8_1 < (l0.length : Int) := of_decide_eq_true (by first | (with_reducible assumption) | assumption)
      obtain ⟨ad265, e265, hx265_0⟩ := Kd.at_int HR0.out x8_1 p265 q265
      cases e265
      replace p265 := eq_true p265
      replace q265 := eq_true q265
      go_wp2
      go_loopg [3, 16] k1 (fun kq v3 v16 w' => ∃ (x3_2 : Int) (x16_2 : Int), v3 = .int .u32 x3_2 ∧ v16 = .int .i64 x16_2 ∧ Aside0 (impl_Check.l1 kq x3_2 l0 (l0.length : Int) x8_1 x16_2 = some r) ∧ Aside0 (kq ≤ k1) ∧ Drawn0 w w')
      case atStart => exact ⟨(Go.bits .xor .u32 x3_1 ((rd l0 x8_1) % 4294967296)), (0), (by first | rfl | (simp; done) | (simp [*]; done)), (by first | rfl | (simp; done) | (simp [*]; done)), H', ⟨Nat.le_refl _⟩, by repeat (first | exact Drawn0.refl _ | apply Drawn0.step)⟩
      case round =>
       clear H'
       try clear c2
       try clear c2b0
       try clear p2
       try clear q2
       try clear hx2
       try clear c3
       try clear c3b0
       try clear c4
       try clear c4b0
       try clear hx265_0
       try clear p265
       try clear q265
       obtain ⟨x3_2, x16_2, rfl, rfl, HA, HK2, ⟨m2, rfl⟩⟩ := hrel
       cases gk with
       | zero => exact absurd HA.out (by simp [impl_Check.l1])
       | succ k2 =>
        have H := HA.out
        clear HA
        simp only [impl_Check.l1] at H
        by_cases c5 : x16_2 < 8
        ·
         rw [if_pos c5] at H
         have c5b0 : decide (x16_2 < 8) = true := decide_eq_true c5
         clear c5
         by_cases c6 : (Go.bits .and .u32 x3_2 1) = 1
         ·
          rw [if_pos c6] at H
          have c6b0 : ((Go.bits .and .u32 x3_2 1) == 1) = true := beq_iff_eq.mpr c6
          have c6b1 : ((Go.bits .and .u32 x3_2 1) != 1) = false := bne_eq_false_iff_eq.mpr c6
          clear c6
          have H' := Aside0.mk H
          clear H
          go_wp2
          go_roundg k2
          case measure => have := HK1.out; have := HK2.out; omega
          case rel => exact ⟨(Go.bits .xor .u32 (x3_2 / 2) 3988292384), (wrap64 (x16_2 + 1)), (by first | rfl | (simp; done) | (simp [*]; done)), (by first | rfl | (simp; done) | (simp [*]; done)), H', ⟨by have := HK1.out; have := HK2.out; omega⟩, by repeat (first | exact Drawn0.refl _ | apply Drawn0.step)⟩
         ·
          rw [if_neg c6] at H
          have c6b0 : ((Go.bits .and .u32 x3_2 1) == 1) = false := beq_eq_false_iff_ne.mpr c6
          have c6b1 : ((Go.bits .and .u32 x3_2 1) != 1) = true := bne_iff_ne.mpr c6
          have H' := Aside0.mk H
          clear H
          go_wp2
          go_roundg k2
          case measure => have := HK1.out; have := HK2.out; omega
          case rel => exact ⟨(x3_2 / 2), (wrap64 (x16_2 + 1)), (by first | rfl | (simp; done) | (simp [*]; done)), (by first | rfl | (simp; done) | (simp [*]; done)), H', ⟨by have := HK1.out; have := HK2.out; omega⟩, by repeat (first | exact Drawn0.refl _ | apply Drawn0.step)⟩
        ·
         rw [if_neg c5] at H
         have c5b0 : decide (x16_2 < 8) = false := decide_eq_false c5
         clear c5
         have H' := Aside0.mk H
         clear H
         go_wp2
         go_roundg k2
         case measure => have := HK1.out; have := HK2.out; omega
         case rel => exact ⟨(x3_2), (wrap64 (x8_1 + 1)), (by first | rfl | (simp; done) | (simp [*]; done)), (by first | rfl | (simp; done) | (simp [*]; done)), H', ⟨by have := HK1.out; have := HK2.out; omega⟩, by repeat (first | exact Drawn0.refl _ | apply Drawn0.step)⟩
     ·
      rw [if_neg c4] at H
      exact absurd H (by simp)
    ·
     rw [if_neg c3] at H
     exact absurd H (by simp)
   ·
    rw [if_neg c2] at H
    have c2b0 : decide (x8_1 < (l0.length : Int)) = false := decide_eq_false c2
    clear c2
    obtain rfl := Option.some.inj H
    go_wp2
    go_ret
    exact ⟨by first | rfl | (simp; done) | (simp [*]; done), by repeat (first | exact Drawn0.refl _ | apply Drawn0.step)⟩

/-! ### impl_PutSave: function 33 -/
mutual
def impl_PutSave.l0 : Nat → List Int → List (S84) → Int → Int → Option (List Int × Bool)
 | 0, _, _, _, _ => none
 | k + 1, x5, x30, x31, x32 => if x32 < x31 then (if 0 ≤ x32 then (if x32 < (x30.length : Int) then ((some (([(rd_T84 x30 x32).f0, (rd_T84 x30 x32).f1, (rd_T84 x30 x32).f2, wrap64 (((rd_T84 x30 x32).f3) + 1000000000), wrap64 (((rd_T84 x30 x32).f4) + 1000000), wrap64 (((rd_T84 x30 x32).f5) + 1000000)] : List Int) : List Int)).bind fun y274 => (if x5.length + y274.length < 17592186044416 then (impl_PutSave.l0 k (x5 ++ y274) x30 x31 (wrap64 (x32 + 1))) else (none))) else (none)) else (none)) else (impl_PutSave.l1 k (([] : List Int)) x5 (x5.length : Int) 0)
def impl_PutSave.l1 : Nat → List Int → List Int → Int → Int → Option (List Int × Bool)
 | 0, _, _, _, _ => none
 | k + 1, x8, x56, x57, x58 => if x58 < x57 then (if 0 ≤ x58 then (if x58 < (x56.length : Int) then ((impl_putNumber.f k x8 (rd x56 x58) 4).bind fun t284 => (impl_PutSave.l1 k t284 x56 x57 (wrap64 (x58 + 1)))) else (none)) else (none)) else ((impl_Check.f k x8).bind fun t287 => ((impl_putNumber.f k x8 t287 4).bind fun t288 => (some (t288, true))))
end
def impl_PutSave.f (k : Nat) (a0_0 : Int) (l0_1 : List (S84)) (a0_2 : Int) (a0_3 : Int) (a0_4 : Int) : Option (List Int × Bool) := (impl_SaveOk.f k a0_0 l0_1 a0_2 a0_3 a0_4).bind fun t267 => (if t267 = true then (impl_PutSave.l0 k (([a0_0, wrap64 (a0_2 + 1), a0_3, a0_4, (l0_1.length : Int)] : List Int)) l0_1 (l0_1.length : Int) 0) else (some (([] : List Int), false)))
theorem impl_PutSave.mono_l : ∀ k, (∀ y0 y1 y2 y3, LeO (impl_PutSave.l0 k y0 y1 y2 y3) (impl_PutSave.l0 (k + 1) y0 y1 y2 y3)) ∧ (∀ y0 y1 y2 y3, LeO (impl_PutSave.l1 k y0 y1 y2 y3) (impl_PutSave.l1 (k + 1) y0 y1 y2 y3))
 | 0 => ⟨fun _ _ _ _ r h => by simp [impl_PutSave.l0] at h, fun _ _ _ _ r h => by simp [impl_PutSave.l1] at h⟩
 | k + 1 => by
  obtain ⟨ih0, ih1⟩ := impl_PutSave.mono_l k
  refine ⟨?_, ?_⟩
  ·
   intro y0 y1 y2 y3
   unfold impl_PutSave.l0
   repeat' first
   | (with_reducible exact ih0 _ _ _ _)
   | (with_reducible exact ih1 _ _ _ _)
   | (with_reducible exact impl_Check.mono _ _)
   | (with_reducible exact impl_SaveOk.mono _ _ _ _ _ _)
   | (with_reducible exact impl_putNumber.mono _ _ _ _)
   | (with_reducible exact LeO.refl _)
   | (with_reducible exact LeO.none _)
   | (with_reducible refine LeO.ite ?_ ?_)
   | (with_reducible refine LeO.bind ?_ (fun _ => ?_))
   | exact ih0 _ _ _ _
   | exact ih1 _ _ _ _
   | exact impl_Check.mono _ _
   | exact impl_SaveOk.mono _ _ _ _ _ _
   | exact impl_putNumber.mono _ _ _ _
   | exact LeO.none _
   | refine LeO.ite ?_ ?_
   | refine LeO.bind ?_ (fun _ => ?_)
  ·
   intro y0 y1 y2 y3
   unfold impl_PutSave.l1
   repeat' first
   | (with_reducible exact ih0 _ _ _ _)
   | (with_reducible exact ih1 _ _ _ _)
   | (with_reducible exact impl_Check.mono _ _)
   | (with_reducible exact impl_SaveOk.mono _ _ _ _ _ _)
   | (with_reducible exact impl_putNumber.mono _ _ _ _)
   | (with_reducible exact LeO.refl _)
   | (with_reducible exact LeO.none _)
   | (with_reducible refine LeO.ite ?_ ?_)
   | (with_reducible refine LeO.bind ?_ (fun _ => ?_))
   | exact ih0 _ _ _ _
   | exact ih1 _ _ _ _
   | exact impl_Check.mono _ _
   | exact impl_SaveOk.mono _ _ _ _ _ _
   | exact impl_putNumber.mono _ _ _ _
   | exact LeO.none _
   | refine LeO.ite ?_ ?_
   | refine LeO.bind ?_ (fun _ => ?_)
theorem impl_PutSave.mono : ∀ a0 a1 a2 a3 a4 k, LeO (impl_PutSave.f k a0 a1 a2 a3 a4) (impl_PutSave.f (k + 1) a0 a1 a2 a3 a4) := by
 intro a0 a1 a2 a3 a4 k
 obtain ⟨ih0, ih1⟩ := impl_PutSave.mono_l k
 unfold impl_PutSave.f
 repeat' first
   | (with_reducible exact ih0 _ _ _ _)
   | (with_reducible exact ih1 _ _ _ _)
   | (with_reducible exact impl_Check.mono _ _)
   | (with_reducible exact impl_SaveOk.mono _ _ _ _ _ _)
   | (with_reducible exact impl_putNumber.mono _ _ _ _)
   | (with_reducible exact LeO.refl _)
   | (with_reducible exact LeO.none _)
   | (with_reducible refine LeO.ite ?_ ?_)
   | (with_reducible refine LeO.bind ?_ (fun _ => ?_))
   | exact ih0 _ _ _ _
   | exact ih1 _ _ _ _
   | exact impl_Check.mono _ _
   | exact impl_SaveOk.mono _ _ _ _ _ _
   | exact impl_putNumber.mono _ _ _ _
   | exact LeO.none _
   | refine LeO.ite ?_ ?_
   | refine LeO.bind ?_ (fun _ => ?_)
set_option maxHeartbeats 8000000 in
set_option maxRecDepth 100000 in
theorem impl_PutSave.calls (k : Nat) (a0_0 : Int) (A0_1 : Option Addr) (c0_1 : Nat) (l0_1 : List (S84)) (a0_2 : Int) (a0_3 : Int) (a0_4 : Int) (r1 : List Int) (r2 : Bool) (w : World) (hr0_1 : Kd.C k84 w A0_1 l0_1.length l0_1) (hc0_1 : l0_1.length ≤ c0_1) (h : impl_PutSave.f k a0_0 l0_1 a0_2 a0_3 a0_4 = some (r1, r2)) :
  Calls Try.prog 33 #[.agg #[.int .i64 a0_0, .slice A0_1 l0_1.length c0_1, .int .i64 a0_2, .int .i64 a0_3, .int .i64 a0_4]] w fun e w' => ∃ v0_ : Value, e = .returned (.tuple #[v0_, .bool r2]) ∧ Kd.R (Kd.int .u8) 5 w' w.heap.size (fun _ => True) v0_ r1 ∧ Below w.heap.size w w' := by
 have hu37 := Try.underlying37
 have hu29 := Try.underlying29
 have hu84 := Try.underlying84
 have HR0_1 := Aside0.mk hr0_1
 have HC0_1 := Aside0.mk hc0_1
 clear hr0_1 hc0_1
 have HB := Aside0.mk (Below.refl w.heap.size w)
 have H : ((impl_SaveOk.f k a0_0 l0_1 a0_2 a0_3 a0_4).bind fun t267 => (if t267 = true then (impl_PutSave.l0 k (([a0_0, wrap64 (a0_2 + 1), a0_3, a0_4, (l0_1.length : Int)] : List Int)) l0_1 (l0_1.length : Int) 0) else (some (([] : List Int), false)))) = some (r1, r2) := h
 clear h
 replace H := Option.bind_eq_some_iff.mp H
 obtain ⟨t267, A20, H⟩ := H
 replace H : (if t267 = true then (impl_PutSave.l0 k (([a0_0, wrap64 (a0_2 + 1), a0_3, a0_4, (l0_1.length : Int)] : List Int)) l0_1 (l0_1.length : Int) 0) else (some (([] : List Int), false))) = some (r1, r2) := H
 have A2 := Aside0.mk A20
 clear A20
 by_cases c3 : t267 = true
 ·
  subst c3
  have H1 : (impl_PutSave.l0 k (([a0_0, wrap64 (a0_2 + 1), a0_3, a0_4, (l0_1.length : Int)] : List Int)) l0_1 (l0_1.length : Int) 0) = some (r1, r2) := by rw [if_pos rfl] at H; exact H
  clear H
  have H := H1
  clear H1
  obtain ⟨y269, hy269⟩ : ∃ y_ : List Int, y_ = (([a0_0, wrap64 (a0_2 + 1), a0_3, a0_4, (l0_1.length : Int)] : List Int)) := ⟨_, rfl⟩
  replace H : (impl_PutSave.l0 k y269 l0_1 (l0_1.length : Int) 0) = some (r1, r2) := by first | (rw [hy269]; with_reducible exact H) | (have H2_ := (Option.bind_some _ _).symm.trans H; rw [hy269]; with_reducible exact H2_) | (have H2_ := (Option.bind_some _ _).symm.trans H; with_reducible exact H2_) | with_reducible exact H | (rw [hy269]; exact H) | exact H
  have Ny269 := Aside0.mk hy269
  clear hy269
  have H' := Aside0.mk H
  clear H
  go_enter Try.func33, Try.ntmps33
  go_wp2_with (first | ((with_reducible refine gate_dst (N := 1) rfl ?_); refine box_event ?hg (N := 1) ?hd (cs := #[.int .i64 a0_0, .slice A0_1 l0_1.length c0_1, .int .i64 a0_2, .int .i64 a0_3, .int .i64 a0_4]) (t := 37) ?hr ?_; (case hd => rfl); (case hg => rfl); (case hr => first | (go_simp; done) | (go_simp; rfl)); intro gb266 hg w4 hbox hb; have n0_ := Aside0.mk (qk (by repeat (first | (with_reducible first | exact HB.out | apply qc | apply qa | apply qd) | exact HB.out)) hb); have n1_ := Aside0.mk (hbox); have n2_ := Aside0.mk ((by rw [hg]; exact (qj (by repeat (first | (with_reducible first | exact HB.out | apply qc | apply qa | apply qd) | exact HB.out))) : w.heap.size ≤ gb266)); have n3_ := Aside0.mk ((by rw [hg]; exact (qj (by repeat (first | (with_reducible first | exact HB.out | apply qc | apply qa | apply qd) | exact HB.out))) : w.heap.size ≤ gb266)); clear HB; have HB := n0_; have BK266 := n1_; have GW266 := n2_; have GE266 := n3_; clear n0_ n1_ n2_ n3_; clear hb hbox hg; have hcz5_0 : w4.cell? ⟨gb266, 0, none⟩ = some (.int .i64 a0_0) := (qe BK266.out 0).trans rfl; have hcz5_1 : w4.cell? ⟨gb266, 1, none⟩ = some (.slice A0_1 l0_1.length c0_1) := (qe BK266.out 1).trans rfl; have hcz5_2 : w4.cell? ⟨gb266, 2, none⟩ = some (.int .i64 a0_2) := (qe BK266.out 2).trans rfl; have hcz5_3 : w4.cell? ⟨gb266, 3, none⟩ = some (.int .i64 a0_3) := (qe BK266.out 3).trans rfl; have hcz5_4 : w4.cell? ⟨gb266, 4, none⟩ = some (.int .i64 a0_4) := (qe BK266.out 4).trans rfl; have hfz5_0 := qb BK266.out 0; have hfz5_1 := qb BK266.out 1; have hfz5_2 := qb BK266.out 2; have hfz5_3 := qb BK266.out 3; have hfz5_4 := qb BK266.out 4) | ((with_reducible refine gate_callee (f := 23) rfl ?_); refine goesL_ (some 12) rfl rfl Try.func23 (by kernel_rfl) rfl #[.agg #[.int .i64 a0_0, .slice A0_1 l0_1.length c0_1, .int .i64 a0_2, .int .i64 a0_3, .int .i64 a0_4]] rfl (by (try simp only [List.map_toArray, List.map_cons, List.map_nil]); first | done | rfl | (simp only [List.length_drop, List.length_take]; rfl)) ?_; (with_reducible refine (impl_SaveOk.calls k a0_0 _ _ l0_1 a0_2 a0_3 a0_4 true _ ?side1 ?side2 A2.out).mono ?_); (case side1 => repeat (first | exact (Kd.C_below HR0_1.out HB.out) | (with_reducible refine Kd.C_alloc ?_ _) | (with_reducible refine Kd.C_drewN ?_ _) | (with_reducible refine Kd.C_drew ?_))); (case side2 => exact HC0_1.out); rintro e w6 ⟨rfl, hb⟩; refine ⟨_, rfl, ?_⟩; have n0_ := Aside0.mk (ql (g := gb266) (o := .cells #[.int .i64 a0_0, .slice A0_1 l0_1.length c0_1, .int .i64 a0_2, .int .i64 a0_3, .int .i64 a0_4] 37 (0, 0)) (by (with_reducible repeat (first | refine qf ?_ _ | refine qi ?_ | refine qg ?_ _)); exact BK266.out) hb); have n1_ := Aside0.mk (qk (by repeat (first | (with_reducible first | exact HB.out | apply qc | apply qa | apply qd | refine qh ?_ GE266.out) | exact HB.out)) hb); clear BK266; clear HB; have BK266 := n0_; have HB := n1_; clear n0_ n1_; (try clear hb); (try clear hb2); (try clear hk); (try clear hi); have hcz7_0 : w6.cell? ⟨gb266, 0, none⟩ = some (.int .i64 a0_0) := (qe BK266.out 0).trans rfl; have hcz7_1 : w6.cell? ⟨gb266, 1, none⟩ = some (.slice A0_1 l0_1.length c0_1) := (qe BK266.out 1).trans rfl; have hcz7_2 : w6.cell? ⟨gb266, 2, none⟩ = some (.int .i64 a0_2) := (qe BK266.out 2).trans rfl; have hcz7_3 : w6.cell? ⟨gb266, 3, none⟩ = some (.int .i64 a0_3) := (qe BK266.out 3).trans rfl; have hcz7_4 : w6.cell? ⟨gb266, 4, none⟩ = some (.int .i64 a0_4) := (qe BK266.out 4).trans rfl; have hfz7_0 := qb BK266.out 0; have hfz7_1 := qb BK266.out 1; have hfz7_2 := qb BK266.out 2; have hfz7_3 := qb BK266.out 3; have hfz7_4 := qb BK266.out 4) | ((with_reducible refine gate_dst (N := 4) rfl ?_); refine box_event ?hg (N := 4) ?hd (cs := #[.slice none 0 0, .int .i64 0, .int .i64 0, .int .i64 0]) (t := 29) ?hr ?_; (case hd => rfl); (case hg => rfl); (case hr => first | (go_simp; done) | (go_simp; rfl)); intro gb268 hg w8 hbox hb; have n0_ := Aside0.mk (ql (g := gb266) (o := .cells #[.int .i64 a0_0, .slice A0_1 l0_1.length c0_1, .int .i64 a0_2, .int .i64 a0_3, .int .i64 a0_4] 37 (0, 0)) (by (with_reducible repeat (first | refine qf ?_ _ | refine qi ?_ | refine qg ?_ _)); exact BK266.out) hb); have n1_ := Aside0.mk (qk (by repeat (first | (with_reducible first | exact HB.out | apply qc | apply qa | apply qd | refine qh ?_ GE266.out) | exact HB.out)) hb); have n2_ := Aside0.mk (hbox); have n3_ := Aside0.mk ((by rw [hg]; exact (qj (by repeat (first | (with_reducible first | exact HB.out | apply qc | apply qa | apply qd | refine qh ?_ GE266.out) | exact HB.out))) : w.heap.size ≤ gb268)); have n4_ := Aside0.mk ((by rw [hg]; exact (qj (by repeat (first | (with_reducible first | exact HB.out | apply qc | apply qa | apply qd | refine qh ?_ GE266.out) | exact HB.out))) : w.heap.size ≤ gb268)); have n5_ := Aside0.mk ((by rw [hg]; exact Nat.ne_of_lt (blk_lt (g := gb266) (o := .cells #[.int .i64 a0_0, .slice A0_1 l0_1.length c0_1, .int .i64 a0_2, .int .i64 a0_3, .int .i64 a0_4] 37 (0, 0)) (by (with_reducible repeat (first | refine qf ?_ _ | refine qi ?_ | refine qg ?_ _)); exact BK266.out)) : gb266 ≠ gb268)); have n6_ := Aside0.mk ((by rw [hg]; exact Nat.ne_of_gt (blk_lt (g := gb266) (o := .cells #[.int .i64 a0_0, .slice A0_1 l0_1.length c0_1, .int .i64 a0_2, .int .i64 a0_3, .int .i64 a0_4] 37 (0, 0)) (by (with_reducible repeat (first | refine qf ?_ _ | refine qi ?_ | refine qg ?_ _)); exact BK266.out)) : gb268 ≠ gb266)); clear BK266; clear HB; have BK266 := n0_; have HB := n1_; have BK268 := n2_; have GW268 := n3_; have GE268 := n4_; have NB266_268 := n5_; have NB268_266 := n6_; clear n0_ n1_ n2_ n3_ n4_ n5_ n6_; clear hb hbox hg; have hnb9 := NB268_266.out; have hnc9 := NB266_268.out; have hcz10_0 : w8.cell? ⟨gb268, 0, none⟩ = some (.slice none 0 0) := (qe BK268.out 0).trans rfl; have hcz10_1 : w8.cell? ⟨gb268, 1, none⟩ = some (.int .i64 0) := (qe BK268.out 1).trans rfl; have hcz10_2 : w8.cell? ⟨gb268, 2, none⟩ = some (.int .i64 0) := (qe BK268.out 2).trans rfl; have hcz10_3 : w8.cell? ⟨gb268, 3, none⟩ = some (.int .i64 0) := (qe BK268.out 3).trans rfl; have hfz10_0 := qb BK268.out 0; have hfz10_1 := qb BK268.out 1; have hfz10_2 := qb BK268.out 2; have hfz10_3 := qb BK268.out 3; have hcz11_0 : w8.cell? ⟨gb266, 0, none⟩ = some (.int .i64 a0_0) := (qe BK266.out 0).trans rfl; have hcz11_1 : w8.cell? ⟨gb266, 1, none⟩ = some (.slice A0_1 l0_1.length c0_1) := (qe BK266.out 1).trans rfl; have hcz11_2 : w8.cell? ⟨gb266, 2, none⟩ = some (.int .i64 a0_2) := (qe BK266.out 2).trans rfl; have hcz11_3 : w8.cell? ⟨gb266, 3, none⟩ = some (.int .i64 a0_3) := (qe BK266.out 3).trans rfl; have hcz11_4 : w8.cell? ⟨gb266, 4, none⟩ = some (.int .i64 a0_4) := (qe BK266.out 4).trans rfl; have hfz11_0 := qb BK266.out 0; have hfz11_1 := qb BK266.out 1; have hfz11_2 := qb BK266.out 2; have hfz11_3 := qb BK266.out 3; have hfz11_4 := qb BK266.out 4) | ((with_reducible refine gate_dst (N := 28) rfl ?_); refine Kd.R_lit (Kd.int .i64) _ 3 ?hg (N := 28) ?hd (xs := ([a0_0, wrap64 (a0_2 + 1), a0_3, a0_4, (l0_1.length : Int)] : List Int)) (inner := [.int .i64 a0_0, .int .i64 (wrap64 (a0_2 + 1)), .int .i64 a0_3, .int .i64 a0_4, .int .i64 (l0_1.length : Int)]) (ok := fun _ => True) (okp := fun _ => True) ?hr ?hp (fun _ hk => hk) trivial (Below.refl _ _) (Nat.le_refl _) (by simp) ?_; (case hd => rfl); (case hg => rfl); (case hr => first | (go_simp; done) | (go_simp; rfl)); (case hp => exact (Reps.one (show Kd.M (Kd.int .i64) _ _ _ a0_0 [.int .i64 a0_0] from rfl) (Reps.one (show Kd.M (Kd.int .i64) _ _ _ (wrap64 (a0_2 + 1)) [.int .i64 (wrap64 (a0_2 + 1))] from rfl) (Reps.one (show Kd.M (Kd.int .i64) _ _ _ a0_3 [.int .i64 a0_3] from rfl) (Reps.one (show Kd.M (Kd.int .i64) _ _ _ a0_4 [.int .i64 a0_4] from rfl) (Reps.one (show Kd.M (Kd.int .i64) _ _ _ (l0_1.length : Int) [.int .i64 (l0_1.length : Int)] from rfl) (Reps.none _ _))))))); intro v270 w12 ho13 hb hg_ hnew_; clear hg_ hnew_; (first | rw [← Ny269.out] at ho13 | (simp only [Int.reduceToNat] at ho13; rw [← Ny269.out] at ho13)); have n0_ := Aside0.mk (Kd.R_lower ho13 (qj (by repeat (first | (with_reducible first | exact HB.out | apply qc | apply qa | apply qd | refine qh ?_ GE266.out | refine qh ?_ GE268.out) | exact HB.out)))); have n1_ := Aside0.mk (ql (g := gb266) (o := .cells #[.int .i64 a0_0, .slice A0_1 l0_1.length c0_1, .int .i64 a0_2, .int .i64 a0_3, .int .i64 a0_4] 37 (0, 0)) (by (with_reducible repeat (first | refine qf ?_ _ | refine qi ?_ | refine qg ?_ _)); refine blk_far ?_ NB266_268.out _; (with_reducible repeat (first | refine qf ?_ _ | refine qi ?_ | refine qg ?_ _)); refine blk_far ?_ NB266_268.out _; (with_reducible repeat (first | refine qf ?_ _ | refine qi ?_ | refine qg ?_ _)); refine blk_far ?_ NB266_268.out _; (with_reducible repeat (first | refine qf ?_ _ | refine qi ?_ | refine qg ?_ _)); refine blk_far ?_ NB266_268.out _; (with_reducible repeat (first | refine qf ?_ _ | refine qi ?_ | refine qg ?_ _)); exact BK266.out) hb); have n2_ := Aside0.mk (ql (g := gb268) (o := .cells #[.slice A0_1 l0_1.length c0_1, .int .i64 a0_2, .int .i64 a0_3, .int .i64 a0_4] 29 (0, 0)) (by (with_reducible repeat (first | refine qf ?_ _ | refine qi ?_ | refine qg ?_ _)); refine blk_put (cs := #[.slice A0_1 l0_1.length c0_1, .int .i64 a0_2, .int .i64 a0_3, .int .i64 0]) ?_ 3 _ rfl; (with_reducible repeat (first | refine qf ?_ _ | refine qi ?_ | refine qg ?_ _)); refine blk_put (cs := #[.slice A0_1 l0_1.length c0_1, .int .i64 a0_2, .int .i64 0, .int .i64 0]) ?_ 2 _ rfl; (with_reducible repeat (first | refine qf ?_ _ | refine qi ?_ | refine qg ?_ _)); refine blk_put (cs := #[.slice A0_1 l0_1.length c0_1, .int .i64 0, .int .i64 0, .int .i64 0]) ?_ 1 _ rfl; (with_reducible repeat (first | refine qf ?_ _ | refine qi ?_ | refine qg ?_ _)); refine blk_put (cs := #[.slice none 0 0, .int .i64 0, .int .i64 0, .int .i64 0]) ?_ 0 _ rfl; (with_reducible repeat (first | refine qf ?_ _ | refine qi ?_ | refine qg ?_ _)); exact BK268.out) hb); have n3_ := Aside0.mk (qk (by repeat (first | (with_reducible first | exact HB.out | apply qc | apply qa | apply qd | refine qh ?_ GE266.out | refine qh ?_ GE268.out) | exact HB.out)) hb); clear BK266; clear BK268; clear HB; have HO271 := n0_; have BK266 := n1_; have BK268 := n2_; have HB := n3_; clear n0_ n1_ n2_ n3_; clear hb ho13; have hcz14_0 : w12.cell? ⟨gb268, 0, none⟩ = some (.slice A0_1 l0_1.length c0_1) := (qe BK268.out 0).trans rfl; have hcz14_1 : w12.cell? ⟨gb268, 1, none⟩ = some (.int .i64 a0_2) := (qe BK268.out 1).trans rfl; have hcz14_2 : w12.cell? ⟨gb268, 2, none⟩ = some (.int .i64 a0_3) := (qe BK268.out 2).trans rfl; have hcz14_3 : w12.cell? ⟨gb268, 3, none⟩ = some (.int .i64 a0_4) := (qe BK268.out 3).trans rfl; have hfz14_0 := qb BK268.out 0; have hfz14_1 := qb BK268.out 1; have hfz14_2 := qb BK268.out 2; have hfz14_3 := qb BK268.out 3))
  go_loopg [5, 32] k (fun kq v5 v32 w' => ∃ (x5_1 : List Int) (x32_1 : Int), v32 = .int .i64 x32_1 ∧ Aside0 (impl_PutSave.l0 kq x5_1 l0_1 (l0_1.length : Int) x32_1 = some (r1, r2)) ∧ Aside0 (kq ≤ k) ∧ Aside0 (Kd.R (Kd.int .i64) 3 w' w.heap.size (fun _ => True) v5 x5_1) ∧ Aside0 (w'.heap[gb266]? = some (.cells #[.int .i64 a0_0, (.slice A0_1 l0_1.length c0_1), .int .i64 a0_2, .int .i64 a0_3, .int .i64 a0_4] 37 (0, 0))) ∧ Aside0 (w'.heap[gb268]? = some (.cells #[(.slice A0_1 l0_1.length c0_1), .int .i64 a0_2, .int .i64 a0_3, .int .i64 a0_4] 29 (0, 0))) ∧ Aside0 (Below w.heap.size w w'))
  case atStart => exact ⟨(y269), (0), (by first | rfl | (simp; done) | (simp [*]; done)), H', ⟨Nat.le_refl _⟩, ⟨by (with_reducible repeat (first | apply Kd.R_alloc | apply Kd.R_drewN | apply Kd.R_drew)); exact HO271.out⟩, ⟨by (with_reducible repeat (first | refine qf ?_ _ | refine qi ?_ | refine qg ?_ _)); exact BK266.out⟩, ⟨by (with_reducible repeat (first | refine qf ?_ _ | refine qi ?_ | refine qg ?_ _)); exact BK268.out⟩, ⟨by repeat (first | (with_reducible first | exact HB.out | apply qc | apply qa | apply qd | refine qh ?_ GE266.out | refine qh ?_ GE268.out) | exact HB.out)⟩⟩
  case round =>
   clear H'
   try clear c2
   try clear p2
   try clear c3
   try clear p6
   try clear c9
   try clear hcz10_0
   try clear hcz10_1
   try clear hcz10_2
   try clear hcz10_3
   try clear hcz11_0
   try clear hcz11_1
   try clear hcz11_2
   try clear hcz11_3
   try clear hcz11_4
   try clear hcz14_0
   try clear hcz14_1
   try clear hcz14_2
   try clear hcz14_3
   try clear hcz5_0
   try clear hcz5_1
   try clear hcz5_2
   try clear hcz5_3
   try clear hcz5_4
   try clear hcz7_0
   try clear hcz7_1
   try clear hcz7_2
   try clear hcz7_3
   try clear hcz7_4
   try clear hfz10_0
   try clear hfz10_1
   try clear hfz10_2
   try clear hfz10_3
   try clear hfz11_0
   try clear hfz11_1
   try clear hfz11_2
   try clear hfz11_3
   try clear hfz11_4
   try clear hfz14_0
   try clear hfz14_1
   try clear hfz14_2
   try clear hfz14_3
   try clear hfz5_0
   try clear hfz5_1
   try clear hfz5_2
   try clear hfz5_3
   try clear hfz5_4
   try clear hfz7_0
   try clear hfz7_1
   try clear hfz7_2
   try clear hfz7_3
   try clear hfz7_4
   obtain ⟨x5_1, x32_1, rfl, HA, HK1, HO_5, BK266, BK268, HB⟩ := hrel
   cases gk with
   | zero => exact absurd HA.out (by simp [impl_PutSave.l0])
   | succ k1 =>
    have H := HA.out
    clear HA
    simp only [impl_PutSave.l0] at H
    by_cases c15 : x32_1 < (l0_1.length : Int)
    ·
     rw [if_pos c15] at H
     have c15b0 : decide (x32_1 < (l0_1.length : Int)) = true := decide_eq_true c15
     clear c15
     by_cases c16 : 0 ≤ x32_1
     ·
      rw [if_pos c16] at H
      have c16b0 : decide (0 ≤ x32_1) = true := decide_eq_true c16
      clear c16
      by_cases c17 : x32_1 < (l0_1.length : Int)
      ·
       rw [if_pos c17] at H
       have c17b0 : decide (x32_1 < (l0_1.length : Int)) = true := decide_eq_true c17
       clear c17
       obtain ⟨y274, hy274⟩ : ∃ y_ : List Int, y_ = (([(rd_T84 l0_1 x32_1).f0, (rd_T84 l0_1 x32_1).f1, (rd_T84 l0_1 x32_1).f2, wrap64 (((rd_T84 l0_1 x32_1).f3) + 1000000000), wrap64 (((rd_T84 l0_1 x32_1).f4) + 1000000), wrap64 (((rd_T84 l0_1 x32_1).f5) + 1000000)] : List Int)) := ⟨_, rfl⟩
       replace H : (if x5_1.length + y274.length < 17592186044416 then (impl_PutSave.l0 k1 (x5_1 ++ y274) l0_1 (l0_1.length : Int) (wrap64 (x32_1 + 1))) else (none)) = some (r1, r2) := by first | (rw [hy274]; with_reducible exact H) | (have H2_ := (Option.bind_some _ _).symm.trans H; rw [hy274]; with_reducible exact H2_) | (have H2_ := (Option.bind_some _ _).symm.trans H; with_reducible exact H2_) | with_reducible exact H | (rw [hy274]; exact H) | exact H
       have Ny274 := Aside0.mk hy274
       clear hy274
       by_cases c18 : x5_1.length + y274.length < 17592186044416
       ·
        rw [if_pos c18] at H
        have LMc18 := Aside0.mk c18
        clear c18
        obtain ⟨y277, hy277⟩ : ∃ y_ : List Int, y_ = (x5_1 ++ y274) := ⟨_, rfl⟩
        replace H : (impl_PutSave.l0 k1 y277 l0_1 (l0_1.length : Int) (wrap64 (x32_1 + 1))) = some (r1, r2) := by first | (rw [hy277]; with_reducible exact H) | (have H2_ := (Option.bind_some _ _).symm.trans H; rw [hy277]; with_reducible exact H2_) | (have H2_ := (Option.bind_some _ _).symm.trans H; with_reducible exact H2_) | with_reducible exact H | (rw [hy277]; exact H) | exact H
        have Ny277 := Aside0.mk hy277
        clear hy277
        have H' := Aside0.mk H
        clear H
        have p272 : 0 ≤ (x32_1 : Int) := of_decide_eq_true (by first | (with_reducible assumption) | assumption)
        have q272 : x32_1 < (l0_1.length : Int) := of_decide_eq_true (by first | (with_reducible assumption) | assumption)
        obtain ⟨ad272, e272, hx272_0, hx272_1, hx272_2, hx272_3, hx272_4, hx272_5⟩ := at_T84 HR0_1.out x32_1 p272 q272
        cases e272
        replace hx272_0 := (HB.out.cell (World.block_lt_of_cell? w _ hx272_0)).trans hx272_0
        replace hx272_1 := (HB.out.cell (World.block_lt_of_cell? w _ hx272_1)).trans hx272_1
        replace hx272_2 := (HB.out.cell (World.block_lt_of_cell? w _ hx272_2)).trans hx272_2
        replace hx272_3 := (HB.out.cell (World.block_lt_of_cell? w _ hx272_3)).trans hx272_3
        replace hx272_4 := (HB.out.cell (World.block_lt_of_cell? w _ hx272_4)).trans hx272_4
        replace hx272_5 := (HB.out.cell (World.block_lt_of_cell? w _ hx272_5)).trans hx272_5
        replace p272 := eq_true p272
        replace q272 := eq_true q272
        go_wp2_with (first | ((with_reducible refine gate_dst (N := 7) rfl ?_); refine box_event ?hg (N := 7) ?hd (cs := #[.int .i64 0, .int .i64 0, .int .i64 0, .int .i64 0, .int .i64 0, .int .i64 0]) (t := 84) ?hr ?_; (case hd => rfl); (case hg => rfl); (case hr => first | (go_simp; done) | (go_simp; rfl)); intro gb273 hg w19 hbox hb; have n0_ := Aside0.mk (Kd.R_below (by (with_reducible repeat (first | apply Kd.R_alloc | apply Kd.R_drewN | apply Kd.R_drew)); exact HO_5.out) hb); have n1_ := Aside0.mk (ql (g := gb266) (o := .cells #[.int .i64 a0_0, .slice (some ad272) l0_1.length c0_1, .int .i64 a0_2, .int .i64 a0_3, .int .i64 a0_4] 37 (0, 0)) (by (with_reducible repeat (first | refine qf ?_ _ | refine qi ?_ | refine qg ?_ _)); exact BK266.out) hb); have n2_ := Aside0.mk (ql (g := gb268) (o := .cells #[.slice (some ad272) l0_1.length c0_1, .int .i64 a0_2, .int .i64 a0_3, .int .i64 a0_4] 29 (0, 0)) (by (with_reducible repeat (first | refine qf ?_ _ | refine qi ?_ | refine qg ?_ _)); exact BK268.out) hb); have n3_ := Aside0.mk (qk (by repeat (first | (with_reducible first | exact HB.out | apply qc | apply qa | apply qd | refine qh ?_ GE266.out | refine qh ?_ GE268.out) | exact HB.out)) hb); have n4_ := Aside0.mk (hbox); have n5_ := Aside0.mk ((by rw [hg]; exact (qj (by repeat (first | (with_reducible first | exact HB.out | apply qc | apply qa | apply qd | refine qh ?_ GE266.out | refine qh ?_ GE268.out) | exact HB.out))) : w.heap.size ≤ gb273)); have n6_ := Aside0.mk ((by rw [hg]; exact (qj (by repeat (first | (with_reducible first | exact HB.out | apply qc | apply qa | apply qd | refine qh ?_ GE266.out | refine qh ?_ GE268.out) | exact HB.out))) : w.heap.size ≤ gb273)); have n7_ := Aside0.mk ((by rw [hg]; exact Nat.ne_of_lt (blk_lt (g := gb266) (o := .cells #[.int .i64 a0_0, .slice (some ad272) l0_1.length c0_1, .int .i64 a0_2, .int .i64 a0_3, .int .i64 a0_4] 37 (0, 0)) (by (with_reducible repeat (first | refine qf ?_ _ | refine qi ?_ | refine qg ?_ _)); exact BK266.out)) : gb266 ≠ gb273)); have n8_ := Aside0.mk ((by rw [hg]; exact Nat.ne_of_gt (blk_lt (g := gb266) (o := .cells #[.int .i64 a0_0, .slice (some ad272) l0_1.length c0_1, .int .i64 a0_2, .int .i64 a0_3, .int .i64 a0_4] 37 (0, 0)) (by (with_reducible repeat (first | refine qf ?_ _ | refine qi ?_ | refine qg ?_ _)); exact BK266.out)) : gb273 ≠ gb266)); have n9_ := Aside0.mk ((by rw [hg]; exact Nat.ne_of_lt (blk_lt (g := gb268) (o := .cells #[.slice (some ad272) l0_1.length c0_1, .int .i64 a0_2, .int .i64 a0_3, .int .i64 a0_4] 29 (0, 0)) (by (with_reducible repeat (first | refine qf ?_ _ | refine qi ?_ | refine qg ?_ _)); exact BK268.out)) : gb268 ≠ gb273)); have n10_ := Aside0.mk ((by rw [hg]; exact Nat.ne_of_gt (blk_lt (g := gb268) (o := .cells #[.slice (some ad272) l0_1.length c0_1, .int .i64 a0_2, .int .i64 a0_3, .int .i64 a0_4] 29 (0, 0)) (by (with_reducible repeat (first | refine qf ?_ _ | refine qi ?_ | refine qg ?_ _)); exact BK268.out)) : gb273 ≠ gb268)); clear HO_5; clear BK266; clear BK268; clear HB; have HO_5 := n0_; have BK266 := n1_; have BK268 := n2_; have HB := n3_; have BK273 := n4_; have GW273 := n5_; have GE273 := n6_; have NB266_273 := n7_; have NB273_266 := n8_; have NB268_273 := n9_; have NB273_268 := n10_; clear n0_ n1_ n2_ n3_ n4_ n5_ n6_ n7_ n8_ n9_ n10_; clear hb hbox hg; have hnb20 := NB273_266.out; have hnc20 := NB266_273.out; have hnb21 := NB273_268.out; have hnc21 := NB268_273.out; have hcz22_0 : w19.cell? ⟨gb273, 0, none⟩ = some (.int .i64 0) := (qe BK273.out 0).trans rfl; have hcz22_1 : w19.cell? ⟨gb273, 1, none⟩ = some (.int .i64 0) := (qe BK273.out 1).trans rfl; have hcz22_2 : w19.cell? ⟨gb273, 2, none⟩ = some (.int .i64 0) := (qe BK273.out 2).trans rfl; have hcz22_3 : w19.cell? ⟨gb273, 3, none⟩ = some (.int .i64 0) := (qe BK273.out 3).trans rfl; have hcz22_4 : w19.cell? ⟨gb273, 4, none⟩ = some (.int .i64 0) := (qe BK273.out 4).trans rfl; have hcz22_5 : w19.cell? ⟨gb273, 5, none⟩ = some (.int .i64 0) := (qe BK273.out 5).trans rfl; have hfz22_0 := qb BK273.out 0; have hfz22_1 := qb BK273.out 1; have hfz22_2 := qb BK273.out 2; have hfz22_3 := qb BK273.out 3; have hfz22_4 := qb BK273.out 4; have hfz22_5 := qb BK273.out 5) | ((with_reducible refine gate_dst (N := 52) rfl ?_); refine Kd.R_lit (Kd.int .i64) _ 3 ?hg (N := 52) ?hd (xs := ([(rd_T84 l0_1 x32_1).f0, (rd_T84 l0_1 x32_1).f1, (rd_T84 l0_1 x32_1).f2, wrap64 (((rd_T84 l0_1 x32_1).f3) + 1000000000), wrap64 (((rd_T84 l0_1 x32_1).f4) + 1000000), wrap64 (((rd_T84 l0_1 x32_1).f5) + 1000000)] : List Int)) (inner := [.int .i64 ((rd_T84 l0_1 x32_1).f0), .int .i64 ((rd_T84 l0_1 x32_1).f1), .int .i64 ((rd_T84 l0_1 x32_1).f2), .int .i64 (wrap64 (((rd_T84 l0_1 x32_1).f3) + 1000000000)), .int .i64 (wrap64 (((rd_T84 l0_1 x32_1).f4) + 1000000)), .int .i64 (wrap64 (((rd_T84 l0_1 x32_1).f5) + 1000000))]) (ok := fun _ => True) (okp := fun _ => True) ?hr ?hp (fun _ hk => hk) trivial (Below.refl _ _) (Nat.le_refl _) (by simp) ?_; (case hd => rfl); (case hg => rfl); (case hr => first | (go_simp; done) | (go_simp; rfl)); (case hp => exact (Reps.one (show Kd.M (Kd.int .i64) _ _ _ ((rd_T84 l0_1 x32_1).f0) [.int .i64 ((rd_T84 l0_1 x32_1).f0)] from rfl) (Reps.one (show Kd.M (Kd.int .i64) _ _ _ ((rd_T84 l0_1 x32_1).f1) [.int .i64 ((rd_T84 l0_1 x32_1).f1)] from rfl) (Reps.one (show Kd.M (Kd.int .i64) _ _ _ ((rd_T84 l0_1 x32_1).f2) [.int .i64 ((rd_T84 l0_1 x32_1).f2)] from rfl) (Reps.one (show Kd.M (Kd.int .i64) _ _ _ (wrap64 (((rd_T84 l0_1 x32_1).f3) + 1000000000)) [.int .i64 (wrap64 (((rd_T84 l0_1 x32_1).f3) + 1000000000))] from rfl) (Reps.one (show Kd.M (Kd.int .i64) _ _ _ (wrap64 (((rd_T84 l0_1 x32_1).f4) + 1000000)) [.int .i64 (wrap64 (((rd_T84 l0_1 x32_1).f4) + 1000000))] from rfl) (Reps.one (show Kd.M (Kd.int .i64) _ _ _ (wrap64 (((rd_T84 l0_1 x32_1).f5) + 1000000)) [.int .i64 (wrap64 (((rd_T84 l0_1 x32_1).f5) + 1000000))] from rfl) (Reps.none _ _)))))))); intro v275 w23 ho24 hb hg_ hnew_; clear hg_ hnew_; (first | rw [← Ny274.out] at ho24 | (simp only [Int.reduceToNat] at ho24; rw [← Ny274.out] at ho24)); have n0_ := Aside0.mk (Kd.R_elder' (by (with_reducible repeat (first | apply Kd.R_alloc | apply Kd.R_drewN | apply Kd.R_drew)); exact (Kd.R_mono (Kd.R_far (p := ⟨gb273, 5, none⟩) (Kd.R_far (p := ⟨gb273, 4, none⟩) (Kd.R_far (p := ⟨gb273, 3, none⟩) (Kd.R_far (p := ⟨gb273, 2, none⟩) (Kd.R_far (p := ⟨gb273, 1, none⟩) (Kd.R_far (p := ⟨gb273, 0, none⟩) (Kd.R_types HO_5.out BK273.out (by decide)) (fun _ hk => hk.2) (.int .i64 ((rd_T84 l0_1 x32_1).f0))) (fun _ hk => hk.2) (.int .i64 ((rd_T84 l0_1 x32_1).f1))) (fun _ hk => hk.2) (.int .i64 ((rd_T84 l0_1 x32_1).f2))) (fun _ hk => hk.2) (.int .i64 ((rd_T84 l0_1 x32_1).f3))) (fun _ hk => hk.2) (.int .i64 ((rd_T84 l0_1 x32_1).f4))) (fun _ hk => hk.2) (.int .i64 ((rd_T84 l0_1 x32_1).f5))) (fun _ h_ => h_.1))) (Kd.R_base ho24) hb); have n1_ := Aside0.mk (Kd.R_lower (Kd.R_new' ho24 (Kd.R_lt (by (with_reducible repeat (first | apply Kd.R_alloc | apply Kd.R_drewN | apply Kd.R_drew)); exact (Kd.R_mono (Kd.R_far (p := ⟨gb273, 5, none⟩) (Kd.R_far (p := ⟨gb273, 4, none⟩) (Kd.R_far (p := ⟨gb273, 3, none⟩) (Kd.R_far (p := ⟨gb273, 2, none⟩) (Kd.R_far (p := ⟨gb273, 1, none⟩) (Kd.R_far (p := ⟨gb273, 0, none⟩) (Kd.R_types HO_5.out BK273.out (by decide)) (fun _ hk => hk.2) (.int .i64 ((rd_T84 l0_1 x32_1).f0))) (fun _ hk => hk.2) (.int .i64 ((rd_T84 l0_1 x32_1).f1))) (fun _ hk => hk.2) (.int .i64 ((rd_T84 l0_1 x32_1).f2))) (fun _ hk => hk.2) (.int .i64 ((rd_T84 l0_1 x32_1).f3))) (fun _ hk => hk.2) (.int .i64 ((rd_T84 l0_1 x32_1).f4))) (fun _ hk => hk.2) (.int .i64 ((rd_T84 l0_1 x32_1).f5))) (fun _ h_ => h_.1))))) (qj (by repeat (first | (with_reducible first | exact HB.out | apply qc | apply qa | apply qd | refine qh ?_ GE266.out | refine qh ?_ GE268.out | refine qh ?_ GE273.out) | exact HB.out)))); have n2_ := Aside0.mk (ql (g := gb266) (o := .cells #[.int .i64 a0_0, .slice (some ad272) l0_1.length c0_1, .int .i64 a0_2, .int .i64 a0_3, .int .i64 a0_4] 37 (0, 0)) (by (with_reducible repeat (first | refine qf ?_ _ | refine qi ?_ | refine qg ?_ _)); refine blk_far ?_ NB266_273.out _; (with_reducible repeat (first | refine qf ?_ _ | refine qi ?_ | refine qg ?_ _)); refine blk_far ?_ NB266_273.out _; (with_reducible repeat (first | refine qf ?_ _ | refine qi ?_ | refine qg ?_ _)); refine blk_far ?_ NB266_273.out _; (with_reducible repeat (first | refine qf ?_ _ | refine qi ?_ | refine qg ?_ _)); refine blk_far ?_ NB266_273.out _; (with_reducible repeat (first | refine qf ?_ _ | refine qi ?_ | refine qg ?_ _)); refine blk_far ?_ NB266_273.out _; (with_reducible repeat (first | refine qf ?_ _ | refine qi ?_ | refine qg ?_ _)); refine blk_far ?_ NB266_273.out _; (with_reducible repeat (first | refine qf ?_ _ | refine qi ?_ | refine qg ?_ _)); exact BK266.out) hb); have n3_ := Aside0.mk (ql (g := gb268) (o := .cells #[.slice (some ad272) l0_1.length c0_1, .int .i64 a0_2, .int .i64 a0_3, .int .i64 a0_4] 29 (0, 0)) (by (with_reducible repeat (first | refine qf ?_ _ | refine qi ?_ | refine qg ?_ _)); refine blk_far ?_ NB268_273.out _; (with_reducible repeat (first | refine qf ?_ _ | refine qi ?_ | refine qg ?_ _)); refine blk_far ?_ NB268_273.out _; (with_reducible repeat (first | refine qf ?_ _ | refine qi ?_ | refine qg ?_ _)); refine blk_far ?_ NB268_273.out _; (with_reducible repeat (first | refine qf ?_ _ | refine qi ?_ | refine qg ?_ _)); refine blk_far ?_ NB268_273.out _; (with_reducible repeat (first | refine qf ?_ _ | refine qi ?_ | refine qg ?_ _)); refine blk_far ?_ NB268_273.out _; (with_reducible repeat (first | refine qf ?_ _ | refine qi ?_ | refine qg ?_ _)); refine blk_far ?_ NB268_273.out _; (with_reducible repeat (first | refine qf ?_ _ | refine qi ?_ | refine qg ?_ _)); exact BK268.out) hb); have n4_ := Aside0.mk (ql (g := gb273) (o := .cells #[.int .i64 ((rd_T84 l0_1 x32_1).f0), .int .i64 ((rd_T84 l0_1 x32_1).f1), .int .i64 ((rd_T84 l0_1 x32_1).f2), .int .i64 ((rd_T84 l0_1 x32_1).f3), .int .i64 ((rd_T84 l0_1 x32_1).f4), .int .i64 ((rd_T84 l0_1 x32_1).f5)] 84 (0, 0)) (by (with_reducible repeat (first | refine qf ?_ _ | refine qi ?_ | refine qg ?_ _)); refine blk_put (cs := #[.int .i64 ((rd_T84 l0_1 x32_1).f0), .int .i64 ((rd_T84 l0_1 x32_1).f1), .int .i64 ((rd_T84 l0_1 x32_1).f2), .int .i64 ((rd_T84 l0_1 x32_1).f3), .int .i64 ((rd_T84 l0_1 x32_1).f4), .int .i64 0]) ?_ 5 _ rfl; (with_reducible repeat (first | refine qf ?_ _ | refine qi ?_ | refine qg ?_ _)); refine blk_put (cs := #[.int .i64 ((rd_T84 l0_1 x32_1).f0), .int .i64 ((rd_T84 l0_1 x32_1).f1), .int .i64 ((rd_T84 l0_1 x32_1).f2), .int .i64 ((rd_T84 l0_1 x32_1).f3), .int .i64 0, .int .i64 0]) ?_ 4 _ rfl; (with_reducible repeat (first | refine qf ?_ _ | refine qi ?_ | refine qg ?_ _)); refine blk_put (cs := #[.int .i64 ((rd_T84 l0_1 x32_1).f0), .int .i64 ((rd_T84 l0_1 x32_1).f1), .int .i64 ((rd_T84 l0_1 x32_1).f2), .int .i64 0, .int .i64 0, .int .i64 0]) ?_ 3 _ rfl; (with_reducible repeat (first | refine qf ?_ _ | refine qi ?_ | refine qg ?_ _)); refine blk_put (cs := #[.int .i64 ((rd_T84 l0_1 x32_1).f0), .int .i64 ((rd_T84 l0_1 x32_1).f1), .int .i64 0, .int .i64 0, .int .i64 0, .int .i64 0]) ?_ 2 _ rfl; (with_reducible repeat (first | refine qf ?_ _ | refine qi ?_ | refine qg ?_ _)); refine blk_put (cs := #[.int .i64 ((rd_T84 l0_1 x32_1).f0), .int .i64 0, .int .i64 0, .int .i64 0, .int .i64 0, .int .i64 0]) ?_ 1 _ rfl; (with_reducible repeat (first | refine qf ?_ _ | refine qi ?_ | refine qg ?_ _)); refine blk_put (cs := #[.int .i64 0, .int .i64 0, .int .i64 0, .int .i64 0, .int .i64 0, .int .i64 0]) ?_ 0 _ rfl; (with_reducible repeat (first | refine qf ?_ _ | refine qi ?_ | refine qg ?_ _)); exact BK273.out) hb); have n5_ := Aside0.mk (qk (by repeat (first | (with_reducible first | exact HB.out | apply qc | apply qa | apply qd | refine qh ?_ GE266.out | refine qh ?_ GE268.out | refine qh ?_ GE273.out) | exact HB.out)) hb); clear HO_5; clear BK266; clear BK268; clear BK273; clear HB; have HO_5 := n0_; have HO276 := n1_; have BK266 := n2_; have BK268 := n3_; have BK273 := n4_; have HB := n5_; clear n0_ n1_ n2_ n3_ n4_ n5_; clear hb ho24; obtain ⟨Ao26, co26, eo26⟩ := Kd.R_slice HO276.out; subst eo26) | ((with_reducible refine gate_builtin (b := .append) (xs := #[.tmp 36, .tmp 52]) rfl ?_); at_builtin; refine Kd.R_append_rows (Kd.int .i64) (w0 := w) w.heap.size rfl (.tmp 36) (.tmp 52) 92 3 (.int .i64 0) 8 rfl Try.underlying92 info3 rfl (by decide) (by omega) u5 x5_1 y274 _ _ _ (fun k_ => some k_ ≠ (.slice Ao26 y274.length co26 : Value).ownBlock) (fun _ => False) rfl rfl ?aO ?aR (fun _ _ h => h) (fun _ h => h.elim) ?aF ?aB ?aS ?aL ?_; (case aR => repeat (first | exact (Kd.R_reads' HO276.out).2.2 | (with_reducible refine Kd.C_alloc ?_ _) | (with_reducible refine Kd.C_drewN ?_ _) | (with_reducible refine Kd.C_drew ?_))); (case aB => exact (by repeat (first | (with_reducible first | exact HB.out | apply qc | apply qa | apply qd | refine qh ?_ GE266.out | refine qh ?_ GE268.out | refine qh ?_ GE273.out) | exact HB.out))); (case aF => exact (fun k_ hk => Kd.fresh' (Kd.R_lt (by (with_reducible repeat (first | apply Kd.R_alloc | apply Kd.R_drewN | apply Kd.R_drew)); exact HO276.out)) k_ hk)); (case aO => exact (by (with_reducible repeat (first | apply Kd.R_alloc | apply Kd.R_drewN | apply Kd.R_drew)); exact Kd.R_mono HO_5.out (fun _ hk => hk.2))); (case aS => exact (qj (by repeat (first | (with_reducible first | exact HB.out | apply qc | apply qa | apply qd | refine qh ?_ GE266.out | refine qh ?_ GE268.out | refine qh ?_ GE273.out) | exact HB.out)))); (case aL => have := LMc18.out; omega); intro v278 w25 ho hb hg hat; rw [← Ny277.out] at ho; have n0_ := Aside0.mk (blk_grown (g := gb266) (o := .cells #[.int .i64 a0_0, .slice (some ad272) l0_1.length c0_1, .int .i64 a0_2, .int .i64 a0_3, .int .i64 a0_4] 37 (0, 0)) (by (with_reducible repeat (first | refine qf ?_ _ | refine qi ?_ | refine qg ?_ _)); exact BK266.out) hg (Kd.R_ne HO_5.out BK266.out (by decide))); have n1_ := Aside0.mk (blk_grown (g := gb268) (o := .cells #[.slice (some ad272) l0_1.length c0_1, .int .i64 a0_2, .int .i64 a0_3, .int .i64 a0_4] 29 (0, 0)) (by (with_reducible repeat (first | refine qf ?_ _ | refine qi ?_ | refine qg ?_ _)); exact BK268.out) hg (Kd.R_ne HO_5.out BK268.out (by decide))); have n2_ := Aside0.mk (blk_grown (g := gb273) (o := .cells #[.int .i64 ((rd_T84 l0_1 x32_1).f0), .int .i64 ((rd_T84 l0_1 x32_1).f1), .int .i64 ((rd_T84 l0_1 x32_1).f2), .int .i64 ((rd_T84 l0_1 x32_1).f3), .int .i64 ((rd_T84 l0_1 x32_1).f4), .int .i64 ((rd_T84 l0_1 x32_1).f5)] 84 (0, 0)) (by (with_reducible repeat (first | refine qf ?_ _ | refine qi ?_ | refine qg ?_ _)); exact BK273.out) hg (Kd.R_ne HO_5.out BK273.out (by decide))); have n3_ := Aside0.mk (Kd.R_after (ok := (fun _ => True)) (by (with_reducible repeat (first | apply Kd.R_alloc | apply Kd.R_drewN | apply Kd.R_drew)); exact HO276.out) hg hat); have n4_ := Aside0.mk (hb); have n5_ := Aside0.mk (ho); clear BK266; clear BK268; clear BK273; clear HO276; clear HB; clear HO_5; have BK266 := n0_; have BK268 := n1_; have BK273 := n2_; have HO276 := n3_; have HB := n4_; have HO279 := n5_; clear n0_ n1_ n2_ n3_ n4_ n5_; clear ho hb hg hat))
        go_roundg k1
        case measure => have := HK1.out; omega
        case rel => exact ⟨(y277), (wrap64 (x32_1 + 1)), (by first | rfl | (simp; done) | (simp [*]; done)), H', ⟨by have := HK1.out; omega⟩, ⟨by (with_reducible repeat (first | apply Kd.R_alloc | apply Kd.R_drewN | apply Kd.R_drew)); exact Kd.R_mono HO279.out (fun _ hk => trivial)⟩, ⟨by (with_reducible repeat (first | refine qf ?_ _ | refine qi ?_ | refine qg ?_ _)); exact BK266.out⟩, ⟨by (with_reducible repeat (first | refine qf ?_ _ | refine qi ?_ | refine qg ?_ _)); exact BK268.out⟩, ⟨by repeat (first | (with_reducible first | exact HB.out | apply qc | apply qa | apply qd | refine qh ?_ GE266.out | refine qh ?_ GE268.out | refine qh ?_ GE273.out) | exact HB.out)⟩⟩
       ·
        rw [if_neg c18] at H
        exact absurd H (by simp)
      ·
       rw [if_neg c17] at H
       exact absurd H (by simp)
     ·
      rw [if_neg c16] at H
      exact absurd H (by simp)
    ·
     rw [if_neg c15] at H
     have c15b0 : decide (x32_1 < (l0_1.length : Int)) = false := decide_eq_false c15
     clear c15
     obtain ⟨y280, hy280⟩ : ∃ y_ : List Int, y_ = (([] : List Int)) := ⟨_, rfl⟩
     replace H : (impl_PutSave.l1 k1 y280 x5_1 (x5_1.length : Int) 0) = some (r1, r2) := by first | (rw [hy280]; with_reducible exact H) | (have H2_ := (Option.bind_some _ _).symm.trans H; rw [hy280]; with_reducible exact H2_) | (have H2_ := (Option.bind_some _ _).symm.trans H; with_reducible exact H2_) | with_reducible exact H | (rw [hy280]; exact H) | exact H
     have Ny280 := Aside0.mk hy280
     clear hy280
     have H' := Aside0.mk H
     clear H
     go_wp2_with (first | ((with_reducible refine gate_dst (N := 55) rfl ?_); refine Kd.R_lit (Kd.int .u8) _ 5 ?hg (N := 55) ?hd (xs := ([] : List Int)) (inner := []) (ok := fun _ => True) (okp := fun _ => True) ?hr ?hp (fun _ hk => hk) trivial (Below.refl _ _) (Nat.le_refl _) (by simp) ?_; (case hd => rfl); (case hg => rfl); (case hr => first | (go_simp; done) | (go_simp; rfl)); (case hp => exact (Reps.none _ _)); intro v281 w27 ho28 hb hg_ hnew_; clear hg_ hnew_; (first | rw [← Ny280.out] at ho28 | (simp only [Int.reduceToNat] at ho28; rw [← Ny280.out] at ho28)); have n0_ := Aside0.mk (Kd.R_below (by (with_reducible repeat (first | apply Kd.R_alloc | apply Kd.R_drewN | apply Kd.R_drew)); exact HO_5.out) hb); have n1_ := Aside0.mk (Kd.R_lower ho28 (qj (by repeat (first | (with_reducible first | exact HB.out | apply qc | apply qa | apply qd | refine qh ?_ GE266.out | refine qh ?_ GE268.out) | exact HB.out)))); have n2_ := Aside0.mk (ql (g := gb266) (o := .cells #[.int .i64 a0_0, .slice A0_1 l0_1.length c0_1, .int .i64 a0_2, .int .i64 a0_3, .int .i64 a0_4] 37 (0, 0)) (by (with_reducible repeat (first | refine qf ?_ _ | refine qi ?_ | refine qg ?_ _)); exact BK266.out) hb); have n3_ := Aside0.mk (ql (g := gb268) (o := .cells #[.slice A0_1 l0_1.length c0_1, .int .i64 a0_2, .int .i64 a0_3, .int .i64 a0_4] 29 (0, 0)) (by (with_reducible repeat (first | refine qf ?_ _ | refine qi ?_ | refine qg ?_ _)); exact BK268.out) hb); have n4_ := Aside0.mk (qk (by repeat (first | (with_reducible first | exact HB.out | apply qc | apply qa | apply qd | refine qh ?_ GE266.out | refine qh ?_ GE268.out) | exact HB.out)) hb); clear HO_5; clear BK266; clear BK268; clear HB; have HO_5 := n0_; have HO282 := n1_; have BK266 := n2_; have BK268 := n3_; have HB := n4_; clear n0_ n1_ n2_ n3_ n4_; clear hb ho28; obtain ⟨Ao29, co29, eo29⟩ := Kd.R_slice HO_5.out; subst eo29))
     go_loopg [8, 58] k1 (fun kq v8 v58 w' => ∃ (x8_2 : List Int) (x58_2 : Int), v58 = .int .i64 x58_2 ∧ Aside0 (impl_PutSave.l1 kq x8_2 x5_1 (x5_1.length : Int) x58_2 = some (r1, r2)) ∧ Aside0 (kq ≤ k1) ∧ Aside0 (Kd.R (Kd.int .u8) 5 w' w.heap.size (fun _ => True) v8 x8_2) ∧ Aside0 (Kd.R (Kd.int .i64) 3 w' w.heap.size (fun _ => True) (.slice Ao29 x5_1.length co29) x5_1) ∧ Aside0 (w'.heap[gb266]? = some (.cells #[.int .i64 a0_0, (.slice A0_1 l0_1.length c0_1), .int .i64 a0_2, .int .i64 a0_3, .int .i64 a0_4] 37 (0, 0))) ∧ Aside0 (w'.heap[gb268]? = some (.cells #[(.slice A0_1 l0_1.length c0_1), .int .i64 a0_2, .int .i64 a0_3, .int .i64 a0_4] 29 (0, 0))) ∧ Aside0 (Below w.heap.size w w'))
     case atStart => exact ⟨(y280), (0), (by first | rfl | (simp; done) | (simp [*]; done)), H', ⟨Nat.le_refl _⟩, ⟨by (with_reducible repeat (first | apply Kd.R_alloc | apply Kd.R_drewN | apply Kd.R_drew)); exact HO282.out⟩, ⟨by (with_reducible repeat (first | apply Kd.R_alloc | apply Kd.R_drewN | apply Kd.R_drew)); exact HO_5.out⟩, ⟨by (with_reducible repeat (first | refine qf ?_ _ | refine qi ?_ | refine qg ?_ _)); exact BK266.out⟩, ⟨by (with_reducible repeat (first | refine qf ?_ _ | refine qi ?_ | refine qg ?_ _)); exact BK268.out⟩, ⟨by repeat (first | (with_reducible first | exact HB.out | apply qc | apply qa | apply qd | refine qh ?_ GE266.out | refine qh ?_ GE268.out) | exact HB.out)⟩⟩
     case round =>
      clear H'
      try clear c1
      try clear c2
      try clear p2
      try clear q2
      try clear hx2
      try clear c3
      try clear p6
      try clear c9
      try clear c15
      try clear c15b0
      try clear c16
      try clear c16b0
      try clear c17
      try clear c17b0
      try clear c18
      try clear c20
      try clear c21
      try clear c23
      try clear p27
      try clear q27
      try clear hx27
      try clear hcz10_0
      try clear hcz10_1
      try clear hcz10_2
      try clear hcz10_3
      try clear hcz11_0
      try clear hcz11_1
      try clear hcz11_2
      try clear hcz11_3
      try clear hcz11_4
      try clear hcz14_0
      try clear hcz14_1
      try clear hcz14_2
      try clear hcz14_3
      try clear hcz22_0
      try clear hcz22_1
      try clear hcz22_2
      try clear hcz22_3
      try clear hcz22_4
      try clear hcz22_5
      try clear hcz5_0
      try clear hcz5_1
      try clear hcz5_2
      try clear hcz5_3
      try clear hcz5_4
      try clear hcz7_0
      try clear hcz7_1
      try clear hcz7_2
      try clear hcz7_3
      try clear hcz7_4
      try clear hfz10_0
      try clear hfz10_1
      try clear hfz10_2
      try clear hfz10_3
      try clear hfz11_0
      try clear hfz11_1
      try clear hfz11_2
      try clear hfz11_3
      try clear hfz11_4
      try clear hfz14_0
      try clear hfz14_1
      try clear hfz14_2
      try clear hfz14_3
      try clear hfz22_0
      try clear hfz22_1
      try clear hfz22_2
      try clear hfz22_3
      try clear hfz22_4
      try clear hfz22_5
      try clear hfz5_0
      try clear hfz5_1
      try clear hfz5_2
      try clear hfz5_3
      try clear hfz5_4
      try clear hfz7_0
      try clear hfz7_1
      try clear hfz7_2
      try clear hfz7_3
      try clear hfz7_4
      try clear hx272_0
      try clear hx272_1
      try clear hx272_2
      try clear hx272_3
      try clear hx272_4
      try clear hx272_5
      try clear p2
      try clear p272
      try clear p6
      try clear q272
      obtain ⟨x8_2, x58_2, rfl, HA, HK2, HO_8, HO_56, BK266, BK268, HB⟩ := hrel
      cases gk with
      | zero => exact absurd HA.out (by simp [impl_PutSave.l1])
      | succ k2 =>
       have H := HA.out
       clear HA
       simp only [impl_PutSave.l1] at H
       by_cases c30 : x58_2 < (x5_1.length : Int)
       ·
        rw [if_pos c30] at H
        have c30b0 : decide (x58_2 < (x5_1.length : Int)) = true := decide_eq_true c30
        clear c30
        by_cases c31 : 0 ≤ x58_2
        ·
         rw [if_pos c31] at H
         have c31b0 : decide (0 ≤ x58_2) = true := decide_eq_true c31
         clear c31
         by_cases c32 : x58_2 < (x5_1.length : Int)
         ·
          rw [if_pos c32] at H
          have c32b0 : decide (x58_2 < (x5_1.length : Int)) = true := decide_eq_true c32
          clear c32
          replace H := Option.bind_eq_some_iff.mp H
          obtain ⟨t284, A330, H⟩ := H
          replace H : (impl_PutSave.l1 k2 t284 x5_1 (x5_1.length : Int) (wrap64 (x58_2 + 1))) = some (r1, r2) := H
          have A33 := Aside0.mk A330
          clear A330
          have H' := Aside0.mk H
          clear H
          have p283 : 0 ≤ (x58_2 : Int) := of_decide_eq_true (by first | (with_reducible assumption) | assumption)
          have q283 : x58_2 < (x5_1.length : Int) := of_decide_eq_true (by first | (with_reducible assumption) | assumption)
          obtain ⟨ad283, e283, hx283_0⟩ := Kd.at_int (Kd.R_reads' HO_56.out).2.2 x58_2 p283 q283
          cases e283
          replace p283 := eq_true p283
          replace q283 := eq_true q283
          obtain ⟨Ao34, co34, eo34⟩ := Kd.R_slice HO_8.out
          subst eo34
          go_wp2_with (first | ((with_reducible refine gate_callee (f := 79) rfl ?_); refine goesL_ (some 64) rfl rfl Try.func79 (by kernel_rfl) rfl #[.slice Ao34 x8_2.length co34, .int .i64 (rd x5_1 x58_2), .int .i64 4] rfl (by (try simp only [List.map_toArray, List.map_cons, List.map_nil]); first | done | rfl | (simp only [List.length_drop, List.length_take]; rfl)) ?_; (with_reducible refine (impl_putNumber.calls k2 (fun k_ => some k_ = (.slice Ao34 x8_2.length co34 : Value).ownBlock) (.slice Ao34 x8_2.length co34) x8_2 (rd x5_1 x58_2) 4 t284 w _ ?side1 ?side2 A33.out).mono ?_); (case side1 => repeat (first | (with_reducible first | exact HB.out | apply qc | apply qa | apply qd | refine qh ?_ GE266.out | refine qh ?_ GE268.out) | exact HB.out)); (case side2 => exact Kd.R_tight rfl HO_8.out); rintro e w35 ⟨v285, rfl, ho0, hb, hkp⟩; refine ⟨_, rfl, ?_⟩; have n0_ := Aside0.mk (Kd.R_mono (ok' := fun k_ => True) (Kd.R_keptB ((Kd.R_apart' HO_56.out (Kd.R_typed HO_8.out) (by decide))) hkp (fun k_ hk_ hs_ => (hk_.2) hs_)) (fun k_ hk_ => trivial)); have n1_ := Aside0.mk (blk_kept (by (with_reducible repeat (first | refine qf ?_ _ | refine qi ?_ | refine qg ?_ _)); exact BK266.out) hkp (fun hs_ => (fun e_ => (Kd.R_ne HO_8.out BK266.out (by decide)) e_) hs_)); have n2_ := Aside0.mk (blk_kept (by (with_reducible repeat (first | refine qf ?_ _ | refine qi ?_ | refine qg ?_ _)); exact BK268.out) hkp (fun hs_ => (fun e_ => (Kd.R_ne HO_8.out BK268.out (by decide)) e_) hs_)); have n3_ := Aside0.mk (Kd.R_mono (ok' := fun k_ => True) ho0 (fun k_ hk_ => trivial)); have n4_ := Aside0.mk (hb); clear HO_56; clear BK266; clear BK268; clear HB; clear HO_8; have HO_56 := n0_; have BK266 := n1_; have BK268 := n2_; have HO286 := n3_; have HB := n4_; clear n0_ n1_ n2_ n3_ n4_; (try clear hb); (try clear hkp); (try clear ho0)))
          go_roundg k2
          case measure => have := HK1.out; have := HK2.out; omega
          case rel => exact ⟨(t284), (wrap64 (x58_2 + 1)), (by first | rfl | (simp; done) | (simp [*]; done)), H', ⟨by have := HK1.out; have := HK2.out; omega⟩, ⟨by (with_reducible repeat (first | apply Kd.R_alloc | apply Kd.R_drewN | apply Kd.R_drew)); exact HO286.out⟩, ⟨by (with_reducible repeat (first | apply Kd.R_alloc | apply Kd.R_drewN | apply Kd.R_drew)); exact HO_56.out⟩, ⟨by (with_reducible repeat (first | refine qf ?_ _ | refine qi ?_ | refine qg ?_ _)); exact BK266.out⟩, ⟨by (with_reducible repeat (first | refine qf ?_ _ | refine qi ?_ | refine qg ?_ _)); exact BK268.out⟩, ⟨by repeat (first | (with_reducible first | exact HB.out | apply qc | apply qa | apply qd | refine qh ?_ GE266.out | refine qh ?_ GE268.out) | exact HB.out)⟩⟩
         ·
          rw [if_neg c32] at H
          exact absurd H (by simp)
        ·
         rw [if_neg c31] at H
         exact absurd H (by simp)
       ·
        rw [if_neg c30] at H
        have c30b0 : decide (x58_2 < (x5_1.length : Int)) = false := decide_eq_false c30
        clear c30
        replace H := Option.bind_eq_some_iff.mp H
        obtain ⟨t287, A360, H⟩ := H
        replace H : ((impl_putNumber.f k2 x8_2 t287 4).bind fun t288 => (some (t288, true))) = some (r1, r2) := H
        have A36 := Aside0.mk A360
        clear A360
        replace H := Option.bind_eq_some_iff.mp H
        obtain ⟨t288, A370, H⟩ := H
        replace H : (some (t288, true)) = some (r1, r2) := H
        have A37 := Aside0.mk A370
        clear A370
        simp only [Option.some.injEq, Prod.mk.injEq] at H
        obtain ⟨rfl, rfl⟩ := H
        obtain ⟨Ao38, co38, eo38⟩ := Kd.R_slice HO_8.out
        subst eo38
        go_wp2_with (first | ((with_reducible refine gate_callee (f := 80) rfl ?_); refine goesL_ (some 68) rfl rfl Try.func80 (by kernel_rfl) rfl #[.slice Ao38 x8_2.length co38] rfl (by (try simp only [List.map_toArray, List.map_cons, List.map_nil]); first | done | rfl | (simp only [List.length_drop, List.length_take]; rfl)) ?_; (with_reducible refine (impl_Check.calls k2 _ _ x8_2 t287 _ ?side1 ?side2 A36.out).mono ?_); (case side1 => repeat (first | exact (Kd.R_reads' HO_8.out).2.2 | (with_reducible refine Kd.C_alloc ?_ _) | (with_reducible refine Kd.C_drewN ?_ _) | (with_reducible refine Kd.C_drew ?_))); (case side2 => exact (Kd.R_reads' HO_8.out).2.1); rintro e w' ⟨rfl, ⟨nd, rfl⟩⟩; refine ⟨_, rfl, ?_⟩) | ((with_reducible refine gate_callee (f := 79) rfl ?_); refine goesL_ (some 69) rfl rfl Try.func79 (by kernel_rfl) rfl #[.slice Ao38 x8_2.length co38, .int .i64 t287, .int .i64 4] rfl (by (try simp only [List.map_toArray, List.map_cons, List.map_nil]); first | done | rfl | (simp only [List.length_drop, List.length_take]; rfl)) ?_; (with_reducible refine (impl_putNumber.calls k2 (fun k_ => some k_ = (.slice Ao38 x8_2.length co38 : Value).ownBlock) (.slice Ao38 x8_2.length co38) x8_2 t287 4 t288 w _ ?side1 ?side2 A37.out).mono ?_); (case side1 => repeat (first | (with_reducible first | exact HB.out | apply qc | apply qa | apply qd | refine qh ?_ GE266.out | refine qh ?_ GE268.out) | exact HB.out)); (case side2 => exact Kd.R_tight rfl HO_8.out); rintro e w39 ⟨v289, rfl, ho0, hb, hkp⟩; refine ⟨_, rfl, ?_⟩; have n0_ := Aside0.mk (Kd.R_mono (ok' := fun k_ => True) (Kd.R_keptB ((Kd.R_apart' HO_56.out (Kd.R_typed HO_8.out) (by decide))) hkp (fun k_ hk_ hs_ => (hk_.2) hs_)) (fun k_ hk_ => trivial)); have n1_ := Aside0.mk (blk_kept (by (with_reducible repeat (first | refine qf ?_ _ | refine qi ?_ | refine qg ?_ _)); exact BK266.out) hkp (fun hs_ => (fun e_ => (Kd.R_ne HO_8.out BK266.out (by decide)) e_) hs_)); have n2_ := Aside0.mk (blk_kept (by (with_reducible repeat (first | refine qf ?_ _ | refine qi ?_ | refine qg ?_ _)); exact BK268.out) hkp (fun hs_ => (fun e_ => (Kd.R_ne HO_8.out BK268.out (by decide)) e_) hs_)); have n3_ := Aside0.mk (Kd.R_mono (ok' := fun k_ => True) ho0 (fun k_ hk_ => trivial)); have n4_ := Aside0.mk (hb); clear HO_56; clear BK266; clear BK268; clear HB; clear HO_8; have HO_56 := n0_; have BK266 := n1_; have BK268 := n2_; have HO290 := n3_; have HB := n4_; clear n0_ n1_ n2_ n3_ n4_; (try clear hb); (try clear hkp); (try clear ho0)))
        go_ret2
        exact ⟨_, by first | rfl | (simp [errW_none, errW_some] <;> rfl) | (simp [*, errW_none, errW_some] <;> rfl), by (with_reducible repeat (first | apply Kd.R_alloc | apply Kd.R_drewN | apply Kd.R_drew)); exact HO290.out, by repeat (first | (with_reducible first | exact HB.out | apply qc | apply qa | apply qd | refine qh ?_ GE266.out | refine qh ?_ GE268.out) | exact HB.out)⟩
 ·
  replace c3 := Bool.eq_false_iff.mpr c3
  subst c3
  have H1 : (some (([] : List Int), false)) = some (r1, r2) := by rw [if_neg (show ¬ (false = true) by decide)] at H; exact H
  clear H
  have H := H1
  clear H1
  simp only [Option.some.injEq, Prod.mk.injEq] at H
  obtain ⟨rfl, rfl⟩ := H
  go_enter Try.func33, Try.ntmps33
  go_wp2_with (first | ((with_reducible refine gate_dst (N := 1) rfl ?_); refine box_event ?hg (N := 1) ?hd (cs := #[.int .i64 a0_0, .slice A0_1 l0_1.length c0_1, .int .i64 a0_2, .int .i64 a0_3, .int .i64 a0_4]) (t := 37) ?hr ?_; (case hd => rfl); (case hg => rfl); (case hr => first | (go_simp; done) | (go_simp; rfl)); intro gb266 hg w40 hbox hb; have n0_ := Aside0.mk (qk (by repeat (first | (with_reducible first | exact HB.out | apply qc | apply qa | apply qd) | exact HB.out)) hb); have n1_ := Aside0.mk (hbox); have n2_ := Aside0.mk ((by rw [hg]; exact (qj (by repeat (first | (with_reducible first | exact HB.out | apply qc | apply qa | apply qd) | exact HB.out))) : w.heap.size ≤ gb266)); have n3_ := Aside0.mk ((by rw [hg]; exact (qj (by repeat (first | (with_reducible first | exact HB.out | apply qc | apply qa | apply qd) | exact HB.out))) : w.heap.size ≤ gb266)); clear HB; have HB := n0_; have BK266 := n1_; have GW266 := n2_; have GE266 := n3_; clear n0_ n1_ n2_ n3_; clear hb hbox hg; have hcz41_0 : w40.cell? ⟨gb266, 0, none⟩ = some (.int .i64 a0_0) := (qe BK266.out 0).trans rfl; have hcz41_1 : w40.cell? ⟨gb266, 1, none⟩ = some (.slice A0_1 l0_1.length c0_1) := (qe BK266.out 1).trans rfl; have hcz41_2 : w40.cell? ⟨gb266, 2, none⟩ = some (.int .i64 a0_2) := (qe BK266.out 2).trans rfl; have hcz41_3 : w40.cell? ⟨gb266, 3, none⟩ = some (.int .i64 a0_3) := (qe BK266.out 3).trans rfl; have hcz41_4 : w40.cell? ⟨gb266, 4, none⟩ = some (.int .i64 a0_4) := (qe BK266.out 4).trans rfl; have hfz41_0 := qb BK266.out 0; have hfz41_1 := qb BK266.out 1; have hfz41_2 := qb BK266.out 2; have hfz41_3 := qb BK266.out 3; have hfz41_4 := qb BK266.out 4) | ((with_reducible refine gate_callee (f := 23) rfl ?_); refine goesL_ (some 12) rfl rfl Try.func23 (by kernel_rfl) rfl #[.agg #[.int .i64 a0_0, .slice A0_1 l0_1.length c0_1, .int .i64 a0_2, .int .i64 a0_3, .int .i64 a0_4]] rfl (by (try simp only [List.map_toArray, List.map_cons, List.map_nil]); first | done | rfl | (simp only [List.length_drop, List.length_take]; rfl)) ?_; (with_reducible refine (impl_SaveOk.calls k a0_0 _ _ l0_1 a0_2 a0_3 a0_4 false _ ?side1 ?side2 A2.out).mono ?_); (case side1 => repeat (first | exact (Kd.C_below HR0_1.out HB.out) | (with_reducible refine Kd.C_alloc ?_ _) | (with_reducible refine Kd.C_drewN ?_ _) | (with_reducible refine Kd.C_drew ?_))); (case side2 => exact HC0_1.out); rintro e w42 ⟨rfl, hb⟩; refine ⟨_, rfl, ?_⟩; have n0_ := Aside0.mk (ql (g := gb266) (o := .cells #[.int .i64 a0_0, .slice A0_1 l0_1.length c0_1, .int .i64 a0_2, .int .i64 a0_3, .int .i64 a0_4] 37 (0, 0)) (by (with_reducible repeat (first | refine qf ?_ _ | refine qi ?_ | refine qg ?_ _)); exact BK266.out) hb); have n1_ := Aside0.mk (qk (by repeat (first | (with_reducible first | exact HB.out | apply qc | apply qa | apply qd | refine qh ?_ GE266.out) | exact HB.out)) hb); clear BK266; clear HB; have BK266 := n0_; have HB := n1_; clear n0_ n1_; (try clear hb); (try clear hb2); (try clear hk); (try clear hi)))
  go_ret2
  exact ⟨_, by first | rfl | (simp [errW_none, errW_some] <;> rfl) | (simp [*, errW_none, errW_some] <;> rfl), by first | exact Kd.R_nil _ _ _ _ _ | exact Kd.N_nil _ _ _ _ _ | exact Kd.V_nil _ _ _ _ _ | exact Kd.Q_nil _ _ _ _ _ | exact Kd.S_nil _ _ _ _ _, by repeat (first | (with_reducible first | exact HB.out | apply qc | apply qa | apply qd | refine qh ?_ GE266.out) | exact HB.out)⟩

end Go.Proofs.Ytengkenhmnpbeaa.PFnExactPutSave

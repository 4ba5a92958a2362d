-- Written by this session's program myprint.py over the kit's print and its own texts; Lean checks it.
-- made smaller: short names, half the indentation
import Derived.Test.YtengkenhmnpbeaaPFnExactSameShardx0
import Derived.Test.YtengkenhmnpbeaaPFnExactSameShardx1
namespace Go.Proofs.Ytengkenhmnpbeaa.PFnExactSameShard
open Go.RowKit Go.Proofs.YtengkenhmnpbeaaW.PrintWords Go.Proofs.YtengkenhmnpbeaaW.PrintLast Go.Proofs.YtengkenhmnpbeaaW.PrintMore
open Go.Proofs.YtengkenhmnpbeaaW.PrintWords renaming blk_frozen → qa, pw_below_drewN → qb, below_drew1 → qc, blk_cell → qd, below_alloc → qe, below_set → qf, below_size → qg, blk_drewN → qh, blk_alloc → qi, blk_drew → qj, below_step → qk, box_event → ql, gate_dst → qm, blk_below → qn
attribute [local go_sem] max2_int min2_int max_two min_two max_three min_three max_four min_four   -- for this text's walks alone
set_option linter.unusedVariables false
set_option linter.unusedSimpArgs false

attribute [local go_sem high] eqA84
/-! ### slices_Equal_impl_Agg_impl_Agg: function 66 -/
def slices_Equal_impl_Agg_impl_Agg.l0 : Nat → List (S84) → List (S84) → Int → Int → Option (Bool)
 | 0, _, _, _, _ => none
 | k + 1, x0, x1, x12, x13 => if x13 < x12 then (if 0 ≤ x13 then (if x13 < (x0.length : Int) then (if x13 < (x1.length : Int) then (if (!(((rd_T84 x0 x13).f0) == ((rd_T84 x1 x13).f0)) || (!(((rd_T84 x0 x13).f1) == ((rd_T84 x1 x13).f1)) || (!(((rd_T84 x0 x13).f2) == ((rd_T84 x1 x13).f2)) || (!(((rd_T84 x0 x13).f3) == ((rd_T84 x1 x13).f3)) || (!(((rd_T84 x0 x13).f4) == ((rd_T84 x1 x13).f4)) || (!(((rd_T84 x0 x13).f5) == ((rd_T84 x1 x13).f5)))))))) = true then (some false) else (slices_Equal_impl_Agg_impl_Agg.l0 k x0 x1 x12 (wrap64 (x13 + 1)))) else (none)) else (none)) else (none)) else (some true)
def slices_Equal_impl_Agg_impl_Agg.f (k : Nat) (l0 : List (S84)) (l1 : List (S84)) : Option (Bool) := if (l0.length : Int) = (l1.length : Int) then (slices_Equal_impl_Agg_impl_Agg.l0 k l0 l1 (l0.length : Int) 0) else (some false)
theorem slices_Equal_impl_Agg_impl_Agg.mono_l : ∀ k, (∀ y0 y1 y2 y3, LeO (slices_Equal_impl_Agg_impl_Agg.l0 k y0 y1 y2 y3) (slices_Equal_impl_Agg_impl_Agg.l0 (k + 1) y0 y1 y2 y3))
 | 0 => fun _ _ _ _ r h => by simp [slices_Equal_impl_Agg_impl_Agg.l0] at h
 | k + 1 => by
  have ih0 := slices_Equal_impl_Agg_impl_Agg.mono_l k
  ·
   intro y0 y1 y2 y3
   unfold slices_Equal_impl_Agg_impl_Agg.l0
   repeat' first
   | (with_reducible exact ih0 _ _ _ _)
   | (with_reducible exact LeO.refl _)
   | (with_reducible exact LeO.none _)
   | (with_reducible refine LeO.ite ?_ ?_)
   | (with_reducible refine LeO.bind ?_ (fun _ => ?_))
   | exact ih0 _ _ _ _
   | exact LeO.none _
   | refine LeO.ite ?_ ?_
   | refine LeO.bind ?_ (fun _ => ?_)
theorem slices_Equal_impl_Agg_impl_Agg.mono : ∀ a0 a1 k, LeO (slices_Equal_impl_Agg_impl_Agg.f k a0 a1) (slices_Equal_impl_Agg_impl_Agg.f (k + 1) a0 a1) := by
 intro a0 a1 k
 have ih0 := slices_Equal_impl_Agg_impl_Agg.mono_l k
 unfold slices_Equal_impl_Agg_impl_Agg.f
 repeat' first
   | (with_reducible exact ih0 _ _ _ _)
   | (with_reducible exact LeO.refl _)
   | (with_reducible exact LeO.none _)
   | (with_reducible refine LeO.ite ?_ ?_)
   | (with_reducible refine LeO.bind ?_ (fun _ => ?_))
   | exact ih0 _ _ _ _
   | exact LeO.none _
   | refine LeO.ite ?_ ?_
   | refine LeO.bind ?_ (fun _ => ?_)
set_option maxHeartbeats 8000000 in
set_option maxRecDepth 100000 in
theorem slices_Equal_impl_Agg_impl_Agg.calls (k : Nat) (A0 : Option Addr) (c0 : Nat) (l0 : List (S84)) (A1 : Option Addr) (c1 : Nat) (l1 : List (S84)) (r : Bool) (w : World) (hr0 : Kd.C k84 w A0 l0.length l0) (hc0 : l0.length ≤ c0) (hr1 : Kd.C k84 w A1 l1.length l1) (hc1 : l1.length ≤ c1) (h : slices_Equal_impl_Agg_impl_Agg.f k l0 l1 = some r) :
  Calls Try.prog 66 #[.slice A0 l0.length c0, .slice A1 l1.length c1] w fun e w' => e = .returned (.bool r) ∧ Drawn0 w w' := by
 have hu84 := Try.underlying84
 have HR0 := Aside0.mk hr0
 have HC0 := Aside0.mk hc0
 clear hr0 hc0
 have HR1 := Aside0.mk hr1
 have HC1 := Aside0.mk hc1
 clear hr1 hc1
 have H : (if (l0.length : Int) = (l1.length : Int) then (slices_Equal_impl_Agg_impl_Agg.l0 k l0 l1 (l0.length : Int) 0) else (some false)) = some r := h
 clear h
 by_cases c3 : (l0.length : Int) = (l1.length : Int)
 ·
  rw [if_pos c3] at H
  have c3b0 : ((l0.length : Int) == (l1.length : Int)) = true := beq_iff_eq.mpr c3
  have c3b1 : ((l0.length : Int) != (l1.length : Int)) = false := bne_eq_false_iff_eq.mpr c3
  have c3b2 : (l0.length == l1.length) = true := by first | simpa using c3 | (simp at c3 ⊢; omega)
  clear c3
  have H' := Aside0.mk H
  clear H
  go_enter Try.func66, Try.ntmps66
  go_wp2
  repeat (go_quiet (fail); try go_wp2)
  go_loopg [13] k (fun kq v13 w' => ∃ (x13_1 : Int), v13 = .int .i64 x13_1 ∧ Aside0 (slices_Equal_impl_Agg_impl_Agg.l0 kq l0 l1 (l0.length : Int) x13_1 = some r) ∧ Aside0 (kq ≤ k) ∧ Drawn0 w w')
  case atStart => exact ⟨(0), (by first | rfl | (simp; done) | (simp [*]; done)), H', ⟨Nat.le_refl _⟩, by repeat (first | exact Drawn0.refl _ | apply Drawn0.step)⟩
  case round =>
   clear H'
   try clear c1
   try clear p2
   try clear c3
   try clear c3b0
   try clear c3b1
   try clear c3b2
   obtain ⟨x13_1, rfl, HA, HK1, ⟨m1, rfl⟩⟩ := hrel
   cases gk with
   | zero => exact absurd HA.out (by simp [slices_Equal_impl_Agg_impl_Agg.l0])
   | succ k1 =>
    have H := HA.out
    clear HA
    simp only [slices_Equal_impl_Agg_impl_Agg.l0] at H
    by_cases c4 : x13_1 < (l0.length : Int)
    ·
     rw [if_pos c4] at H
     have c4b0 : decide (x13_1 < (l0.length : Int)) = true := decide_eq_true c4
     clear c4
     by_cases c5 : 0 ≤ x13_1
     ·
      rw [if_pos c5] at H
      have c5b0 : decide (0 ≤ x13_1) = true := decide_eq_true c5
      clear c5
      by_cases c6 : x13_1 < (l0.length : Int)
      ·
       rw [if_pos c6] at H
       have c6b0 : decide (x13_1 < (l0.length : Int)) = true := decide_eq_true c6
       clear c6
       by_cases c7 : x13_1 < (l1.length : Int)
       ·
        rw [if_pos c7] at H
        have c7b0 : decide (x13_1 < (l1.length : Int)) = true := decide_eq_true c7
        clear c7
        by_cases c8 : (!(((rd_T84 l0 x13_1).f0) == ((rd_T84 l1 x13_1).f0)) || (!(((rd_T84 l0 x13_1).f1) == ((rd_T84 l1 x13_1).f1)) || (!(((rd_T84 l0 x13_1).f2) == ((rd_T84 l1 x13_1).f2)) || (!(((rd_T84 l0 x13_1).f3) == ((rd_T84 l1 x13_1).f3)) || (!(((rd_T84 l0 x13_1).f4) == ((rd_T84 l1 x13_1).f4)) || (!(((rd_T84 l0 x13_1).f5) == ((rd_T84 l1 x13_1).f5)))))))) = true
        ·
         rw [if_pos c8] at H
         have c8b0 : (!(((rd_T84 l0 x13_1).f0) == ((rd_T84 l1 x13_1).f0)) || (!(((rd_T84 l0 x13_1).f1) == ((rd_T84 l1 x13_1).f1)) || (!(((rd_T84 l0 x13_1).f2) == ((rd_T84 l1 x13_1).f2)) || (!(((rd_T84 l0 x13_1).f3) == ((rd_T84 l1 x13_1).f3)) || (!(((rd_T84 l0 x13_1).f4) == ((rd_T84 l1 x13_1).f4)) || (!(((rd_T84 l0 x13_1).f5) == ((rd_T84 l1 x13_1).f5)))))))) = true := c8
         clear c8
         obtain rfl := Option.some.inj H
         have p127 : 0 ≤ (x13_1 : Int) := of_decide_eq_true (by first | (with_reducible assumption) | assumption)
         have q127 : x13_1 < (l0.length : Int) := of_decide_eq_true (by first | (with_reducible assumption) | assumption)
         obtain ⟨ad127, e127, hx127_0, hx127_1, hx127_2, hx127_3, hx127_4, hx127_5⟩ := at_T84 HR0.out x13_1 p127 q127
         cases e127
         replace p127 := eq_true p127
         replace q127 := eq_true q127
         have p128 : 0 ≤ (x13_1 : Int) := of_decide_eq_true (by first | (with_reducible assumption) | assumption)
         have q128 : x13_1 < (l1.length : Int) := of_decide_eq_true (by first | (with_reducible assumption) | assumption)
         obtain ⟨ad128, e128, hx128_0, hx128_1, hx128_2, hx128_3, hx128_4, hx128_5⟩ := at_T84 HR1.out x13_1 p128 q128
         cases e128
         replace p128 := eq_true p128
         replace q128 := eq_true q128
         go_wp2
         repeat (go_quiet (fail); try go_wp2)
         go_ret
         exact ⟨by first | rfl | (simp; done) | (simp [*]; done), by repeat (first | exact Drawn0.refl _ | apply Drawn0.step)⟩
        ·
         rw [if_neg c8] at H
         have c8b0 : (!(((rd_T84 l0 x13_1).f0) == ((rd_T84 l1 x13_1).f0)) || (!(((rd_T84 l0 x13_1).f1) == ((rd_T84 l1 x13_1).f1)) || (!(((rd_T84 l0 x13_1).f2) == ((rd_T84 l1 x13_1).f2)) || (!(((rd_T84 l0 x13_1).f3) == ((rd_T84 l1 x13_1).f3)) || (!(((rd_T84 l0 x13_1).f4) == ((rd_T84 l1 x13_1).f4)) || (!(((rd_T84 l0 x13_1).f5) == ((rd_T84 l1 x13_1).f5)))))))) = false := by simpa using c8
         clear c8
         have H' := Aside0.mk H
         clear H
         have p127 : 0 ≤ (x13_1 : Int) := of_decide_eq_true (by first | (with_reducible assumption) | assumption)
         have q127 : x13_1 < (l0.length : Int) := of_decide_eq_true (by first | (with_reducible assumption) | assumption)
         obtain ⟨ad127, e127, hx127_0, hx127_1, hx127_2, hx127_3, hx127_4, hx127_5⟩ := at_T84 HR0.out x13_1 p127 q127
         cases e127
         replace p127 := eq_true p127
         replace q127 := eq_true q127
         have p128 : 0 ≤ (x13_1 : Int) := of_decide_eq_true (by first | (with_reducible assumption) | assumption)
         have q128 : x13_1 < (l1.length : Int) := of_decide_eq_true (by first | (with_reducible assumption) | assumption)
         obtain ⟨ad128, e128, hx128_0, hx128_1, hx128_2, hx128_3, hx128_4, hx128_5⟩ := at_T84 HR1.out x13_1 p128 q128
         cases e128
         replace p128 := eq_true p128
         replace q128 := eq_true q128
         go_wp2
         repeat (go_quiet (fail); try go_wp2)
         go_roundg k1
         case measure => have := HK1.out; omega
         case rel => exact ⟨(wrap64 (x13_1 + 1)), (by first | rfl | (simp; done) | (simp [*]; done)), H', ⟨by have := HK1.out; omega⟩, by repeat (first | exact Drawn0.refl _ | apply Drawn0.step)⟩
       ·
        rw [if_neg c7] at H
        exact absurd H (by simp)
      ·
       rw [if_neg c6] at H
       exact absurd H (by simp)
     ·
      rw [if_neg c5] at H
      exact absurd H (by simp)
    ·
     rw [if_neg c4] at H
     have c4b0 : decide (x13_1 < (l0.length : Int)) = false := decide_eq_false c4
     clear c4
     obtain rfl := Option.some.inj H
     go_wp2
     repeat (go_quiet (fail); try go_wp2)
     go_ret
     exact ⟨by first | rfl | (simp; done) | (simp [*]; done), by repeat (first | exact Drawn0.refl _ | apply Drawn0.step)⟩
 ·
  rw [if_neg c3] at H
  have c3b0 : ((l0.length : Int) == (l1.length : Int)) = false := beq_eq_false_iff_ne.mpr c3
  have c3b1 : ((l0.length : Int) != (l1.length : Int)) = true := bne_iff_ne.mpr c3
  have c3b2 : (l0.length == l1.length) = false := by first | simpa using c3 | (simp at c3 ⊢; omega)
  obtain rfl := Option.some.inj H
  go_enter Try.func66, Try.ntmps66
  go_wp2
  repeat (go_quiet (fail); try go_wp2)
  go_ret
  exact ⟨by first | rfl | (simp; done) | (simp [*]; done), by repeat (first | exact Drawn0.refl _ | apply Drawn0.step)⟩

/-! ### impl_SameShard: function 18 -/
def impl_SameShard.f (k : Nat) (l0_0 : List (S84)) (a0_1 : Int) (a0_2 : Int) (a0_3 : Int) (l1_0 : List (S84)) (a1_1 : Int) (a1_2 : Int) (a1_3 : Int) : Option (Bool) := if a0_1 = a1_1 then (if a0_2 = a1_2 then (if a0_3 = a1_3 then ((slices_Equal_impl_Agg_impl_Agg.f k l0_0 l1_0).bind fun t131 => (some t131)) else (some false)) else (some false)) else (some false)
theorem impl_SameShard.mono : ∀ a0 a1 a2 a3 a4 a5 a6 a7 k, LeO (impl_SameShard.f k a0 a1 a2 a3 a4 a5 a6 a7) (impl_SameShard.f (k + 1) a0 a1 a2 a3 a4 a5 a6 a7) := by
 intro a0 a1 a2 a3 a4 a5 a6 a7 k
 unfold impl_SameShard.f
 repeat' first
   | (with_reducible exact slices_Equal_impl_Agg_impl_Agg.mono _ _ _)
   | (with_reducible exact LeO.refl _)
   | (with_reducible exact LeO.none _)
   | (with_reducible refine LeO.ite ?_ ?_)
   | (with_reducible refine LeO.bind ?_ (fun _ => ?_))
   | exact slices_Equal_impl_Agg_impl_Agg.mono _ _ _
   | exact LeO.none _
   | refine LeO.ite ?_ ?_
   | refine LeO.bind ?_ (fun _ => ?_)
set_option maxHeartbeats 8000000 in
set_option maxRecDepth 100000 in
theorem impl_SameShard.calls (k : Nat) (A0_0 : Option Addr) (c0_0 : Nat) (l0_0 : List (S84)) (a0_1 : Int) (a0_2 : Int) (a0_3 : Int) (A1_0 : Option Addr) (c1_0 : Nat) (l1_0 : List (S84)) (a1_1 : Int) (a1_2 : Int) (a1_3 : Int) (r : Bool) (w : World) (hr0_0 : Kd.C k84 w A0_0 l0_0.length l0_0) (hc0_0 : l0_0.length ≤ c0_0) (hr1_0 : Kd.C k84 w A1_0 l1_0.length l1_0) (hc1_0 : l1_0.length ≤ c1_0) (h : impl_SameShard.f k l0_0 a0_1 a0_2 a0_3 l1_0 a1_1 a1_2 a1_3 = some r) :
  Calls Try.prog 18 #[.agg #[.slice A0_0 l0_0.length c0_0, .int .i64 a0_1, .int .i64 a0_2, .int .i64 a0_3], .agg #[.slice A1_0 l1_0.length c1_0, .int .i64 a1_1, .int .i64 a1_2, .int .i64 a1_3]] w fun e w' => e = .returned (.bool r) ∧ Below w.heap.size w w' := by
 have hu29 := Try.underlying29
 have HR0_0 := Aside0.mk hr0_0
 have HC0_0 := Aside0.mk hc0_0
 clear hr0_0 hc0_0
 have HR1_0 := Aside0.mk hr1_0
 have HC1_0 := Aside0.mk hc1_0
 clear hr1_0 hc1_0
 have HB := Aside0.mk (Below.refl w.heap.size w)
 have H : (if a0_1 = a1_1 then (if a0_2 = a1_2 then (if a0_3 = a1_3 then ((slices_Equal_impl_Agg_impl_Agg.f k l0_0 l1_0).bind fun t131 => (some t131)) else (some false)) else (some false)) else (some false)) = some r := h
 clear h
 by_cases c3 : a0_1 = a1_1
 ·
  rw [if_pos c3] at H
  have c3b0 : (a0_1 == a1_1) = true := beq_iff_eq.mpr c3
  have c3b1 : (a0_1 != a1_1) = false := bne_eq_false_iff_eq.mpr c3
  clear c3
  by_cases c4 : a0_2 = a1_2
  ·
   rw [if_pos c4] at H
   have c4b0 : (a0_2 == a1_2) = true := beq_iff_eq.mpr c4
   have c4b1 : (a0_2 != a1_2) = false := bne_eq_false_iff_eq.mpr c4
   clear c4
   by_cases c5 : a0_3 = a1_3
   ·
    rw [if_pos c5] at H
    have c5b0 : (a0_3 == a1_3) = true := beq_iff_eq.mpr c5
    have c5b1 : (a0_3 != a1_3) = false := bne_eq_false_iff_eq.mpr c5
    clear c5
    replace H := Option.bind_eq_some_iff.mp H
    obtain ⟨t131, A60, H⟩ := H
    replace H : (some t131) = some r := H
    have A6 := Aside0.mk A60
    clear A60
    obtain rfl := Option.some.inj H
    go_enter Try.func18, Try.ntmps18
    go_wp2_with (first | ((with_reducible refine qm (N := 2) rfl ?_); refine ql ?hg (N := 2) ?hd (cs := #[.slice A0_0 l0_0.length c0_0, .int .i64 a0_1, .int .i64 a0_2, .int .i64 a0_3]) (t := 29) ?hr ?_; (case hd => rfl); (case hg => rfl); (case hr => first | (go_simp; done) | (go_simp; rfl)); intro gb129 hg w7 hbox hb; have n0_ := Aside0.mk (qk (by repeat (first | (with_reducible first | exact HB.out | apply qe | apply qb | apply qc) | exact HB.out)) hb); have n1_ := Aside0.mk (hbox); have n2_ := Aside0.mk ((by rw [hg]; exact (qg (by repeat (first | (with_reducible first | exact HB.out | apply qe | apply qb | apply qc) | exact HB.out))) : w.heap.size ≤ gb129)); have n3_ := Aside0.mk ((by rw [hg]; exact (qg (by repeat (first | (with_reducible first | exact HB.out | apply qe | apply qb | apply qc) | exact HB.out))) : w.heap.size ≤ gb129)); clear HB; have HB := n0_; have BK129 := n1_; have GW129 := n2_; have GE129 := n3_; clear n0_ n1_ n2_ n3_; clear hb hbox hg) | ((with_reducible refine qm (N := 3) rfl ?_); refine ql ?hg (N := 3) ?hd (cs := #[.slice A1_0 l1_0.length c1_0, .int .i64 a1_1, .int .i64 a1_2, .int .i64 a1_3]) (t := 29) ?hr ?_; (case hd => rfl); (case hg => rfl); (case hr => first | (go_simp; done) | (go_simp; rfl)); intro gb130 hg w8 hbox hb; have n0_ := Aside0.mk (qn (g := gb129) (o := .cells #[.slice A0_0 l0_0.length c0_0, .int .i64 a0_1, .int .i64 a0_2, .int .i64 a0_3] 29 (0, 0)) (by (with_reducible repeat (first | refine qh ?_ _ | refine qj ?_ | refine qi ?_ _)); exact BK129.out) hb); have n1_ := Aside0.mk (qk (by repeat (first | (with_reducible first | exact HB.out | apply qe | apply qb | apply qc | refine qf ?_ GE129.out) | exact HB.out)) hb); have n2_ := Aside0.mk (hbox); have n3_ := Aside0.mk ((by rw [hg]; exact (qg (by repeat (first | (with_reducible first | exact HB.out | apply qe | apply qb | apply qc | refine qf ?_ GE129.out) | exact HB.out))) : w.heap.size ≤ gb130)); have n4_ := Aside0.mk ((by rw [hg]; exact (qg (by repeat (first | (with_reducible first | exact HB.out | apply qe | apply qb | apply qc | refine qf ?_ GE129.out) | exact HB.out))) : w.heap.size ≤ gb130)); have n5_ := Aside0.mk ((by rw [hg]; exact Nat.ne_of_lt (blk_lt (g := gb129) (o := .cells #[.slice A0_0 l0_0.length c0_0, .int .i64 a0_1, .int .i64 a0_2, .int .i64 a0_3] 29 (0, 0)) (by (with_reducible repeat (first | refine qh ?_ _ | refine qj ?_ | refine qi ?_ _)); exact BK129.out)) : gb129 ≠ gb130)); have n6_ := Aside0.mk ((by rw [hg]; exact Nat.ne_of_gt (blk_lt (g := gb129) (o := .cells #[.slice A0_0 l0_0.length c0_0, .int .i64 a0_1, .int .i64 a0_2, .int .i64 a0_3] 29 (0, 0)) (by (with_reducible repeat (first | refine qh ?_ _ | refine qj ?_ | refine qi ?_ _)); exact BK129.out)) : gb130 ≠ gb129)); clear BK129; clear HB; have BK129 := n0_; have HB := n1_; have BK130 := n2_; have GW130 := n3_; have GE130 := n4_; have NB129_130 := n5_; have NB130_129 := n6_; clear n0_ n1_ n2_ n3_ n4_ n5_ n6_; clear hb hbox hg; have hnb9 := NB129_130.out; have hnc9 := NB130_129.out; have hcz10_0 : w8.cell? ⟨gb129, 0, none⟩ = some (.slice A0_0 l0_0.length c0_0) := (qd BK129.out 0).trans rfl; have hcz10_1 : w8.cell? ⟨gb129, 1, none⟩ = some (.int .i64 a0_1) := (qd BK129.out 1).trans rfl; have hcz10_2 : w8.cell? ⟨gb129, 2, none⟩ = some (.int .i64 a0_2) := (qd BK129.out 2).trans rfl; have hcz10_3 : w8.cell? ⟨gb129, 3, none⟩ = some (.int .i64 a0_3) := (qd BK129.out 3).trans rfl; have hfz10_0 := qa BK129.out 0; have hfz10_1 := qa BK129.out 1; have hfz10_2 := qa BK129.out 2; have hfz10_3 := qa BK129.out 3; have hcz11_0 : w8.cell? ⟨gb130, 0, none⟩ = some (.slice A1_0 l1_0.length c1_0) := (qd BK130.out 0).trans rfl; have hcz11_1 : w8.cell? ⟨gb130, 1, none⟩ = some (.int .i64 a1_1) := (qd BK130.out 1).trans rfl; have hcz11_2 : w8.cell? ⟨gb130, 2, none⟩ = some (.int .i64 a1_2) := (qd BK130.out 2).trans rfl; have hcz11_3 : w8.cell? ⟨gb130, 3, none⟩ = some (.int .i64 a1_3) := (qd BK130.out 3).trans rfl; have hfz11_0 := qa BK130.out 0; have hfz11_1 := qa BK130.out 1; have hfz11_2 := qa BK130.out 2; have hfz11_3 := qa BK130.out 3) | (go_at_call 66; (with_reducible refine (slices_Equal_impl_Agg_impl_Agg.calls k _ _ l0_0 _ _ l1_0 t131 _ ?side1 ?side2 ?side3 ?side4 A6.out).mono ?_); (case side1 => repeat (first | exact (Kd.C_below HR0_0.out HB.out) | (with_reducible refine Kd.C_alloc ?_ _) | (with_reducible refine Kd.C_drewN ?_ _) | (with_reducible refine Kd.C_drew ?_))); (case side2 => exact HC0_0.out); (case side3 => repeat (first | exact (Kd.C_below HR1_0.out HB.out) | (with_reducible refine Kd.C_alloc ?_ _) | (with_reducible refine Kd.C_drewN ?_ _) | (with_reducible refine Kd.C_drew ?_))); (case side4 => exact HC1_0.out); rintro e w' ⟨rfl, ⟨nd, rfl⟩⟩))
    go_ret
    exact ⟨by first | rfl | (simp [errW_none, errW_some] <;> rfl) | (simp [*, errW_none, errW_some] <;> rfl), by repeat (first | (with_reducible first | exact HB.out | apply qe | apply qb | apply qc | refine qf ?_ GE129.out | refine qf ?_ GE130.out) | exact HB.out)⟩
   ·
    rw [if_neg c5] at H
    have c5b0 : (a0_3 == a1_3) = false := beq_eq_false_iff_ne.mpr c5
    have c5b1 : (a0_3 != a1_3) = true := bne_iff_ne.mpr c5
    obtain rfl := Option.some.inj H
    go_enter Try.func18, Try.ntmps18
    go_wp2_with (first | ((with_reducible refine qm (N := 2) rfl ?_); refine ql ?hg (N := 2) ?hd (cs := #[.slice A0_0 l0_0.length c0_0, .int .i64 a0_1, .int .i64 a0_2, .int .i64 a0_3]) (t := 29) ?hr ?_; (case hd => rfl); (case hg => rfl); (case hr => first | (go_simp; done) | (go_simp; rfl)); intro gb129 hg w12 hbox hb; have n0_ := Aside0.mk (qk (by repeat (first | (with_reducible first | exact HB.out | apply qe | apply qb | apply qc) | exact HB.out)) hb); have n1_ := Aside0.mk (hbox); have n2_ := Aside0.mk ((by rw [hg]; exact (qg (by repeat (first | (with_reducible first | exact HB.out | apply qe | apply qb | apply qc) | exact HB.out))) : w.heap.size ≤ gb129)); have n3_ := Aside0.mk ((by rw [hg]; exact (qg (by repeat (first | (with_reducible first | exact HB.out | apply qe | apply qb | apply qc) | exact HB.out))) : w.heap.size ≤ gb129)); clear HB; have HB := n0_; have BK129 := n1_; have GW129 := n2_; have GE129 := n3_; clear n0_ n1_ n2_ n3_; clear hb hbox hg) | ((with_reducible refine qm (N := 3) rfl ?_); refine ql ?hg (N := 3) ?hd (cs := #[.slice A1_0 l1_0.length c1_0, .int .i64 a1_1, .int .i64 a1_2, .int .i64 a1_3]) (t := 29) ?hr ?_; (case hd => rfl); (case hg => rfl); (case hr => first | (go_simp; done) | (go_simp; rfl)); intro gb130 hg w13 hbox hb; have n0_ := Aside0.mk (qn (g := gb129) (o := .cells #[.slice A0_0 l0_0.length c0_0, .int .i64 a0_1, .int .i64 a0_2, .int .i64 a0_3] 29 (0, 0)) (by (with_reducible repeat (first | refine qh ?_ _ | refine qj ?_ | refine qi ?_ _)); exact BK129.out) hb); have n1_ := Aside0.mk (qk (by repeat (first | (with_reducible first | exact HB.out | apply qe | apply qb | apply qc | refine qf ?_ GE129.out) | exact HB.out)) hb); have n2_ := Aside0.mk (hbox); have n3_ := Aside0.mk ((by rw [hg]; exact (qg (by repeat (first | (with_reducible first | exact HB.out | apply qe | apply qb | apply qc | refine qf ?_ GE129.out) | exact HB.out))) : w.heap.size ≤ gb130)); have n4_ := Aside0.mk ((by rw [hg]; exact (qg (by repeat (first | (with_reducible first | exact HB.out | apply qe | apply qb | apply qc | refine qf ?_ GE129.out) | exact HB.out))) : w.heap.size ≤ gb130)); have n5_ := Aside0.mk ((by rw [hg]; exact Nat.ne_of_lt (blk_lt (g := gb129) (o := .cells #[.slice A0_0 l0_0.length c0_0, .int .i64 a0_1, .int .i64 a0_2, .int .i64 a0_3] 29 (0, 0)) (by (with_reducible repeat (first | refine qh ?_ _ | refine qj ?_ | refine qi ?_ _)); exact BK129.out)) : gb129 ≠ gb130)); have n6_ := Aside0.mk ((by rw [hg]; exact Nat.ne_of_gt (blk_lt (g := gb129) (o := .cells #[.slice A0_0 l0_0.length c0_0, .int .i64 a0_1, .int .i64 a0_2, .int .i64 a0_3] 29 (0, 0)) (by (with_reducible repeat (first | refine qh ?_ _ | refine qj ?_ | refine qi ?_ _)); exact BK129.out)) : gb130 ≠ gb129)); clear BK129; clear HB; have BK129 := n0_; have HB := n1_; have BK130 := n2_; have GW130 := n3_; have GE130 := n4_; have NB129_130 := n5_; have NB130_129 := n6_; clear n0_ n1_ n2_ n3_ n4_ n5_ n6_; clear hb hbox hg; have hnb14 := NB129_130.out; have hnc14 := NB130_129.out; have hcz15_0 : w13.cell? ⟨gb129, 0, none⟩ = some (.slice A0_0 l0_0.length c0_0) := (qd BK129.out 0).trans rfl; have hcz15_1 : w13.cell? ⟨gb129, 1, none⟩ = some (.int .i64 a0_1) := (qd BK129.out 1).trans rfl; have hcz15_2 : w13.cell? ⟨gb129, 2, none⟩ = some (.int .i64 a0_2) := (qd BK129.out 2).trans rfl; have hcz15_3 : w13.cell? ⟨gb129, 3, none⟩ = some (.int .i64 a0_3) := (qd BK129.out 3).trans rfl; have hfz15_0 := qa BK129.out 0; have hfz15_1 := qa BK129.out 1; have hfz15_2 := qa BK129.out 2; have hfz15_3 := qa BK129.out 3; have hcz16_0 : w13.cell? ⟨gb130, 0, none⟩ = some (.slice A1_0 l1_0.length c1_0) := (qd BK130.out 0).trans rfl; have hcz16_1 : w13.cell? ⟨gb130, 1, none⟩ = some (.int .i64 a1_1) := (qd BK130.out 1).trans rfl; have hcz16_2 : w13.cell? ⟨gb130, 2, none⟩ = some (.int .i64 a1_2) := (qd BK130.out 2).trans rfl; have hcz16_3 : w13.cell? ⟨gb130, 3, none⟩ = some (.int .i64 a1_3) := (qd BK130.out 3).trans rfl; have hfz16_0 := qa BK130.out 0; have hfz16_1 := qa BK130.out 1; have hfz16_2 := qa BK130.out 2; have hfz16_3 := qa BK130.out 3))
    go_ret
    exact ⟨by first | rfl | (simp [errW_none, errW_some] <;> rfl) | (simp [*, errW_none, errW_some] <;> rfl), by repeat (first | (with_reducible first | exact HB.out | apply qe | apply qb | apply qc | refine qf ?_ GE129.out | refine qf ?_ GE130.out) | exact HB.out)⟩
  ·
   rw [if_neg c4] at H
   have c4b0 : (a0_2 == a1_2) = false := beq_eq_false_iff_ne.mpr c4
   have c4b1 : (a0_2 != a1_2) = true := bne_iff_ne.mpr c4
   obtain rfl := Option.some.inj H
   go_enter Try.func18, Try.ntmps18
   go_wp2_with (first | ((with_reducible refine qm (N := 2) rfl ?_); refine ql ?hg (N := 2) ?hd (cs := #[.slice A0_0 l0_0.length c0_0, .int .i64 a0_1, .int .i64 a0_2, .int .i64 a0_3]) (t := 29) ?hr ?_; (case hd => rfl); (case hg => rfl); (case hr => first | (go_simp; done) | (go_simp; rfl)); intro gb129 hg w17 hbox hb; have n0_ := Aside0.mk (qk (by repeat (first | (with_reducible first | exact HB.out | apply qe | apply qb | apply qc) | exact HB.out)) hb); have n1_ := Aside0.mk (hbox); have n2_ := Aside0.mk ((by rw [hg]; exact (qg (by repeat (first | (with_reducible first | exact HB.out | apply qe | apply qb | apply qc) | exact HB.out))) : w.heap.size ≤ gb129)); have n3_ := Aside0.mk ((by rw [hg]; exact (qg (by repeat (first | (with_reducible first | exact HB.out | apply qe | apply qb | apply qc) | exact HB.out))) : w.heap.size ≤ gb129)); clear HB; have HB := n0_; have BK129 := n1_; have GW129 := n2_; have GE129 := n3_; clear n0_ n1_ n2_ n3_; clear hb hbox hg) | ((with_reducible refine qm (N := 3) rfl ?_); refine ql ?hg (N := 3) ?hd (cs := #[.slice A1_0 l1_0.length c1_0, .int .i64 a1_1, .int .i64 a1_2, .int .i64 a1_3]) (t := 29) ?hr ?_; (case hd => rfl); (case hg => rfl); (case hr => first | (go_simp; done) | (go_simp; rfl)); intro gb130 hg w18 hbox hb; have n0_ := Aside0.mk (qn (g := gb129) (o := .cells #[.slice A0_0 l0_0.length c0_0, .int .i64 a0_1, .int .i64 a0_2, .int .i64 a0_3] 29 (0, 0)) (by (with_reducible repeat (first | refine qh ?_ _ | refine qj ?_ | refine qi ?_ _)); exact BK129.out) hb); have n1_ := Aside0.mk (qk (by repeat (first | (with_reducible first | exact HB.out | apply qe | apply qb | apply qc | refine qf ?_ GE129.out) | exact HB.out)) hb); have n2_ := Aside0.mk (hbox); have n3_ := Aside0.mk ((by rw [hg]; exact (qg (by repeat (first | (with_reducible first | exact HB.out | apply qe | apply qb | apply qc | refine qf ?_ GE129.out) | exact HB.out))) : w.heap.size ≤ gb130)); have n4_ := Aside0.mk ((by rw [hg]; exact (qg (by repeat (first | (with_reducible first | exact HB.out | apply qe | apply qb | apply qc | refine qf ?_ GE129.out) | exact HB.out))) : w.heap.size ≤ gb130)); have n5_ := Aside0.mk ((by rw [hg]; exact Nat.ne_of_lt (blk_lt (g := gb129) (o := .cells #[.slice A0_0 l0_0.length c0_0, .int .i64 a0_1, .int .i64 a0_2, .int .i64 a0_3] 29 (0, 0)) (by (with_reducible repeat (first | refine qh ?_ _ | refine qj ?_ | refine qi ?_ _)); exact BK129.out)) : gb129 ≠ gb130)); have n6_ := Aside0.mk ((by rw [hg]; exact Nat.ne_of_gt (blk_lt (g := gb129) (o := .cells #[.slice A0_0 l0_0.length c0_0, .int .i64 a0_1, .int .i64 a0_2, .int .i64 a0_3] 29 (0, 0)) (by (with_reducible repeat (first | refine qh ?_ _ | refine qj ?_ | refine qi ?_ _)); exact BK129.out)) : gb130 ≠ gb129)); clear BK129; clear HB; have BK129 := n0_; have HB := n1_; have BK130 := n2_; have GW130 := n3_; have GE130 := n4_; have NB129_130 := n5_; have NB130_129 := n6_; clear n0_ n1_ n2_ n3_ n4_ n5_ n6_; clear hb hbox hg; have hnb19 := NB129_130.out; have hnc19 := NB130_129.out; have hcz20_0 : w18.cell? ⟨gb129, 0, none⟩ = some (.slice A0_0 l0_0.length c0_0) := (qd BK129.out 0).trans rfl; have hcz20_1 : w18.cell? ⟨gb129, 1, none⟩ = some (.int .i64 a0_1) := (qd BK129.out 1).trans rfl; have hcz20_2 : w18.cell? ⟨gb129, 2, none⟩ = some (.int .i64 a0_2) := (qd BK129.out 2).trans rfl; have hcz20_3 : w18.cell? ⟨gb129, 3, none⟩ = some (.int .i64 a0_3) := (qd BK129.out 3).trans rfl; have hfz20_0 := qa BK129.out 0; have hfz20_1 := qa BK129.out 1; have hfz20_2 := qa BK129.out 2; have hfz20_3 := qa BK129.out 3; have hcz21_0 : w18.cell? ⟨gb130, 0, none⟩ = some (.slice A1_0 l1_0.length c1_0) := (qd BK130.out 0).trans rfl; have hcz21_1 : w18.cell? ⟨gb130, 1, none⟩ = some (.int .i64 a1_1) := (qd BK130.out 1).trans rfl; have hcz21_2 : w18.cell? ⟨gb130, 2, none⟩ = some (.int .i64 a1_2) := (qd BK130.out 2).trans rfl; have hcz21_3 : w18.cell? ⟨gb130, 3, none⟩ = some (.int .i64 a1_3) := (qd BK130.out 3).trans rfl; have hfz21_0 := qa BK130.out 0; have hfz21_1 := qa BK130.out 1; have hfz21_2 := qa BK130.out 2; have hfz21_3 := qa BK130.out 3))
   go_ret
   exact ⟨by first | rfl | (simp [errW_none, errW_some] <;> rfl) | (simp [*, errW_none, errW_some] <;> rfl), by repeat (first | (with_reducible first | exact HB.out | apply qe | apply qb | apply qc | refine qf ?_ GE129.out | refine qf ?_ GE130.out) | exact HB.out)⟩
 ·
  rw [if_neg c3] at H
  have c3b0 : (a0_1 == a1_1) = false := beq_eq_false_iff_ne.mpr c3
  have c3b1 : (a0_1 != a1_1) = true := bne_iff_ne.mpr c3
  obtain rfl := Option.some.inj H
  go_enter Try.func18, Try.ntmps18
  go_wp2_with (first | ((with_reducible refine qm (N := 2) rfl ?_); refine ql ?hg (N := 2) ?hd (cs := #[.slice A0_0 l0_0.length c0_0, .int .i64 a0_1, .int .i64 a0_2, .int .i64 a0_3]) (t := 29) ?hr ?_; (case hd => rfl); (case hg => rfl); (case hr => first | (go_simp; done) | (go_simp; rfl)); intro gb129 hg w22 hbox hb; have n0_ := Aside0.mk (qk (by repeat (first | (with_reducible first | exact HB.out | apply qe | apply qb | apply qc) | exact HB.out)) hb); have n1_ := Aside0.mk (hbox); have n2_ := Aside0.mk ((by rw [hg]; exact (qg (by repeat (first | (with_reducible first | exact HB.out | apply qe | apply qb | apply qc) | exact HB.out))) : w.heap.size ≤ gb129)); have n3_ := Aside0.mk ((by rw [hg]; exact (qg (by repeat (first | (with_reducible first | exact HB.out | apply qe | apply qb | apply qc) | exact HB.out))) : w.heap.size ≤ gb129)); clear HB; have HB := n0_; have BK129 := n1_; have GW129 := n2_; have GE129 := n3_; clear n0_ n1_ n2_ n3_; clear hb hbox hg) | ((with_reducible refine qm (N := 3) rfl ?_); refine ql ?hg (N := 3) ?hd (cs := #[.slice A1_0 l1_0.length c1_0, .int .i64 a1_1, .int .i64 a1_2, .int .i64 a1_3]) (t := 29) ?hr ?_; (case hd => rfl); (case hg => rfl); (case hr => first | (go_simp; done) | (go_simp; rfl)); intro gb130 hg w23 hbox hb; have n0_ := Aside0.mk (qn (g := gb129) (o := .cells #[.slice A0_0 l0_0.length c0_0, .int .i64 a0_1, .int .i64 a0_2, .int .i64 a0_3] 29 (0, 0)) (by (with_reducible repeat (first | refine qh ?_ _ | refine qj ?_ | refine qi ?_ _)); exact BK129.out) hb); have n1_ := Aside0.mk (qk (by repeat (first | (with_reducible first | exact HB.out | apply qe | apply qb | apply qc | refine qf ?_ GE129.out) | exact HB.out)) hb); have n2_ := Aside0.mk (hbox); have n3_ := Aside0.mk ((by rw [hg]; exact (qg (by repeat (first | (with_reducible first | exact HB.out | apply qe | apply qb | apply qc | refine qf ?_ GE129.out) | exact HB.out))) : w.heap.size ≤ gb130)); have n4_ := Aside0.mk ((by rw [hg]; exact (qg (by repeat (first | (with_reducible first | exact HB.out | apply qe | apply qb | apply qc | refine qf ?_ GE129.out) | exact HB.out))) : w.heap.size ≤ gb130)); have n5_ := Aside0.mk ((by rw [hg]; exact Nat.ne_of_lt (blk_lt (g := gb129) (o := .cells #[.slice A0_0 l0_0.length c0_0, .int .i64 a0_1, .int .i64 a0_2, .int .i64 a0_3] 29 (0, 0)) (by (with_reducible repeat (first | refine qh ?_ _ | refine qj ?_ | refine qi ?_ _)); exact BK129.out)) : gb129 ≠ gb130)); have n6_ := Aside0.mk ((by rw [hg]; exact Nat.ne_of_gt (blk_lt (g := gb129) (o := .cells #[.slice A0_0 l0_0.length c0_0, .int .i64 a0_1, .int .i64 a0_2, .int .i64 a0_3] 29 (0, 0)) (by (with_reducible repeat (first | refine qh ?_ _ | refine qj ?_ | refine qi ?_ _)); exact BK129.out)) : gb130 ≠ gb129)); clear BK129; clear HB; have BK129 := n0_; have HB := n1_; have BK130 := n2_; have GW130 := n3_; have GE130 := n4_; have NB129_130 := n5_; have NB130_129 := n6_; clear n0_ n1_ n2_ n3_ n4_ n5_ n6_; clear hb hbox hg; have hnb24 := NB129_130.out; have hnc24 := NB130_129.out; have hcz25_0 : w23.cell? ⟨gb129, 0, none⟩ = some (.slice A0_0 l0_0.length c0_0) := (qd BK129.out 0).trans rfl; have hcz25_1 : w23.cell? ⟨gb129, 1, none⟩ = some (.int .i64 a0_1) := (qd BK129.out 1).trans rfl; have hcz25_2 : w23.cell? ⟨gb129, 2, none⟩ = some (.int .i64 a0_2) := (qd BK129.out 2).trans rfl; have hcz25_3 : w23.cell? ⟨gb129, 3, none⟩ = some (.int .i64 a0_3) := (qd BK129.out 3).trans rfl; have hfz25_0 := qa BK129.out 0; have hfz25_1 := qa BK129.out 1; have hfz25_2 := qa BK129.out 2; have hfz25_3 := qa BK129.out 3; have hcz26_0 : w23.cell? ⟨gb130, 0, none⟩ = some (.slice A1_0 l1_0.length c1_0) := (qd BK130.out 0).trans rfl; have hcz26_1 : w23.cell? ⟨gb130, 1, none⟩ = some (.int .i64 a1_1) := (qd BK130.out 1).trans rfl; have hcz26_2 : w23.cell? ⟨gb130, 2, none⟩ = some (.int .i64 a1_2) := (qd BK130.out 2).trans rfl; have hcz26_3 : w23.cell? ⟨gb130, 3, none⟩ = some (.int .i64 a1_3) := (qd BK130.out 3).trans rfl; have hfz26_0 := qa BK130.out 0; have hfz26_1 := qa BK130.out 1; have hfz26_2 := qa BK130.out 2; have hfz26_3 := qa BK130.out 3))
  go_ret
  exact ⟨by first | rfl | (simp [errW_none, errW_some] <;> rfl) | (simp [*, errW_none, errW_some] <;> rfl), by repeat (first | (with_reducible first | exact HB.out | apply qe | apply qb | apply qc | refine qf ?_ GE129.out | refine qf ?_ GE130.out) | exact HB.out)⟩

/-! ### laws_eqAgg: function 100 -/
def laws_eqAgg.f (a0_0 : Int) (a0_1 : Int) (a0_2 : Int) (a0_3 : Int) (a0_4 : Int) (a0_5 : Int) (a1_0 : Int) (a1_1 : Int) (a1_2 : Int) (a1_3 : Int) (a1_4 : Int) (a1_5 : Int) : Option (Bool) := if a0_0 = a1_0 then (if a0_1 = a1_1 then (if a0_2 = a1_2 then (if a0_3 = a1_3 then (if a0_4 = a1_4 then (if a0_5 = a1_5 then (some true) else (some false)) else (some false)) else (some false)) else (some false)) else (some false)) else (some false)
set_option maxHeartbeats 8000000 in
set_option maxRecDepth 100000 in
theorem laws_eqAgg.calls (a0_0 : Int) (a0_1 : Int) (a0_2 : Int) (a0_3 : Int) (a0_4 : Int) (a0_5 : Int) (a1_0 : Int) (a1_1 : Int) (a1_2 : Int) (a1_3 : Int) (a1_4 : Int) (a1_5 : Int) (r : Bool) (w : World) (h : laws_eqAgg.f a0_0 a0_1 a0_2 a0_3 a0_4 a0_5 a1_0 a1_1 a1_2 a1_3 a1_4 a1_5 = some r) :
  Calls Try.prog 100 #[.agg #[.int .i64 a0_0, .int .i64 a0_1, .int .i64 a0_2, .int .i64 a0_3, .int .i64 a0_4, .int .i64 a0_5], .agg #[.int .i64 a1_0, .int .i64 a1_1, .int .i64 a1_2, .int .i64 a1_3, .int .i64 a1_4, .int .i64 a1_5]] w fun e w' => e = .returned (.bool r) ∧ Below w.heap.size w w' := by
 have hu84 := Try.underlying84
 have HB := Aside0.mk (Below.refl w.heap.size w)
 have H : (if a0_0 = a1_0 then (if a0_1 = a1_1 then (if a0_2 = a1_2 then (if a0_3 = a1_3 then (if a0_4 = a1_4 then (if a0_5 = a1_5 then (some true) else (some false)) else (some false)) else (some false)) else (some false)) else (some false)) else (some false)) = some r := h
 clear h
 by_cases c3 : a0_0 = a1_0
 ·
  rw [if_pos c3] at H
  have c3b0 : (a0_0 == a1_0) = true := beq_iff_eq.mpr c3
  have c3b1 : (a0_0 != a1_0) = false := bne_eq_false_iff_eq.mpr c3
  clear c3
  by_cases c4 : a0_1 = a1_1
  ·
   rw [if_pos c4] at H
   have c4b0 : (a0_1 == a1_1) = true := beq_iff_eq.mpr c4
   have c4b1 : (a0_1 != a1_1) = false := bne_eq_false_iff_eq.mpr c4
   clear c4
   by_cases c5 : a0_2 = a1_2
   ·
    rw [if_pos c5] at H
    have c5b0 : (a0_2 == a1_2) = true := beq_iff_eq.mpr c5
    have c5b1 : (a0_2 != a1_2) = false := bne_eq_false_iff_eq.mpr c5
    clear c5
    by_cases c6 : a0_3 = a1_3
    ·
     rw [if_pos c6] at H
     have c6b0 : (a0_3 == a1_3) = true := beq_iff_eq.mpr c6
     have c6b1 : (a0_3 != a1_3) = false := bne_eq_false_iff_eq.mpr c6
     clear c6
     by_cases c7 : a0_4 = a1_4
     ·
      rw [if_pos c7] at H
      have c7b0 : (a0_4 == a1_4) = true := beq_iff_eq.mpr c7
      have c7b1 : (a0_4 != a1_4) = false := bne_eq_false_iff_eq.mpr c7
      clear c7
      by_cases c8 : a0_5 = a1_5
      ·
       rw [if_pos c8] at H
       have c8b0 : (a0_5 == a1_5) = true := beq_iff_eq.mpr c8
       have c8b1 : (a0_5 != a1_5) = false := bne_eq_false_iff_eq.mpr c8
       clear c8
       obtain rfl := Option.some.inj H
       go_enter Try.func100, Try.ntmps100
       go_wp2_with (first | ((with_reducible refine qm (N := 2) rfl ?_); refine ql ?hg (N := 2) ?hd (cs := #[.int .i64 a0_0, .int .i64 a0_1, .int .i64 a0_2, .int .i64 a0_3, .int .i64 a0_4, .int .i64 a0_5]) (t := 84) ?hr ?_; (case hd => rfl); (case hg => rfl); (case hr => first | (go_simp; done) | (go_simp; rfl)); intro gb132 hg w9 hbox hb; have n0_ := Aside0.mk (qk (by repeat (first | (with_reducible first | exact HB.out | apply qe | apply qb | apply qc) | exact HB.out)) hb); have n1_ := Aside0.mk (hbox); have n2_ := Aside0.mk ((by rw [hg]; exact (qg (by repeat (first | (with_reducible first | exact HB.out | apply qe | apply qb | apply qc) | exact HB.out))) : w.heap.size ≤ gb132)); have n3_ := Aside0.mk ((by rw [hg]; exact (qg (by repeat (first | (with_reducible first | exact HB.out | apply qe | apply qb | apply qc) | exact HB.out))) : w.heap.size ≤ gb132)); clear HB; have HB := n0_; have BK132 := n1_; have GW132 := n2_; have GE132 := n3_; clear n0_ n1_ n2_ n3_; clear hb hbox hg) | ((with_reducible refine qm (N := 3) rfl ?_); refine ql ?hg (N := 3) ?hd (cs := #[.int .i64 a1_0, .int .i64 a1_1, .int .i64 a1_2, .int .i64 a1_3, .int .i64 a1_4, .int .i64 a1_5]) (t := 84) ?hr ?_; (case hd => rfl); (case hg => rfl); (case hr => first | (go_simp; done) | (go_simp; rfl)); intro gb133 hg w10 hbox hb; have n0_ := Aside0.mk (qn (g := gb132) (o := .cells #[.int .i64 a0_0, .int .i64 a0_1, .int .i64 a0_2, .int .i64 a0_3, .int .i64 a0_4, .int .i64 a0_5] 84 (0, 0)) (by (with_reducible repeat (first | refine qh ?_ _ | refine qj ?_ | refine qi ?_ _)); exact BK132.out) hb); have n1_ := Aside0.mk (qk (by repeat (first | (with_reducible first | exact HB.out | apply qe | apply qb | apply qc | refine qf ?_ GE132.out) | exact HB.out)) hb); have n2_ := Aside0.mk (hbox); have n3_ := Aside0.mk ((by rw [hg]; exact (qg (by repeat (first | (with_reducible first | exact HB.out | apply qe | apply qb | apply qc | refine qf ?_ GE132.out) | exact HB.out))) : w.heap.size ≤ gb133)); have n4_ := Aside0.mk ((by rw [hg]; exact (qg (by repeat (first | (with_reducible first | exact HB.out | apply qe | apply qb | apply qc | refine qf ?_ GE132.out) | exact HB.out))) : w.heap.size ≤ gb133)); have n5_ := Aside0.mk ((by rw [hg]; exact Nat.ne_of_lt (blk_lt (g := gb132) (o := .cells #[.int .i64 a0_0, .int .i64 a0_1, .int .i64 a0_2, .int .i64 a0_3, .int .i64 a0_4, .int .i64 a0_5] 84 (0, 0)) (by (with_reducible repeat (first | refine qh ?_ _ | refine qj ?_ | refine qi ?_ _)); exact BK132.out)) : gb132 ≠ gb133)); have n6_ := Aside0.mk ((by rw [hg]; exact Nat.ne_of_gt (blk_lt (g := gb132) (o := .cells #[.int .i64 a0_0, .int .i64 a0_1, .int .i64 a0_2, .int .i64 a0_3, .int .i64 a0_4, .int .i64 a0_5] 84 (0, 0)) (by (with_reducible repeat (first | refine qh ?_ _ | refine qj ?_ | refine qi ?_ _)); exact BK132.out)) : gb133 ≠ gb132)); clear BK132; clear HB; have BK132 := n0_; have HB := n1_; have BK133 := n2_; have GW133 := n3_; have GE133 := n4_; have NB132_133 := n5_; have NB133_132 := n6_; clear n0_ n1_ n2_ n3_ n4_ n5_ n6_; clear hb hbox hg; have hnb11 := NB132_133.out; have hnc11 := NB133_132.out; have hcz12_0 : w10.cell? ⟨gb132, 0, none⟩ = some (.int .i64 a0_0) := (qd BK132.out 0).trans rfl; have hcz12_1 : w10.cell? ⟨gb132, 1, none⟩ = some (.int .i64 a0_1) := (qd BK132.out 1).trans rfl; have hcz12_2 : w10.cell? ⟨gb132, 2, none⟩ = some (.int .i64 a0_2) := (qd BK132.out 2).trans rfl; have hcz12_3 : w10.cell? ⟨gb132, 3, none⟩ = some (.int .i64 a0_3) := (qd BK132.out 3).trans rfl; have hcz12_4 : w10.cell? ⟨gb132, 4, none⟩ = some (.int .i64 a0_4) := (qd BK132.out 4).trans rfl; have hcz12_5 : w10.cell? ⟨gb132, 5, none⟩ = some (.int .i64 a0_5) := (qd BK132.out 5).trans rfl; have hfz12_0 := qa BK132.out 0; have hfz12_1 := qa BK132.out 1; have hfz12_2 := qa BK132.out 2; have hfz12_3 := qa BK132.out 3; have hfz12_4 := qa BK132.out 4; have hfz12_5 := qa BK132.out 5; have hcz13_0 : w10.cell? ⟨gb133, 0, none⟩ = some (.int .i64 a1_0) := (qd BK133.out 0).trans rfl; have hcz13_1 : w10.cell? ⟨gb133, 1, none⟩ = some (.int .i64 a1_1) := (qd BK133.out 1).trans rfl; have hcz13_2 : w10.cell? ⟨gb133, 2, none⟩ = some (.int .i64 a1_2) := (qd BK133.out 2).trans rfl; have hcz13_3 : w10.cell? ⟨gb133, 3, none⟩ = some (.int .i64 a1_3) := (qd BK133.out 3).trans rfl; have hcz13_4 : w10.cell? ⟨gb133, 4, none⟩ = some (.int .i64 a1_4) := (qd BK133.out 4).trans rfl; have hcz13_5 : w10.cell? ⟨gb133, 5, none⟩ = some (.int .i64 a1_5) := (qd BK133.out 5).trans rfl; have hfz13_0 := qa BK133.out 0; have hfz13_1 := qa BK133.out 1; have hfz13_2 := qa BK133.out 2; have hfz13_3 := qa BK133.out 3; have hfz13_4 := qa BK133.out 4; have hfz13_5 := qa BK133.out 5))
       go_ret
       exact ⟨by first | rfl | (simp [errW_none, errW_some] <;> rfl) | (simp [*, errW_none, errW_some] <;> rfl), by repeat (first | (with_reducible first | exact HB.out | apply qe | apply qb | apply qc | refine qf ?_ GE132.out | refine qf ?_ GE133.out) | exact HB.out)⟩
      ·
       rw [if_neg c8] at H
       have c8b0 : (a0_5 == a1_5) = false := beq_eq_false_iff_ne.mpr c8
       have c8b1 : (a0_5 != a1_5) = true := bne_iff_ne.mpr c8
       obtain rfl := Option.some.inj H
       go_enter Try.func100, Try.ntmps100
       go_wp2_with (first | ((with_reducible refine qm (N := 2) rfl ?_); refine ql ?hg (N := 2) ?hd (cs := #[.int .i64 a0_0, .int .i64 a0_1, .int .i64 a0_2, .int .i64 a0_3, .int .i64 a0_4, .int .i64 a0_5]) (t := 84) ?hr ?_; (case hd => rfl); (case hg => rfl); (case hr => first | (go_simp; done) | (go_simp; rfl)); intro gb132 hg w14 hbox hb; have n0_ := Aside0.mk (qk (by repeat (first | (with_reducible first | exact HB.out | apply qe | apply qb | apply qc) | exact HB.out)) hb); have n1_ := Aside0.mk (hbox); have n2_ := Aside0.mk ((by rw [hg]; exact (qg (by repeat (first | (with_reducible first | exact HB.out | apply qe | apply qb | apply qc) | exact HB.out))) : w.heap.size ≤ gb132)); have n3_ := Aside0.mk ((by rw [hg]; exact (qg (by repeat (first | (with_reducible first | exact HB.out | apply qe | apply qb | apply qc) | exact HB.out))) : w.heap.size ≤ gb132)); clear HB; have HB := n0_; have BK132 := n1_; have GW132 := n2_; have GE132 := n3_; clear n0_ n1_ n2_ n3_; clear hb hbox hg) | ((with_reducible refine qm (N := 3) rfl ?_); refine ql ?hg (N := 3) ?hd (cs := #[.int .i64 a1_0, .int .i64 a1_1, .int .i64 a1_2, .int .i64 a1_3, .int .i64 a1_4, .int .i64 a1_5]) (t := 84) ?hr ?_; (case hd => rfl); (case hg => rfl); (case hr => first | (go_simp; done) | (go_simp; rfl)); intro gb133 hg w15 hbox hb; have n0_ := Aside0.mk (qn (g := gb132) (o := .cells #[.int .i64 a0_0, .int .i64 a0_1, .int .i64 a0_2, .int .i64 a0_3, .int .i64 a0_4, .int .i64 a0_5] 84 (0, 0)) (by (with_reducible repeat (first | refine qh ?_ _ | refine qj ?_ | refine qi ?_ _)); exact BK132.out) hb); have n1_ := Aside0.mk (qk (by repeat (first | (with_reducible first | exact HB.out | apply qe | apply qb | apply qc | refine qf ?_ GE132.out) | exact HB.out)) hb); have n2_ := Aside0.mk (hbox); have n3_ := Aside0.mk ((by rw [hg]; exact (qg (by repeat (first | (with_reducible first | exact HB.out | apply qe | apply qb | apply qc | refine qf ?_ GE132.out) | exact HB.out))) : w.heap.size ≤ gb133)); have n4_ := Aside0.mk ((by rw [hg]; exact (qg (by repeat (first | (with_reducible first | exact HB.out | apply qe | apply qb | apply qc | refine qf ?_ GE132.out) | exact HB.out))) : w.heap.size ≤ gb133)); have n5_ := Aside0.mk ((by rw [hg]; exact Nat.ne_of_lt (blk_lt (g := gb132) (o := .cells #[.int .i64 a0_0, .int .i64 a0_1, .int .i64 a0_2, .int .i64 a0_3, .int .i64 a0_4, .int .i64 a0_5] 84 (0, 0)) (by (with_reducible repeat (first | refine qh ?_ _ | refine qj ?_ | refine qi ?_ _)); exact BK132.out)) : gb132 ≠ gb133)); have n6_ := Aside0.mk ((by rw [hg]; exact Nat.ne_of_gt (blk_lt (g := gb132) (o := .cells #[.int .i64 a0_0, .int .i64 a0_1, .int .i64 a0_2, .int .i64 a0_3, .int .i64 a0_4, .int .i64 a0_5] 84 (0, 0)) (by (with_reducible repeat (first | refine qh ?_ _ | refine qj ?_ | refine qi ?_ _)); exact BK132.out)) : gb133 ≠ gb132)); clear BK132; clear HB; have BK132 := n0_; have HB := n1_; have BK133 := n2_; have GW133 := n3_; have GE133 := n4_; have NB132_133 := n5_; have NB133_132 := n6_; clear n0_ n1_ n2_ n3_ n4_ n5_ n6_; clear hb hbox hg; have hnb16 := NB132_133.out; have hnc16 := NB133_132.out; have hcz17_0 : w15.cell? ⟨gb132, 0, none⟩ = some (.int .i64 a0_0) := (qd BK132.out 0).trans rfl; have hcz17_1 : w15.cell? ⟨gb132, 1, none⟩ = some (.int .i64 a0_1) := (qd BK132.out 1).trans rfl; have hcz17_2 : w15.cell? ⟨gb132, 2, none⟩ = some (.int .i64 a0_2) := (qd BK132.out 2).trans rfl; have hcz17_3 : w15.cell? ⟨gb132, 3, none⟩ = some (.int .i64 a0_3) := (qd BK132.out 3).trans rfl; have hcz17_4 : w15.cell? ⟨gb132, 4, none⟩ = some (.int .i64 a0_4) := (qd BK132.out 4).trans rfl; have hcz17_5 : w15.cell? ⟨gb132, 5, none⟩ = some (.int .i64 a0_5) := (qd BK132.out 5).trans rfl; have hfz17_0 := qa BK132.out 0; have hfz17_1 := qa BK132.out 1; have hfz17_2 := qa BK132.out 2; have hfz17_3 := qa BK132.out 3; have hfz17_4 := qa BK132.out 4; have hfz17_5 := qa BK132.out 5; have hcz18_0 : w15.cell? ⟨gb133, 0, none⟩ = some (.int .i64 a1_0) := (qd BK133.out 0).trans rfl; have hcz18_1 : w15.cell? ⟨gb133, 1, none⟩ = some (.int .i64 a1_1) := (qd BK133.out 1).trans rfl; have hcz18_2 : w15.cell? ⟨gb133, 2, none⟩ = some (.int .i64 a1_2) := (qd BK133.out 2).trans rfl; have hcz18_3 : w15.cell? ⟨gb133, 3, none⟩ = some (.int .i64 a1_3) := (qd BK133.out 3).trans rfl; have hcz18_4 : w15.cell? ⟨gb133, 4, none⟩ = some (.int .i64 a1_4) := (qd BK133.out 4).trans rfl; have hcz18_5 : w15.cell? ⟨gb133, 5, none⟩ = some (.int .i64 a1_5) := (qd BK133.out 5).trans rfl; have hfz18_0 := qa BK133.out 0; have hfz18_1 := qa BK133.out 1; have hfz18_2 := qa BK133.out 2; have hfz18_3 := qa BK133.out 3; have hfz18_4 := qa BK133.out 4; have hfz18_5 := qa BK133.out 5))
       go_ret
       exact ⟨by first | rfl | (simp [errW_none, errW_some] <;> rfl) | (simp [*, errW_none, errW_some] <;> rfl), by repeat (first | (with_reducible first | exact HB.out | apply qe | apply qb | apply qc | refine qf ?_ GE132.out | refine qf ?_ GE133.out) | exact HB.out)⟩
     ·
      rw [if_neg c7] at H
      have c7b0 : (a0_4 == a1_4) = false := beq_eq_false_iff_ne.mpr c7
      have c7b1 : (a0_4 != a1_4) = true := bne_iff_ne.mpr c7
      obtain rfl := Option.some.inj H
      go_enter Try.func100, Try.ntmps100
      go_wp2_with (first | ((with_reducible refine qm (N := 2) rfl ?_); refine ql ?hg (N := 2) ?hd (cs := #[.int .i64 a0_0, .int .i64 a0_1, .int .i64 a0_2, .int .i64 a0_3, .int .i64 a0_4, .int .i64 a0_5]) (t := 84) ?hr ?_; (case hd => rfl); (case hg => rfl); (case hr => first | (go_simp; done) | (go_simp; rfl)); intro gb132 hg w19 hbox hb; have n0_ := Aside0.mk (qk (by repeat (first | (with_reducible first | exact HB.out | apply qe | apply qb | apply qc) | exact HB.out)) hb); have n1_ := Aside0.mk (hbox); have n2_ := Aside0.mk ((by rw [hg]; exact (qg (by repeat (first | (with_reducible first | exact HB.out | apply qe | apply qb | apply qc) | exact HB.out))) : w.heap.size ≤ gb132)); have n3_ := Aside0.mk ((by rw [hg]; exact (qg (by repeat (first | (with_reducible first | exact HB.out | apply qe | apply qb | apply qc) | exact HB.out))) : w.heap.size ≤ gb132)); clear HB; have HB := n0_; have BK132 := n1_; have GW132 := n2_; have GE132 := n3_; clear n0_ n1_ n2_ n3_; clear hb hbox hg) | ((with_reducible refine qm (N := 3) rfl ?_); refine ql ?hg (N := 3) ?hd (cs := #[.int .i64 a1_0, .int .i64 a1_1, .int .i64 a1_2, .int .i64 a1_3, .int .i64 a1_4, .int .i64 a1_5]) (t := 84) ?hr ?_; (case hd => rfl); (case hg => rfl); (case hr => first | (go_simp; done) | (go_simp; rfl)); intro gb133 hg w20 hbox hb; have n0_ := Aside0.mk (qn (g := gb132) (o := .cells #[.int .i64 a0_0, .int .i64 a0_1, .int .i64 a0_2, .int .i64 a0_3, .int .i64 a0_4, .int .i64 a0_5] 84 (0, 0)) (by (with_reducible repeat (first | refine qh ?_ _ | refine qj ?_ | refine qi ?_ _)); exact BK132.out) hb); have n1_ := Aside0.mk (qk (by repeat (first | (with_reducible first | exact HB.out | apply qe | apply qb | apply qc | refine qf ?_ GE132.out) | exact HB.out)) hb); have n2_ := Aside0.mk (hbox); have n3_ := Aside0.mk ((by rw [hg]; exact (qg (by repeat (first | (with_reducible first | exact HB.out | apply qe | apply qb | apply qc | refine qf ?_ GE132.out) | exact HB.out))) : w.heap.size ≤ gb133)); have n4_ := Aside0.mk ((by rw [hg]; exact (qg (by repeat (first | (with_reducible first | exact HB.out | apply qe | apply qb | apply qc | refine qf ?_ GE132.out) | exact HB.out))) : w.heap.size ≤ gb133)); have n5_ := Aside0.mk ((by rw [hg]; exact Nat.ne_of_lt (blk_lt (g := gb132) (o := .cells #[.int .i64 a0_0, .int .i64 a0_1, .int .i64 a0_2, .int .i64 a0_3, .int .i64 a0_4, .int .i64 a0_5] 84 (0, 0)) (by (with_reducible repeat (first | refine qh ?_ _ | refine qj ?_ | refine qi ?_ _)); exact BK132.out)) : gb132 ≠ gb133)); have n6_ := Aside0.mk ((by rw [hg]; exact Nat.ne_of_gt (blk_lt (g := gb132) (o := .cells #[.int .i64 a0_0, .int .i64 a0_1, .int .i64 a0_2, .int .i64 a0_3, .int .i64 a0_4, .int .i64 a0_5] 84 (0, 0)) (by (with_reducible repeat (first | refine qh ?_ _ | refine qj ?_ | refine qi ?_ _)); exact BK132.out)) : gb133 ≠ gb132)); clear BK132; clear HB; have BK132 := n0_; have HB := n1_; have BK133 := n2_; have GW133 := n3_; have GE133 := n4_; have NB132_133 := n5_; have NB133_132 := n6_; clear n0_ n1_ n2_ n3_ n4_ n5_ n6_; clear hb hbox hg; have hnb21 := NB132_133.out; have hnc21 := NB133_132.out; have hcz22_0 : w20.cell? ⟨gb132, 0, none⟩ = some (.int .i64 a0_0) := (qd BK132.out 0).trans rfl; have hcz22_1 : w20.cell? ⟨gb132, 1, none⟩ = some (.int .i64 a0_1) := (qd BK132.out 1).trans rfl; have hcz22_2 : w20.cell? ⟨gb132, 2, none⟩ = some (.int .i64 a0_2) := (qd BK132.out 2).trans rfl; have hcz22_3 : w20.cell? ⟨gb132, 3, none⟩ = some (.int .i64 a0_3) := (qd BK132.out 3).trans rfl; have hcz22_4 : w20.cell? ⟨gb132, 4, none⟩ = some (.int .i64 a0_4) := (qd BK132.out 4).trans rfl; have hcz22_5 : w20.cell? ⟨gb132, 5, none⟩ = some (.int .i64 a0_5) := (qd BK132.out 5).trans rfl; have hfz22_0 := qa BK132.out 0; have hfz22_1 := qa BK132.out 1; have hfz22_2 := qa BK132.out 2; have hfz22_3 := qa BK132.out 3; have hfz22_4 := qa BK132.out 4; have hfz22_5 := qa BK132.out 5; have hcz23_0 : w20.cell? ⟨gb133, 0, none⟩ = some (.int .i64 a1_0) := (qd BK133.out 0).trans rfl; have hcz23_1 : w20.cell? ⟨gb133, 1, none⟩ = some (.int .i64 a1_1) := (qd BK133.out 1).trans rfl; have hcz23_2 : w20.cell? ⟨gb133, 2, none⟩ = some (.int .i64 a1_2) := (qd BK133.out 2).trans rfl; have hcz23_3 : w20.cell? ⟨gb133, 3, none⟩ = some (.int .i64 a1_3) := (qd BK133.out 3).trans rfl; have hcz23_4 : w20.cell? ⟨gb133, 4, none⟩ = some (.int .i64 a1_4) := (qd BK133.out 4).trans rfl; have hcz23_5 : w20.cell? ⟨gb133, 5, none⟩ = some (.int .i64 a1_5) := (qd BK133.out 5).trans rfl; have hfz23_0 := qa BK133.out 0; have hfz23_1 := qa BK133.out 1; have hfz23_2 := qa BK133.out 2; have hfz23_3 := qa BK133.out 3; have hfz23_4 := qa BK133.out 4; have hfz23_5 := qa BK133.out 5))
      go_ret
      exact ⟨by first | rfl | (simp [errW_none, errW_some] <;> rfl) | (simp [*, errW_none, errW_some] <;> rfl), by repeat (first | (with_reducible first | exact HB.out | apply qe | apply qb | apply qc | refine qf ?_ GE132.out | refine qf ?_ GE133.out) | exact HB.out)⟩
    ·
     rw [if_neg c6] at H
     have c6b0 : (a0_3 == a1_3) = false := beq_eq_false_iff_ne.mpr c6
     have c6b1 : (a0_3 != a1_3) = true := bne_iff_ne.mpr c6
     obtain rfl := Option.some.inj H
     go_enter Try.func100, Try.ntmps100
     go_wp2_with (first | ((with_reducible refine qm (N := 2) rfl ?_); refine ql ?hg (N := 2) ?hd (cs := #[.int .i64 a0_0, .int .i64 a0_1, .int .i64 a0_2, .int .i64 a0_3, .int .i64 a0_4, .int .i64 a0_5]) (t := 84) ?hr ?_; (case hd => rfl); (case hg => rfl); (case hr => first | (go_simp; done) | (go_simp; rfl)); intro gb132 hg w24 hbox hb; have n0_ := Aside0.mk (qk (by repeat (first | (with_reducible first | exact HB.out | apply qe | apply qb | apply qc) | exact HB.out)) hb); have n1_ := Aside0.mk (hbox); have n2_ := Aside0.mk ((by rw [hg]; exact (qg (by repeat (first | (with_reducible first | exact HB.out | apply qe | apply qb | apply qc) | exact HB.out))) : w.heap.size ≤ gb132)); have n3_ := Aside0.mk ((by rw [hg]; exact (qg (by repeat (first | (with_reducible first | exact HB.out | apply qe | apply qb | apply qc) | exact HB.out))) : w.heap.size ≤ gb132)); clear HB; have HB := n0_; have BK132 := n1_; have GW132 := n2_; have GE132 := n3_; clear n0_ n1_ n2_ n3_; clear hb hbox hg) | ((with_reducible refine qm (N := 3) rfl ?_); refine ql ?hg (N := 3) ?hd (cs := #[.int .i64 a1_0, .int .i64 a1_1, .int .i64 a1_2, .int .i64 a1_3, .int .i64 a1_4, .int .i64 a1_5]) (t := 84) ?hr ?_; (case hd => rfl); (case hg => rfl); (case hr => first | (go_simp; done) | (go_simp; rfl)); intro gb133 hg w25 hbox hb; have n0_ := Aside0.mk (qn (g := gb132) (o := .cells #[.int .i64 a0_0, .int .i64 a0_1, .int .i64 a0_2, .int .i64 a0_3, .int .i64 a0_4, .int .i64 a0_5] 84 (0, 0)) (by (with_reducible repeat (first | refine qh ?_ _ | refine qj ?_ | refine qi ?_ _)); exact BK132.out) hb); have n1_ := Aside0.mk (qk (by repeat (first | (with_reducible first | exact HB.out | apply qe | apply qb | apply qc | refine qf ?_ GE132.out) | exact HB.out)) hb); have n2_ := Aside0.mk (hbox); have n3_ := Aside0.mk ((by rw [hg]; exact (qg (by repeat (first | (with_reducible first | exact HB.out | apply qe | apply qb | apply qc | refine qf ?_ GE132.out) | exact HB.out))) : w.heap.size ≤ gb133)); have n4_ := Aside0.mk ((by rw [hg]; exact (qg (by repeat (first | (with_reducible first | exact HB.out | apply qe | apply qb | apply qc | refine qf ?_ GE132.out) | exact HB.out))) : w.heap.size ≤ gb133)); have n5_ := Aside0.mk ((by rw [hg]; exact Nat.ne_of_lt (blk_lt (g := gb132) (o := .cells #[.int .i64 a0_0, .int .i64 a0_1, .int .i64 a0_2, .int .i64 a0_3, .int .i64 a0_4, .int .i64 a0_5] 84 (0, 0)) (by (with_reducible repeat (first | refine qh ?_ _ | refine qj ?_ | refine qi ?_ _)); exact BK132.out)) : gb132 ≠ gb133)); have n6_ := Aside0.mk ((by rw [hg]; exact Nat.ne_of_gt (blk_lt (g := gb132) (o := .cells #[.int .i64 a0_0, .int .i64 a0_1, .int .i64 a0_2, .int .i64 a0_3, .int .i64 a0_4, .int .i64 a0_5] 84 (0, 0)) (by (with_reducible repeat (first | refine qh ?_ _ | refine qj ?_ | refine qi ?_ _)); exact BK132.out)) : gb133 ≠ gb132)); clear BK132; clear HB; have BK132 := n0_; have HB := n1_; have BK133 := n2_; have GW133 := n3_; have GE133 := n4_; have NB132_133 := n5_; have NB133_132 := n6_; clear n0_ n1_ n2_ n3_ n4_ n5_ n6_; clear hb hbox hg; have hnb26 := NB132_133.out; have hnc26 := NB133_132.out; have hcz27_0 : w25.cell? ⟨gb132, 0, none⟩ = some (.int .i64 a0_0) := (qd BK132.out 0).trans rfl; have hcz27_1 : w25.cell? ⟨gb132, 1, none⟩ = some (.int .i64 a0_1) := (qd BK132.out 1).trans rfl; have hcz27_2 : w25.cell? ⟨gb132, 2, none⟩ = some (.int .i64 a0_2) := (qd BK132.out 2).trans rfl; have hcz27_3 : w25.cell? ⟨gb132, 3, none⟩ = some (.int .i64 a0_3) := (qd BK132.out 3).trans rfl; have hcz27_4 : w25.cell? ⟨gb132, 4, none⟩ = some (.int .i64 a0_4) := (qd BK132.out 4).trans rfl; have hcz27_5 : w25.cell? ⟨gb132, 5, none⟩ = some (.int .i64 a0_5) := (qd BK132.out 5).trans rfl; have hfz27_0 := qa BK132.out 0; have hfz27_1 := qa BK132.out 1; have hfz27_2 := qa BK132.out 2; have hfz27_3 := qa BK132.out 3; have hfz27_4 := qa BK132.out 4; have hfz27_5 := qa BK132.out 5; have hcz28_0 : w25.cell? ⟨gb133, 0, none⟩ = some (.int .i64 a1_0) := (qd BK133.out 0).trans rfl; have hcz28_1 : w25.cell? ⟨gb133, 1, none⟩ = some (.int .i64 a1_1) := (qd BK133.out 1).trans rfl; have hcz28_2 : w25.cell? ⟨gb133, 2, none⟩ = some (.int .i64 a1_2) := (qd BK133.out 2).trans rfl; have hcz28_3 : w25.cell? ⟨gb133, 3, none⟩ = some (.int .i64 a1_3) := (qd BK133.out 3).trans rfl; have hcz28_4 : w25.cell? ⟨gb133, 4, none⟩ = some (.int .i64 a1_4) := (qd BK133.out 4).trans rfl; have hcz28_5 : w25.cell? ⟨gb133, 5, none⟩ = some (.int .i64 a1_5) := (qd BK133.out 5).trans rfl; have hfz28_0 := qa BK133.out 0; have hfz28_1 := qa BK133.out 1; have hfz28_2 := qa BK133.out 2; have hfz28_3 := qa BK133.out 3; have hfz28_4 := qa BK133.out 4; have hfz28_5 := qa BK133.out 5))
     go_ret
     exact ⟨by first | rfl | (simp [errW_none, errW_some] <;> rfl) | (simp [*, errW_none, errW_some] <;> rfl), by repeat (first | (with_reducible first | exact HB.out | apply qe | apply qb | apply qc | refine qf ?_ GE132.out | refine qf ?_ GE133.out) | exact HB.out)⟩
   ·
    rw [if_neg c5] at H
    have c5b0 : (a0_2 == a1_2) = false := beq_eq_false_iff_ne.mpr c5
    have c5b1 : (a0_2 != a1_2) = true := bne_iff_ne.mpr c5
    obtain rfl := Option.some.inj H
    go_enter Try.func100, Try.ntmps100
    go_wp2_with (first | ((with_reducible refine qm (N := 2) rfl ?_); refine ql ?hg (N := 2) ?hd (cs := #[.int .i64 a0_0, .int .i64 a0_1, .int .i64 a0_2, .int .i64 a0_3, .int .i64 a0_4, .int .i64 a0_5]) (t := 84) ?hr ?_; (case hd => rfl); (case hg => rfl); (case hr => first | (go_simp; done) | (go_simp; rfl)); intro gb132 hg w29 hbox hb; have n0_ := Aside0.mk (qk (by repeat (first | (with_reducible first | exact HB.out | apply qe | apply qb | apply qc) | exact HB.out)) hb); have n1_ := Aside0.mk (hbox); have n2_ := Aside0.mk ((by rw [hg]; exact (qg (by repeat (first | (with_reducible first | exact HB.out | apply qe | apply qb | apply qc) | exact HB.out))) : w.heap.size ≤ gb132)); have n3_ := Aside0.mk ((by rw [hg]; exact (qg (by repeat (first | (with_reducible first | exact HB.out | apply qe | apply qb | apply qc) | exact HB.out))) : w.heap.size ≤ gb132)); clear HB; have HB := n0_; have BK132 := n1_; have GW132 := n2_; have GE132 := n3_; clear n0_ n1_ n2_ n3_; clear hb hbox hg) | ((with_reducible refine qm (N := 3) rfl ?_); refine ql ?hg (N := 3) ?hd (cs := #[.int .i64 a1_0, .int .i64 a1_1, .int .i64 a1_2, .int .i64 a1_3, .int .i64 a1_4, .int .i64 a1_5]) (t := 84) ?hr ?_; (case hd => rfl); (case hg => rfl); (case hr => first | (go_simp; done) | (go_simp; rfl)); intro gb133 hg w30 hbox hb; have n0_ := Aside0.mk (qn (g := gb132) (o := .cells #[.int .i64 a0_0, .int .i64 a0_1, .int .i64 a0_2, .int .i64 a0_3, .int .i64 a0_4, .int .i64 a0_5] 84 (0, 0)) (by (with_reducible repeat (first | refine qh ?_ _ | refine qj ?_ | refine qi ?_ _)); exact BK132.out) hb); have n1_ := Aside0.mk (qk (by repeat (first | (with_reducible first | exact HB.out | apply qe | apply qb | apply qc | refine qf ?_ GE132.out) | exact HB.out)) hb); have n2_ := Aside0.mk (hbox); have n3_ := Aside0.mk ((by rw [hg]; exact (qg (by repeat (first | (with_reducible first | exact HB.out | apply qe | apply qb | apply qc | refine qf ?_ GE132.out) | exact HB.out))) : w.heap.size ≤ gb133)); have n4_ := Aside0.mk ((by rw [hg]; exact (qg (by repeat (first | (with_reducible first | exact HB.out | apply qe | apply qb | apply qc | refine qf ?_ GE132.out) | exact HB.out))) : w.heap.size ≤ gb133)); have n5_ := Aside0.mk ((by rw [hg]; exact Nat.ne_of_lt (blk_lt (g := gb132) (o := .cells #[.int .i64 a0_0, .int .i64 a0_1, .int .i64 a0_2, .int .i64 a0_3, .int .i64 a0_4, .int .i64 a0_5] 84 (0, 0)) (by (with_reducible repeat (first | refine qh ?_ _ | refine qj ?_ | refine qi ?_ _)); exact BK132.out)) : gb132 ≠ gb133)); have n6_ := Aside0.mk ((by rw [hg]; exact Nat.ne_of_gt (blk_lt (g := gb132) (o := .cells #[.int .i64 a0_0, .int .i64 a0_1, .int .i64 a0_2, .int .i64 a0_3, .int .i64 a0_4, .int .i64 a0_5] 84 (0, 0)) (by (with_reducible repeat (first | refine qh ?_ _ | refine qj ?_ | refine qi ?_ _)); exact BK132.out)) : gb133 ≠ gb132)); clear BK132; clear HB; have BK132 := n0_; have HB := n1_; have BK133 := n2_; have GW133 := n3_; have GE133 := n4_; have NB132_133 := n5_; have NB133_132 := n6_; clear n0_ n1_ n2_ n3_ n4_ n5_ n6_; clear hb hbox hg; have hnb31 := NB132_133.out; have hnc31 := NB133_132.out; have hcz32_0 : w30.cell? ⟨gb132, 0, none⟩ = some (.int .i64 a0_0) := (qd BK132.out 0).trans rfl; have hcz32_1 : w30.cell? ⟨gb132, 1, none⟩ = some (.int .i64 a0_1) := (qd BK132.out 1).trans rfl; have hcz32_2 : w30.cell? ⟨gb132, 2, none⟩ = some (.int .i64 a0_2) := (qd BK132.out 2).trans rfl; have hcz32_3 : w30.cell? ⟨gb132, 3, none⟩ = some (.int .i64 a0_3) := (qd BK132.out 3).trans rfl; have hcz32_4 : w30.cell? ⟨gb132, 4, none⟩ = some (.int .i64 a0_4) := (qd BK132.out 4).trans rfl; have hcz32_5 : w30.cell? ⟨gb132, 5, none⟩ = some (.int .i64 a0_5) := (qd BK132.out 5).trans rfl; have hfz32_0 := qa BK132.out 0; have hfz32_1 := qa BK132.out 1; have hfz32_2 := qa BK132.out 2; have hfz32_3 := qa BK132.out 3; have hfz32_4 := qa BK132.out 4; have hfz32_5 := qa BK132.out 5; have hcz33_0 : w30.cell? ⟨gb133, 0, none⟩ = some (.int .i64 a1_0) := (qd BK133.out 0).trans rfl; have hcz33_1 : w30.cell? ⟨gb133, 1, none⟩ = some (.int .i64 a1_1) := (qd BK133.out 1).trans rfl; have hcz33_2 : w30.cell? ⟨gb133, 2, none⟩ = some (.int .i64 a1_2) := (qd BK133.out 2).trans rfl; have hcz33_3 : w30.cell? ⟨gb133, 3, none⟩ = some (.int .i64 a1_3) := (qd BK133.out 3).trans rfl; have hcz33_4 : w30.cell? ⟨gb133, 4, none⟩ = some (.int .i64 a1_4) := (qd BK133.out 4).trans rfl; have hcz33_5 : w30.cell? ⟨gb133, 5, none⟩ = some (.int .i64 a1_5) := (qd BK133.out 5).trans rfl; have hfz33_0 := qa BK133.out 0; have hfz33_1 := qa BK133.out 1; have hfz33_2 := qa BK133.out 2; have hfz33_3 := qa BK133.out 3; have hfz33_4 := qa BK133.out 4; have hfz33_5 := qa BK133.out 5))
    go_ret
    exact ⟨by first | rfl | (simp [errW_none, errW_some] <;> rfl) | (simp [*, errW_none, errW_some] <;> rfl), by repeat (first | (with_reducible first | exact HB.out | apply qe | apply qb | apply qc | refine qf ?_ GE132.out | refine qf ?_ GE133.out) | exact HB.out)⟩
  ·
   rw [if_neg c4] at H
   have c4b0 : (a0_1 == a1_1) = false := beq_eq_false_iff_ne.mpr c4
   have c4b1 : (a0_1 != a1_1) = true := bne_iff_ne.mpr c4
   obtain rfl := Option.some.inj H
   go_enter Try.func100, Try.ntmps100
   go_wp2_with (first | ((with_reducible refine qm (N := 2) rfl ?_); refine ql ?hg (N := 2) ?hd (cs := #[.int .i64 a0_0, .int .i64 a0_1, .int .i64 a0_2, .int .i64 a0_3, .int .i64 a0_4, .int .i64 a0_5]) (t := 84) ?hr ?_; (case hd => rfl); (case hg => rfl); (case hr => first | (go_simp; done) | (go_simp; rfl)); intro gb132 hg w34 hbox hb; have n0_ := Aside0.mk (qk (by repeat (first | (with_reducible first | exact HB.out | apply qe | apply qb | apply qc) | exact HB.out)) hb); have n1_ := Aside0.mk (hbox); have n2_ := Aside0.mk ((by rw [hg]; exact (qg (by repeat (first | (with_reducible first | exact HB.out | apply qe | apply qb | apply qc) | exact HB.out))) : w.heap.size ≤ gb132)); have n3_ := Aside0.mk ((by rw [hg]; exact (qg (by repeat (first | (with_reducible first | exact HB.out | apply qe | apply qb | apply qc) | exact HB.out))) : w.heap.size ≤ gb132)); clear HB; have HB := n0_; have BK132 := n1_; have GW132 := n2_; have GE132 := n3_; clear n0_ n1_ n2_ n3_; clear hb hbox hg) | ((with_reducible refine qm (N := 3) rfl ?_); refine ql ?hg (N := 3) ?hd (cs := #[.int .i64 a1_0, .int .i64 a1_1, .int .i64 a1_2, .int .i64 a1_3, .int .i64 a1_4, .int .i64 a1_5]) (t := 84) ?hr ?_; (case hd => rfl); (case hg => rfl); (case hr => first | (go_simp; done) | (go_simp; rfl)); intro gb133 hg w35 hbox hb; have n0_ := Aside0.mk (qn (g := gb132) (o := .cells #[.int .i64 a0_0, .int .i64 a0_1, .int .i64 a0_2, .int .i64 a0_3, .int .i64 a0_4, .int .i64 a0_5] 84 (0, 0)) (by (with_reducible repeat (first | refine qh ?_ _ | refine qj ?_ | refine qi ?_ _)); exact BK132.out) hb); have n1_ := Aside0.mk (qk (by repeat (first | (with_reducible first | exact HB.out | apply qe | apply qb | apply qc | refine qf ?_ GE132.out) | exact HB.out)) hb); have n2_ := Aside0.mk (hbox); have n3_ := Aside0.mk ((by rw [hg]; exact (qg (by repeat (first | (with_reducible first | exact HB.out | apply qe | apply qb | apply qc | refine qf ?_ GE132.out) | exact HB.out))) : w.heap.size ≤ gb133)); have n4_ := Aside0.mk ((by rw [hg]; exact (qg (by repeat (first | (with_reducible first | exact HB.out | apply qe | apply qb | apply qc | refine qf ?_ GE132.out) | exact HB.out))) : w.heap.size ≤ gb133)); have n5_ := Aside0.mk ((by rw [hg]; exact Nat.ne_of_lt (blk_lt (g := gb132) (o := .cells #[.int .i64 a0_0, .int .i64 a0_1, .int .i64 a0_2, .int .i64 a0_3, .int .i64 a0_4, .int .i64 a0_5] 84 (0, 0)) (by (with_reducible repeat (first | refine qh ?_ _ | refine qj ?_ | refine qi ?_ _)); exact BK132.out)) : gb132 ≠ gb133)); have n6_ := Aside0.mk ((by rw [hg]; exact Nat.ne_of_gt (blk_lt (g := gb132) (o := .cells #[.int .i64 a0_0, .int .i64 a0_1, .int .i64 a0_2, .int .i64 a0_3, .int .i64 a0_4, .int .i64 a0_5] 84 (0, 0)) (by (with_reducible repeat (first | refine qh ?_ _ | refine qj ?_ | refine qi ?_ _)); exact BK132.out)) : gb133 ≠ gb132)); clear BK132; clear HB; have BK132 := n0_; have HB := n1_; have BK133 := n2_; have GW133 := n3_; have GE133 := n4_; have NB132_133 := n5_; have NB133_132 := n6_; clear n0_ n1_ n2_ n3_ n4_ n5_ n6_; clear hb hbox hg; have hnb36 := NB132_133.out; have hnc36 := NB133_132.out; have hcz37_0 : w35.cell? ⟨gb132, 0, none⟩ = some (.int .i64 a0_0) := (qd BK132.out 0).trans rfl; have hcz37_1 : w35.cell? ⟨gb132, 1, none⟩ = some (.int .i64 a0_1) := (qd BK132.out 1).trans rfl; have hcz37_2 : w35.cell? ⟨gb132, 2, none⟩ = some (.int .i64 a0_2) := (qd BK132.out 2).trans rfl; have hcz37_3 : w35.cell? ⟨gb132, 3, none⟩ = some (.int .i64 a0_3) := (qd BK132.out 3).trans rfl; have hcz37_4 : w35.cell? ⟨gb132, 4, none⟩ = some (.int .i64 a0_4) := (qd BK132.out 4).trans rfl; have hcz37_5 : w35.cell? ⟨gb132, 5, none⟩ = some (.int .i64 a0_5) := (qd BK132.out 5).trans rfl; have hfz37_0 := qa BK132.out 0; have hfz37_1 := qa BK132.out 1; have hfz37_2 := qa BK132.out 2; have hfz37_3 := qa BK132.out 3; have hfz37_4 := qa BK132.out 4; have hfz37_5 := qa BK132.out 5; have hcz38_0 : w35.cell? ⟨gb133, 0, none⟩ = some (.int .i64 a1_0) := (qd BK133.out 0).trans rfl; have hcz38_1 : w35.cell? ⟨gb133, 1, none⟩ = some (.int .i64 a1_1) := (qd BK133.out 1).trans rfl; have hcz38_2 : w35.cell? ⟨gb133, 2, none⟩ = some (.int .i64 a1_2) := (qd BK133.out 2).trans rfl; have hcz38_3 : w35.cell? ⟨gb133, 3, none⟩ = some (.int .i64 a1_3) := (qd BK133.out 3).trans rfl; have hcz38_4 : w35.cell? ⟨gb133, 4, none⟩ = some (.int .i64 a1_4) := (qd BK133.out 4).trans rfl; have hcz38_5 : w35.cell? ⟨gb133, 5, none⟩ = some (.int .i64 a1_5) := (qd BK133.out 5).trans rfl; have hfz38_0 := qa BK133.out 0; have hfz38_1 := qa BK133.out 1; have hfz38_2 := qa BK133.out 2; have hfz38_3 := qa BK133.out 3; have hfz38_4 := qa BK133.out 4; have hfz38_5 := qa BK133.out 5))
   go_ret
   exact ⟨by first | rfl | (simp [errW_none, errW_some] <;> rfl) | (simp [*, errW_none, errW_some] <;> rfl), by repeat (first | (with_reducible first | exact HB.out | apply qe | apply qb | apply qc | refine qf ?_ GE132.out | refine qf ?_ GE133.out) | exact HB.out)⟩
 ·
  rw [if_neg c3] at H
  have c3b0 : (a0_0 == a1_0) = false := beq_eq_false_iff_ne.mpr c3
  have c3b1 : (a0_0 != a1_0) = true := bne_iff_ne.mpr c3
  obtain rfl := Option.some.inj H
  go_enter Try.func100, Try.ntmps100
  go_wp2_with (first | ((with_reducible refine qm (N := 2) rfl ?_); refine ql ?hg (N := 2) ?hd (cs := #[.int .i64 a0_0, .int .i64 a0_1, .int .i64 a0_2, .int .i64 a0_3, .int .i64 a0_4, .int .i64 a0_5]) (t := 84) ?hr ?_; (case hd => rfl); (case hg => rfl); (case hr => first | (go_simp; done) | (go_simp; rfl)); intro gb132 hg w39 hbox hb; have n0_ := Aside0.mk (qk (by repeat (first | (with_reducible first | exact HB.out | apply qe | apply qb | apply qc) | exact HB.out)) hb); have n1_ := Aside0.mk (hbox); have n2_ := Aside0.mk ((by rw [hg]; exact (qg (by repeat (first | (with_reducible first | exact HB.out | apply qe | apply qb | apply qc) | exact HB.out))) : w.heap.size ≤ gb132)); have n3_ := Aside0.mk ((by rw [hg]; exact (qg (by repeat (first | (with_reducible first | exact HB.out | apply qe | apply qb | apply qc) | exact HB.out))) : w.heap.size ≤ gb132)); clear HB; have HB := n0_; have BK132 := n1_; have GW132 := n2_; have GE132 := n3_; clear n0_ n1_ n2_ n3_; clear hb hbox hg) | ((with_reducible refine qm (N := 3) rfl ?_); refine ql ?hg (N := 3) ?hd (cs := #[.int .i64 a1_0, .int .i64 a1_1, .int .i64 a1_2, .int .i64 a1_3, .int .i64 a1_4, .int .i64 a1_5]) (t := 84) ?hr ?_; (case hd => rfl); (case hg => rfl); (case hr => first | (go_simp; done) | (go_simp; rfl)); intro gb133 hg w40 hbox hb; have n0_ := Aside0.mk (qn (g := gb132) (o := .cells #[.int .i64 a0_0, .int .i64 a0_1, .int .i64 a0_2, .int .i64 a0_3, .int .i64 a0_4, .int .i64 a0_5] 84 (0, 0)) (by (with_reducible repeat (first | refine qh ?_ _ | refine qj ?_ | refine qi ?_ _)); exact BK132.out) hb); have n1_ := Aside0.mk (qk (by repeat (first | (with_reducible first | exact HB.out | apply qe | apply qb | apply qc | refine qf ?_ GE132.out) | exact HB.out)) hb); have n2_ := Aside0.mk (hbox); have n3_ := Aside0.mk ((by rw [hg]; exact (qg (by repeat (first | (with_reducible first | exact HB.out | apply qe | apply qb | apply qc | refine qf ?_ GE132.out) | exact HB.out))) : w.heap.size ≤ gb133)); have n4_ := Aside0.mk ((by rw [hg]; exact (qg (by repeat (first | (with_reducible first | exact HB.out | apply qe | apply qb | apply qc | refine qf ?_ GE132.out) | exact HB.out))) : w.heap.size ≤ gb133)); have n5_ := Aside0.mk ((by rw [hg]; exact Nat.ne_of_lt (blk_lt (g := gb132) (o := .cells #[.int .i64 a0_0, .int .i64 a0_1, .int .i64 a0_2, .int .i64 a0_3, .int .i64 a0_4, .int .i64 a0_5] 84 (0, 0)) (by (with_reducible repeat (first | refine qh ?_ _ | refine qj ?_ | refine qi ?_ _)); exact BK132.out)) : gb132 ≠ gb133)); have n6_ := Aside0.mk ((by rw [hg]; exact Nat.ne_of_gt (blk_lt (g := gb132) (o := .cells #[.int .i64 a0_0, .int .i64 a0_1, .int .i64 a0_2, .int .i64 a0_3, .int .i64 a0_4, .int .i64 a0_5] 84 (0, 0)) (by (with_reducible repeat (first | refine qh ?_ _ | refine qj ?_ | refine qi ?_ _)); exact BK132.out)) : gb133 ≠ gb132)); clear BK132; clear HB; have BK132 := n0_; have HB := n1_; have BK133 := n2_; have GW133 := n3_; have GE133 := n4_; have NB132_133 := n5_; have NB133_132 := n6_; clear n0_ n1_ n2_ n3_ n4_ n5_ n6_; clear hb hbox hg; have hnb41 := NB132_133.out; have hnc41 := NB133_132.out; have hcz42_0 : w40.cell? ⟨gb132, 0, none⟩ = some (.int .i64 a0_0) := (qd BK132.out 0).trans rfl; have hcz42_1 : w40.cell? ⟨gb132, 1, none⟩ = some (.int .i64 a0_1) := (qd BK132.out 1).trans rfl; have hcz42_2 : w40.cell? ⟨gb132, 2, none⟩ = some (.int .i64 a0_2) := (qd BK132.out 2).trans rfl; have hcz42_3 : w40.cell? ⟨gb132, 3, none⟩ = some (.int .i64 a0_3) := (qd BK132.out 3).trans rfl; have hcz42_4 : w40.cell? ⟨gb132, 4, none⟩ = some (.int .i64 a0_4) := (qd BK132.out 4).trans rfl; have hcz42_5 : w40.cell? ⟨gb132, 5, none⟩ = some (.int .i64 a0_5) := (qd BK132.out 5).trans rfl; have hfz42_0 := qa BK132.out 0; have hfz42_1 := qa BK132.out 1; have hfz42_2 := qa BK132.out 2; have hfz42_3 := qa BK132.out 3; have hfz42_4 := qa BK132.out 4; have hfz42_5 := qa BK132.out 5; have hcz43_0 : w40.cell? ⟨gb133, 0, none⟩ = some (.int .i64 a1_0) := (qd BK133.out 0).trans rfl; have hcz43_1 : w40.cell? ⟨gb133, 1, none⟩ = some (.int .i64 a1_1) := (qd BK133.out 1).trans rfl; have hcz43_2 : w40.cell? ⟨gb133, 2, none⟩ = some (.int .i64 a1_2) := (qd BK133.out 2).trans rfl; have hcz43_3 : w40.cell? ⟨gb133, 3, none⟩ = some (.int .i64 a1_3) := (qd BK133.out 3).trans rfl; have hcz43_4 : w40.cell? ⟨gb133, 4, none⟩ = some (.int .i64 a1_4) := (qd BK133.out 4).trans rfl; have hcz43_5 : w40.cell? ⟨gb133, 5, none⟩ = some (.int .i64 a1_5) := (qd BK133.out 5).trans rfl; have hfz43_0 := qa BK133.out 0; have hfz43_1 := qa BK133.out 1; have hfz43_2 := qa BK133.out 2; have hfz43_3 := qa BK133.out 3; have hfz43_4 := qa BK133.out 4; have hfz43_5 := qa BK133.out 5))
  go_ret
  exact ⟨by first | rfl | (simp [errW_none, errW_some] <;> rfl) | (simp [*, errW_none, errW_some] <;> rfl), by repeat (first | (with_reducible first | exact HB.out | apply qe | apply qb | apply qc | refine qf ?_ GE132.out | refine qf ?_ GE133.out) | exact HB.out)⟩

/-! ### laws_eqAggS: function 67 -/
def laws_eqAggS.l0 : Nat → List (S84) → List (S84) → Int → Option (Bool)
 | 0, _, _, _ => none
 | k + 1, x0, x1, x5 => if x5 < (x0.length : Int) then (if 0 ≤ x5 then (if x5 < (x1.length : Int) then ((laws_eqAgg.f ((rd_T84 x0 x5).f0) ((rd_T84 x0 x5).f1) ((rd_T84 x0 x5).f2) ((rd_T84 x0 x5).f3) ((rd_T84 x0 x5).f4) ((rd_T84 x0 x5).f5) ((rd_T84 x1 x5).f0) ((rd_T84 x1 x5).f1) ((rd_T84 x1 x5).f2) ((rd_T84 x1 x5).f3) ((rd_T84 x1 x5).f4) ((rd_T84 x1 x5).f5)).bind fun t136 => (if t136 = true then (laws_eqAggS.l0 k x0 x1 (wrap64 (x5 + 1))) else (some false))) else (none)) else (none)) else (some true)
def laws_eqAggS.f (k : Nat) (l0 : List (S84)) (l1 : List (S84)) : Option (Bool) := if (l0.length : Int) = (l1.length : Int) then (laws_eqAggS.l0 k l0 l1 0) else (some false)
theorem laws_eqAggS.mono_l : ∀ k, (∀ y0 y1 y2, LeO (laws_eqAggS.l0 k y0 y1 y2) (laws_eqAggS.l0 (k + 1) y0 y1 y2))
 | 0 => fun _ _ _ r h => by simp [laws_eqAggS.l0] at h
 | k + 1 => by
  have ih0 := laws_eqAggS.mono_l k
  ·
   intro y0 y1 y2
   unfold laws_eqAggS.l0
   repeat' first
   | (with_reducible exact ih0 _ _ _)
   | (with_reducible exact LeO.refl _)
   | (with_reducible exact LeO.none _)
   | (with_reducible refine LeO.ite ?_ ?_)
   | (with_reducible refine LeO.bind ?_ (fun _ => ?_))
   | exact ih0 _ _ _
   | exact LeO.none _
   | refine LeO.ite ?_ ?_
   | refine LeO.bind ?_ (fun _ => ?_)
theorem laws_eqAggS.mono : ∀ a0 a1 k, LeO (laws_eqAggS.f k a0 a1) (laws_eqAggS.f (k + 1) a0 a1) := by
 intro a0 a1 k
 have ih0 := laws_eqAggS.mono_l k
 unfold laws_eqAggS.f
 repeat' first
   | (with_reducible exact ih0 _ _ _)
   | (with_reducible exact LeO.refl _)
   | (with_reducible exact LeO.none _)
   | (with_reducible refine LeO.ite ?_ ?_)
   | (with_reducible refine LeO.bind ?_ (fun _ => ?_))
   | exact ih0 _ _ _
   | exact LeO.none _
   | refine LeO.ite ?_ ?_
   | refine LeO.bind ?_ (fun _ => ?_)
def laws_eqAggS.T6 : Bool × List (List Nat × List Nat) := (true, [([], []), ([], []), ([0, 1], [0, 1]), ([2], [2]), ([], []), ([], []), ([4, 5], [4, 5]), ([6], [6]), ([3, 7], [3, 7]), ([8], [8])])
def laws_eqAggS.B6 : List Nat := [0, 0, 3, 7, 0, 0, 48, 112, 255, 511]
theorem laws_eqAggS.tab6 : rtab .any (opsOf Try.f67 6) = laws_eqAggS.T6 := by kernel_rfl
theorem laws_eqAggS.bits6 : waitsOk laws_eqAggS.T6.2 laws_eqAggS.B6 = true := by kernel_rfl
set_option maxHeartbeats 8000000 in
set_option maxRecDepth 100000 in
theorem laws_eqAggS.calls (k : Nat) (A0 : Option Addr) (c0 : Nat) (l0 : List (S84)) (A1 : Option Addr) (c1 : Nat) (l1 : List (S84)) (r : Bool) (w : World) (hr0 : Kd.C k84 w A0 l0.length l0) (hc0 : l0.length ≤ c0) (hr1 : Kd.C k84 w A1 l1.length l1) (hc1 : l1.length ≤ c1) (h : laws_eqAggS.f k l0 l1 = some r) :
  Calls Try.prog 67 #[.slice A0 l0.length c0, .slice A1 l1.length c1] w fun e w' => e = .returned (.bool r) ∧ Below w.heap.size w w' := by
 have hu84 := Try.underlying84
 have HR0 := Aside0.mk hr0
 have HC0 := Aside0.mk hc0
 clear hr0 hc0
 have HR1 := Aside0.mk hr1
 have HC1 := Aside0.mk hc1
 clear hr1 hc1
 have HB := Aside0.mk (Below.refl w.heap.size w)
 have H : (if (l0.length : Int) = (l1.length : Int) then (laws_eqAggS.l0 k l0 l1 0) else (some false)) = some r := h
 clear h
 by_cases c3 : (l0.length : Int) = (l1.length : Int)
 ·
  rw [if_pos c3] at H
  have c3b0 : ((l0.length : Int) == (l1.length : Int)) = true := beq_iff_eq.mpr c3
  have c3b1 : ((l0.length : Int) != (l1.length : Int)) = false := bne_eq_false_iff_eq.mpr c3
  have c3b2 : (l0.length == l1.length) = true := by first | simpa using c3 | (simp at c3 ⊢; omega)
  clear c3
  have H' := Aside0.mk H
  clear H
  go_enter Try.func67, Try.ntmps67
  go_wp2
  go_loopg [5] k (fun kq v5 w' => ∃ (x5_1 : Int), v5 = .int .i64 x5_1 ∧ Aside0 (laws_eqAggS.l0 kq l0 l1 x5_1 = some r) ∧ Aside0 (kq ≤ k) ∧ Aside0 (Below w.heap.size w w'))
  case atStart => exact ⟨(0), (by first | rfl | (simp; done) | (simp [*]; done)), H', ⟨Nat.le_refl _⟩, ⟨by repeat (first | (with_reducible first | exact HB.out | apply qe | apply qb | apply qc) | exact HB.out)⟩⟩
  case round =>
   clear H'
   try clear c1
   try clear p2
   try clear c3
   try clear c3b0
   try clear c3b1
   try clear c3b2
   obtain ⟨x5_1, rfl, HA, HK1, HB⟩ := hrel
   cases gk with
   | zero => exact absurd HA.out (by simp [laws_eqAggS.l0])
   | succ k1 =>
    have H := HA.out
    clear HA
    simp only [laws_eqAggS.l0] at H
    by_cases c4 : x5_1 < (l0.length : Int)
    ·
     rw [if_pos c4] at H
     have c4b0 : decide (x5_1 < (l0.length : Int)) = true := decide_eq_true c4
     clear c4
     by_cases c5 : 0 ≤ x5_1
     ·
      rw [if_pos c5] at H
      have c5b0 : decide (0 ≤ x5_1) = true := decide_eq_true c5
      clear c5
      by_cases c6 : x5_1 < (l1.length : Int)
      ·
       rw [if_pos c6] at H
       have c6b0 : decide (x5_1 < (l1.length : Int)) = true := decide_eq_true c6
       clear c6
       replace H := Option.bind_eq_some_iff.mp H
       obtain ⟨t136, A70, H⟩ := H
       replace H : (if t136 = true then (laws_eqAggS.l0 k1 l0 l1 (wrap64 (x5_1 + 1))) else (some false)) = some r := H
       have A7 := Aside0.mk A70
       clear A70
       by_cases c8 : t136 = true
       ·
        subst c8
        have H1 : (laws_eqAggS.l0 k1 l0 l1 (wrap64 (x5_1 + 1))) = some r := by rw [if_pos rfl] at H; exact H
        clear H
        have H := H1
        clear H1
        have H' := Aside0.mk H
        clear H
        try go_wp2
        have n0_ := Aside0.mk (qc HB.out)
        clear HB
        have HB := n0_
        clear n0_
        have p134 : 0 ≤ (x5_1 : Int) := of_decide_eq_true (by first | (with_reducible assumption) | assumption)
        have q134 : x5_1 < (l0.length : Int) := of_decide_eq_true (by first | (with_reducible assumption) | assumption)
        obtain ⟨ad134, e134, hx134_0, hx134_1, hx134_2, hx134_3, hx134_4, hx134_5⟩ := at_T84 HR0.out x5_1 p134 q134
        have hw134_5 := hx134_5
        have hw134_4 := hx134_4
        have hw134_3 := hx134_3
        have hw134_2 := hx134_2
        have hw134_1 := hx134_1
        have hw134_0 := hx134_0
        cases e134
        replace hx134_0 := (HB.out.cell (World.block_lt_of_cell? w _ hx134_0)).trans hx134_0
        replace hx134_1 := (HB.out.cell (World.block_lt_of_cell? w _ hx134_1)).trans hx134_1
        replace hx134_2 := (HB.out.cell (World.block_lt_of_cell? w _ hx134_2)).trans hx134_2
        replace hx134_3 := (HB.out.cell (World.block_lt_of_cell? w _ hx134_3)).trans hx134_3
        replace hx134_4 := (HB.out.cell (World.block_lt_of_cell? w _ hx134_4)).trans hx134_4
        replace hx134_5 := (HB.out.cell (World.block_lt_of_cell? w _ hx134_5)).trans hx134_5
        replace p134 := eq_true p134
        replace q134 := eq_true q134
        have p135 : 0 ≤ (x5_1 : Int) := of_decide_eq_true (by first | (with_reducible assumption) | assumption)
        have q135 : x5_1 < (l1.length : Int) := of_decide_eq_true (by first | (with_reducible assumption) | assumption)
        obtain ⟨ad135, e135, hx135_0, hx135_1, hx135_2, hx135_3, hx135_4, hx135_5⟩ := at_T84 HR1.out x5_1 p135 q135
        have hw135_5 := hx135_5
        have hw135_4 := hx135_4
        have hw135_3 := hx135_3
        have hw135_2 := hx135_2
        have hw135_1 := hx135_1
        have hw135_0 := hx135_0
        cases e135
        replace hx135_0 := (HB.out.cell (World.block_lt_of_cell? w _ hx135_0)).trans hx135_0
        replace hx135_1 := (HB.out.cell (World.block_lt_of_cell? w _ hx135_1)).trans hx135_1
        replace hx135_2 := (HB.out.cell (World.block_lt_of_cell? w _ hx135_2)).trans hx135_2
        replace hx135_3 := (HB.out.cell (World.block_lt_of_cell? w _ hx135_3)).trans hx135_3
        replace hx135_4 := (HB.out.cell (World.block_lt_of_cell? w _ hx135_4)).trans hx135_4
        replace hx135_5 := (HB.out.cell (World.block_lt_of_cell? w _ hx135_5)).trans hx135_5
        replace p135 := eq_true p135
        replace q135 := eq_true q135
        refine start_ (n := 10) (S := fun w' => w'.cell? (ad134.add ((x5_1).toNat * 6)) = some (.int .i64 ((rd_T84 l0 x5_1).f0)) ∧ w'.cell? ⟨(ad134.add ((x5_1).toNat * 6)).block, (ad134.add ((x5_1).toNat * 6)).off + 1, none⟩ = some (.int .i64 ((rd_T84 l0 x5_1).f1)) ∧ w'.cell? ⟨(ad134.add ((x5_1).toNat * 6)).block, (ad134.add ((x5_1).toNat * 6)).off + 2, none⟩ = some (.int .i64 ((rd_T84 l0 x5_1).f2)) ∧ w'.cell? ⟨(ad134.add ((x5_1).toNat * 6)).block, (ad134.add ((x5_1).toNat * 6)).off + 3, none⟩ = some (.int .i64 ((rd_T84 l0 x5_1).f3)) ∧ w'.cell? ⟨(ad134.add ((x5_1).toNat * 6)).block, (ad134.add ((x5_1).toNat * 6)).off + 4, none⟩ = some (.int .i64 ((rd_T84 l0 x5_1).f4)) ∧ w'.cell? ⟨(ad134.add ((x5_1).toNat * 6)).block, (ad134.add ((x5_1).toNat * 6)).off + 5, none⟩ = some (.int .i64 ((rd_T84 l0 x5_1).f5)) ∧ w'.cell? (ad135.add ((x5_1).toNat * 6)) = some (.int .i64 ((rd_T84 l1 x5_1).f0)) ∧ w'.cell? ⟨(ad135.add ((x5_1).toNat * 6)).block, (ad135.add ((x5_1).toNat * 6)).off + 1, none⟩ = some (.int .i64 ((rd_T84 l1 x5_1).f1)) ∧ w'.cell? ⟨(ad135.add ((x5_1).toNat * 6)).block, (ad135.add ((x5_1).toNat * 6)).off + 2, none⟩ = some (.int .i64 ((rd_T84 l1 x5_1).f2)) ∧ w'.cell? ⟨(ad135.add ((x5_1).toNat * 6)).block, (ad135.add ((x5_1).toNat * 6)).off + 3, none⟩ = some (.int .i64 ((rd_T84 l1 x5_1).f3)) ∧ w'.cell? ⟨(ad135.add ((x5_1).toNat * 6)).block, (ad135.add ((x5_1).toNat * 6)).off + 4, none⟩ = some (.int .i64 ((rd_T84 l1 x5_1).f4)) ∧ w'.cell? ⟨(ad135.add ((x5_1).toNat * 6)).block, (ad135.add ((x5_1).toNat * 6)).off + 5, none⟩ = some (.int .i64 ((rd_T84 l1 x5_1).f5))) (ds := []) #[false, false, false, false, false, false, false, false, false, false] (by kernel_rfl) rfl rfl ⟨((HB.out.cell (World.block_lt_of_cell? w _ hw134_0)).trans hw134_0), ((HB.out.cell (World.block_lt_of_cell? w _ hw134_1)).trans hw134_1), ((HB.out.cell (World.block_lt_of_cell? w _ hw134_2)).trans hw134_2), ((HB.out.cell (World.block_lt_of_cell? w _ hw134_3)).trans hw134_3), ((HB.out.cell (World.block_lt_of_cell? w _ hw134_4)).trans hw134_4), ((HB.out.cell (World.block_lt_of_cell? w _ hw134_5)).trans hw134_5), ((HB.out.cell (World.block_lt_of_cell? w _ hw135_0)).trans hw135_0), ((HB.out.cell (World.block_lt_of_cell? w _ hw135_1)).trans hw135_1), ((HB.out.cell (World.block_lt_of_cell? w _ hw135_2)).trans hw135_2), ((HB.out.cell (World.block_lt_of_cell? w _ hw135_3)).trans hw135_3), ((HB.out.cell (World.block_lt_of_cell? w _ hw135_4)).trans hw135_4), ((HB.out.cell (World.block_lt_of_cell? w _ hw135_5)).trans hw135_5)⟩ (fun hHeld => ?_); refine with_tabW laws_eqAggS.tab6 laws_eqAggS.bits6 (fun HT_ HW_ => ?_)
        generalize wr.drew = w9 at HB hx134_0 hx134_1 hx134_2 hx134_3 hx134_4 hx134_5 hx135_0 hx135_1 hx135_2 hx135_3 hx135_4 hx135_5 hHeld ⊢
        refine pure_ (i := 0) (N := some 17) (v := ?_) (a' := ?_) #[true, false, false, false, false, false, false, false, false, false] rfl rfl (any_of HT_.out (by kernel_rfl)) (fun _ _ _ h => h) (Or.inl ⟨by rfl, ?_⟩) ?_ ?_
        rotate_left
        ·
         intro w'
         go_simp
         with_reducible rfl
        rotate_left
        ·
         simp only [Act.put, List.setIfInBounds_toArray, List.set_cons_zero, List.set_cons_succ, i64_w, i32_w]
         rfl
        refine pure_ (i := 1) (N := some 18) (v := ?_) (a' := ?_) #[true, true, false, false, false, false, false, false, false, false] rfl rfl (any_of HT_.out (by kernel_rfl)) (fun _ _ _ h => h) (Or.inl ⟨by rfl, ?_⟩) ?_ ?_
        rotate_left
        ·
         intro w'
         go_simp
         with_reducible rfl
        rotate_left
        ·
         simp only [Act.put, List.setIfInBounds_toArray, List.set_cons_zero, List.set_cons_succ, i64_w, i32_w]
         rfl
        refine pure_ (i := 2) (N := some 19) (v := ?_) (a' := ?_) #[true, true, true, false, false, false, false, false, false, false] rfl rfl (any_of HT_.out (by kernel_rfl)) (fun _ _ _ h => h) (Or.inl ⟨by rfl, ?_⟩) ?_ ?_
        rotate_left
        ·
         intro w'
         go_simp
         with_reducible rfl
        rotate_left
        ·
         simp only [Act.put, List.setIfInBounds_toArray, List.set_cons_zero, List.set_cons_succ, i64_w, i32_w]
         rfl
        refine pure_ (i := 4) (N := some 21) (v := ?_) (a' := ?_) #[true, true, true, false, true, false, false, false, false, false] rfl rfl (any_of HT_.out (by kernel_rfl)) (fun _ _ _ h => h) (Or.inl ⟨by rfl, ?_⟩) ?_ ?_
        rotate_left
        ·
         intro w'
         go_simp
         with_reducible rfl
        rotate_left
        ·
         simp only [Act.put, List.setIfInBounds_toArray, List.set_cons_zero, List.set_cons_succ, i64_w, i32_w]
         rfl
        refine pure_ (i := 5) (N := some 22) (v := ?_) (a' := ?_) #[true, true, true, false, true, true, false, false, false, false] rfl rfl (any_of HT_.out (by kernel_rfl)) (fun _ _ _ h => h) (Or.inl ⟨by rfl, ?_⟩) ?_ ?_
        rotate_left
        ·
         intro w'
         go_simp
         with_reducible rfl
        rotate_left
        ·
         simp only [Act.put, List.setIfInBounds_toArray, List.set_cons_zero, List.set_cons_succ, i64_w, i32_w]
         rfl
        refine pure_ (i := 6) (N := some 23) (v := ?_) (a' := ?_) #[true, true, true, false, true, true, true, false, false, false] rfl rfl (any_of HT_.out (by kernel_rfl)) (fun _ _ _ h => h) (Or.inl ⟨by rfl, ?_⟩) ?_ ?_
        rotate_left
        ·
         intro w'
         go_simp
         with_reducible rfl
        rotate_left
        ·
         simp only [Act.put, List.setIfInBounds_toArray, List.set_cons_zero, List.set_cons_succ, i64_w, i32_w]
         rfl
        refine take_ (i := 3) (N := some 20) (v := ?_) (a' := ?_) #[true, true, true, true, true, true, true, false, false, false] rfl rfl (take_ofW HT_.out HW_.out (by kernel_rfl)) (fun _ _ _ h => h) (Or.inl ⟨by rfl, ?_⟩) hHeld ?_ ?_
        rotate_left
        ·
         rintro w' ⟨s0, s1, s2, s3, s4, s5, s6, s7, s8, s9, s10, s11⟩
         go_simp
         with_reducible rfl
        rotate_left
        ·
         simp only [Act.put, List.setIfInBounds_toArray, List.set_cons_zero, List.set_cons_succ, i64_w, i32_w]
         rfl
        refine take_ (i := 7) (N := some 24) (v := ?_) (a' := ?_) #[true, true, true, true, true, true, true, true, false, false] rfl rfl (take_ofW HT_.out HW_.out (by kernel_rfl)) (fun _ _ _ h => h) (Or.inl ⟨by rfl, ?_⟩) hHeld ?_ ?_
        rotate_left
        ·
         rintro w' ⟨s0, s1, s2, s3, s4, s5, s6, s7, s8, s9, s10, s11⟩
         go_simp
         with_reducible rfl
        rotate_left
        ·
         simp only [Act.put, List.setIfInBounds_toArray, List.set_cons_zero, List.set_cons_succ, i64_w, i32_w]
         rfl
        refine one_ (i := 8) (N := some 25) #[true, true, true, true, true, true, true, true, true, false] rfl rfl (one_of HT_.out (by kernel_rfl)) (by decide) (fun K hK => ?_)
        refine goes_ Try.func100 (by kernel_rfl) rfl #[.agg #[.int .i64 ((rd_T84 l0 x5_1).f0), .int .i64 ((rd_T84 l0 x5_1).f1), .int .i64 ((rd_T84 l0 x5_1).f2), .int .i64 ((rd_T84 l0 x5_1).f3), .int .i64 ((rd_T84 l0 x5_1).f4), .int .i64 ((rd_T84 l0 x5_1).f5)], .agg #[.int .i64 ((rd_T84 l1 x5_1).f0), .int .i64 ((rd_T84 l1 x5_1).f1), .int .i64 ((rd_T84 l1 x5_1).f2), .int .i64 ((rd_T84 l1 x5_1).f3), .int .i64 ((rd_T84 l1 x5_1).f4), .int .i64 ((rd_T84 l1 x5_1).f5)]] (by rfl) rfl rfl (by (try simp only [List.map_toArray, List.map_cons, List.map_nil]); first | done | rfl | (simp only [List.length_drop, List.length_take]; rfl)) ?_
        with_reducible refine (laws_eqAgg.calls ((rd_T84 l0 x5_1).f0) ((rd_T84 l0 x5_1).f1) ((rd_T84 l0 x5_1).f2) ((rd_T84 l0 x5_1).f3) ((rd_T84 l0 x5_1).f4) ((rd_T84 l0 x5_1).f5) ((rd_T84 l1 x5_1).f0) ((rd_T84 l1 x5_1).f1) ((rd_T84 l1 x5_1).f2) ((rd_T84 l1 x5_1).f3) ((rd_T84 l1 x5_1).f4) ((rd_T84 l1 x5_1).f5) true _ A7.out).mono ?_
        rintro e w10 ⟨rfl, hb⟩
        refine ⟨_, rfl, ?_⟩
        have n0_ := Aside0.mk (qk (by repeat (first | (with_reducible first | exact HB.out | apply qe | apply qb | apply qc) | exact HB.out)) hb)
        clear HB
        have HB := n0_
        clear n0_
        (try clear hb)
        (try clear hb2)
        (try clear hk)
        (try clear hi)
        refine hK.out _ _ ⟨((HB.out.cell (World.block_lt_of_cell? w _ hw134_0)).trans hw134_0), ((HB.out.cell (World.block_lt_of_cell? w _ hw134_1)).trans hw134_1), ((HB.out.cell (World.block_lt_of_cell? w _ hw134_2)).trans hw134_2), ((HB.out.cell (World.block_lt_of_cell? w _ hw134_3)).trans hw134_3), ((HB.out.cell (World.block_lt_of_cell? w _ hw134_4)).trans hw134_4), ((HB.out.cell (World.block_lt_of_cell? w _ hw134_5)).trans hw134_5), ((HB.out.cell (World.block_lt_of_cell? w _ hw135_0)).trans hw135_0), ((HB.out.cell (World.block_lt_of_cell? w _ hw135_1)).trans hw135_1), ((HB.out.cell (World.block_lt_of_cell? w _ hw135_2)).trans hw135_2), ((HB.out.cell (World.block_lt_of_cell? w _ hw135_3)).trans hw135_3), ((HB.out.cell (World.block_lt_of_cell? w _ hw135_4)).trans hw135_4), ((HB.out.cell (World.block_lt_of_cell? w _ hw135_5)).trans hw135_5)⟩ (fun hHeld => ?_)
        clear hK K
        refine norm_ (a' := ?_) ?_ ?_
        rotate_left
        ·
         show Act.put _ (some 25) _ = _
         simp only [Act.put, List.setIfInBounds_toArray, List.set_cons_zero, List.set_cons_succ, i64_w, i32_w]
         rfl
        refine pure_ (i := 9) (N := some 26) (v := ?_) (a' := ?_) #[true, true, true, true, true, true, true, true, true, true] rfl rfl (any_of HT_.out (by kernel_rfl)) (fun _ _ _ h => h) (Or.inl ⟨by rfl, ?_⟩) ?_ ?_
        rotate_left
        ·
         intro w'
         go_simp
         with_reducible rfl
        rotate_left
        ·
         simp only [Act.put, List.setIfInBounds_toArray, List.set_cons_zero, List.set_cons_succ, i64_w, i32_w]
         rfl
        refine done_ (done_of HT_.out (by kernel_rfl)) ?_
        try go_wp2
        go_roundg k1
        case measure => have := HK1.out; omega
        case rel => exact ⟨(wrap64 (x5_1 + 1)), (by first | rfl | (simp; done) | (simp [*]; done)), H', ⟨by have := HK1.out; omega⟩, ⟨by repeat (first | (with_reducible first | exact HB.out | apply qe | apply qb | apply qc) | exact HB.out)⟩⟩
       ·
        replace c8 := Bool.eq_false_iff.mpr c8
        subst c8
        have H1 : (some false) = some r := by rw [if_neg (show ¬ (false = true) by decide)] at H; exact H
        clear H
        have H := H1
        clear H1
        obtain rfl := Option.some.inj H
        try go_wp2
        have n0_ := Aside0.mk (qc HB.out)
        clear HB
        have HB := n0_
        clear n0_
        have p134 : 0 ≤ (x5_1 : Int) := of_decide_eq_true (by first | (with_reducible assumption) | assumption)
        have q134 : x5_1 < (l0.length : Int) := of_decide_eq_true (by first | (with_reducible assumption) | assumption)
        obtain ⟨ad134, e134, hx134_0, hx134_1, hx134_2, hx134_3, hx134_4, hx134_5⟩ := at_T84 HR0.out x5_1 p134 q134
        have hw134_5 := hx134_5
        have hw134_4 := hx134_4
        have hw134_3 := hx134_3
        have hw134_2 := hx134_2
        have hw134_1 := hx134_1
        have hw134_0 := hx134_0
        cases e134
        replace hx134_0 := (HB.out.cell (World.block_lt_of_cell? w _ hx134_0)).trans hx134_0
        replace hx134_1 := (HB.out.cell (World.block_lt_of_cell? w _ hx134_1)).trans hx134_1
        replace hx134_2 := (HB.out.cell (World.block_lt_of_cell? w _ hx134_2)).trans hx134_2
        replace hx134_3 := (HB.out.cell (World.block_lt_of_cell? w _ hx134_3)).trans hx134_3
        replace hx134_4 := (HB.out.cell (World.block_lt_of_cell? w _ hx134_4)).trans hx134_4
        replace hx134_5 := (HB.out.cell (World.block_lt_of_cell? w _ hx134_5)).trans hx134_5
        replace p134 := eq_true p134
        replace q134 := eq_true q134
        have p135 : 0 ≤ (x5_1 : Int) := of_decide_eq_true (by first | (with_reducible assumption) | assumption)
        have q135 : x5_1 < (l1.length : Int) := of_decide_eq_true (by first | (with_reducible assumption) | assumption)
        obtain ⟨ad135, e135, hx135_0, hx135_1, hx135_2, hx135_3, hx135_4, hx135_5⟩ := at_T84 HR1.out x5_1 p135 q135
        have hw135_5 := hx135_5
        have hw135_4 := hx135_4
        have hw135_3 := hx135_3
        have hw135_2 := hx135_2
        have hw135_1 := hx135_1
        have hw135_0 := hx135_0
        cases e135
        replace hx135_0 := (HB.out.cell (World.block_lt_of_cell? w _ hx135_0)).trans hx135_0
        replace hx135_1 := (HB.out.cell (World.block_lt_of_cell? w _ hx135_1)).trans hx135_1
        replace hx135_2 := (HB.out.cell (World.block_lt_of_cell? w _ hx135_2)).trans hx135_2
        replace hx135_3 := (HB.out.cell (World.block_lt_of_cell? w _ hx135_3)).trans hx135_3
        replace hx135_4 := (HB.out.cell (World.block_lt_of_cell? w _ hx135_4)).trans hx135_4
        replace hx135_5 := (HB.out.cell (World.block_lt_of_cell? w _ hx135_5)).trans hx135_5
        replace p135 := eq_true p135
        replace q135 := eq_true q135
        refine start_ (n := 10) (S := fun w' => w'.cell? (ad134.add ((x5_1).toNat * 6)) = some (.int .i64 ((rd_T84 l0 x5_1).f0)) ∧ w'.cell? ⟨(ad134.add ((x5_1).toNat * 6)).block, (ad134.add ((x5_1).toNat * 6)).off + 1, none⟩ = some (.int .i64 ((rd_T84 l0 x5_1).f1)) ∧ w'.cell? ⟨(ad134.add ((x5_1).toNat * 6)).block, (ad134.add ((x5_1).toNat * 6)).off + 2, none⟩ = some (.int .i64 ((rd_T84 l0 x5_1).f2)) ∧ w'.cell? ⟨(ad134.add ((x5_1).toNat * 6)).block, (ad134.add ((x5_1).toNat * 6)).off + 3, none⟩ = some (.int .i64 ((rd_T84 l0 x5_1).f3)) ∧ w'.cell? ⟨(ad134.add ((x5_1).toNat * 6)).block, (ad134.add ((x5_1).toNat * 6)).off + 4, none⟩ = some (.int .i64 ((rd_T84 l0 x5_1).f4)) ∧ w'.cell? ⟨(ad134.add ((x5_1).toNat * 6)).block, (ad134.add ((x5_1).toNat * 6)).off + 5, none⟩ = some (.int .i64 ((rd_T84 l0 x5_1).f5)) ∧ w'.cell? (ad135.add ((x5_1).toNat * 6)) = some (.int .i64 ((rd_T84 l1 x5_1).f0)) ∧ w'.cell? ⟨(ad135.add ((x5_1).toNat * 6)).block, (ad135.add ((x5_1).toNat * 6)).off + 1, none⟩ = some (.int .i64 ((rd_T84 l1 x5_1).f1)) ∧ w'.cell? ⟨(ad135.add ((x5_1).toNat * 6)).block, (ad135.add ((x5_1).toNat * 6)).off + 2, none⟩ = some (.int .i64 ((rd_T84 l1 x5_1).f2)) ∧ w'.cell? ⟨(ad135.add ((x5_1).toNat * 6)).block, (ad135.add ((x5_1).toNat * 6)).off + 3, none⟩ = some (.int .i64 ((rd_T84 l1 x5_1).f3)) ∧ w'.cell? ⟨(ad135.add ((x5_1).toNat * 6)).block, (ad135.add ((x5_1).toNat * 6)).off + 4, none⟩ = some (.int .i64 ((rd_T84 l1 x5_1).f4)) ∧ w'.cell? ⟨(ad135.add ((x5_1).toNat * 6)).block, (ad135.add ((x5_1).toNat * 6)).off + 5, none⟩ = some (.int .i64 ((rd_T84 l1 x5_1).f5))) (ds := []) #[false, false, false, false, false, false, false, false, false, false] (by kernel_rfl) rfl rfl ⟨((HB.out.cell (World.block_lt_of_cell? w _ hw134_0)).trans hw134_0), ((HB.out.cell (World.block_lt_of_cell? w _ hw134_1)).trans hw134_1), ((HB.out.cell (World.block_lt_of_cell? w _ hw134_2)).trans hw134_2), ((HB.out.cell (World.block_lt_of_cell? w _ hw134_3)).trans hw134_3), ((HB.out.cell (World.block_lt_of_cell? w _ hw134_4)).trans hw134_4), ((HB.out.cell (World.block_lt_of_cell? w _ hw134_5)).trans hw134_5), ((HB.out.cell (World.block_lt_of_cell? w _ hw135_0)).trans hw135_0), ((HB.out.cell (World.block_lt_of_cell? w _ hw135_1)).trans hw135_1), ((HB.out.cell (World.block_lt_of_cell? w _ hw135_2)).trans hw135_2), ((HB.out.cell (World.block_lt_of_cell? w _ hw135_3)).trans hw135_3), ((HB.out.cell (World.block_lt_of_cell? w _ hw135_4)).trans hw135_4), ((HB.out.cell (World.block_lt_of_cell? w _ hw135_5)).trans hw135_5)⟩ (fun hHeld => ?_); refine with_tabW laws_eqAggS.tab6 laws_eqAggS.bits6 (fun HT_ HW_ => ?_)
        generalize wr.drew = w11 at HB hx134_0 hx134_1 hx134_2 hx134_3 hx134_4 hx134_5 hx135_0 hx135_1 hx135_2 hx135_3 hx135_4 hx135_5 hHeld ⊢
        refine pure_ (i := 0) (N := some 17) (v := ?_) (a' := ?_) #[true, false, false, false, false, false, false, false, false, false] rfl rfl (any_of HT_.out (by kernel_rfl)) (fun _ _ _ h => h) (Or.inl ⟨by rfl, ?_⟩) ?_ ?_
        rotate_left
        ·
         intro w'
         go_simp
         with_reducible rfl
        rotate_left
        ·
         simp only [Act.put, List.setIfInBounds_toArray, List.set_cons_zero, List.set_cons_succ, i64_w, i32_w]
         rfl
        refine pure_ (i := 1) (N := some 18) (v := ?_) (a' := ?_) #[true, true, false, false, false, false, false, false, false, false] rfl rfl (any_of HT_.out (by kernel_rfl)) (fun _ _ _ h => h) (Or.inl ⟨by rfl, ?_⟩) ?_ ?_
        rotate_left
        ·
         intro w'
         go_simp
         with_reducible rfl
        rotate_left
        ·
         simp only [Act.put, List.setIfInBounds_toArray, List.set_cons_zero, List.set_cons_succ, i64_w, i32_w]
         rfl
        refine pure_ (i := 2) (N := some 19) (v := ?_) (a' := ?_) #[true, true, true, false, false, false, false, false, false, false] rfl rfl (any_of HT_.out (by kernel_rfl)) (fun _ _ _ h => h) (Or.inl ⟨by rfl, ?_⟩) ?_ ?_
        rotate_left
        ·
         intro w'
         go_simp
         with_reducible rfl
        rotate_left
        ·
         simp only [Act.put, List.setIfInBounds_toArray, List.set_cons_zero, List.set_cons_succ, i64_w, i32_w]
         rfl
        refine pure_ (i := 4) (N := some 21) (v := ?_) (a' := ?_) #[true, true, true, false, true, false, false, false, false, false] rfl rfl (any_of HT_.out (by kernel_rfl)) (fun _ _ _ h => h) (Or.inl ⟨by rfl, ?_⟩) ?_ ?_
        rotate_left
        ·
         intro w'
         go_simp
         with_reducible rfl
        rotate_left
        ·
         simp only [Act.put, List.setIfInBounds_toArray, List.set_cons_zero, List.set_cons_succ, i64_w, i32_w]
         rfl
        refine pure_ (i := 5) (N := some 22) (v := ?_) (a' := ?_) #[true, true, true, false, true, true, false, false, false, false] rfl rfl (any_of HT_.out (by kernel_rfl)) (fun _ _ _ h => h) (Or.inl ⟨by rfl, ?_⟩) ?_ ?_
        rotate_left
        ·
         intro w'
         go_simp
         with_reducible rfl
        rotate_left
        ·
         simp only [Act.put, List.setIfInBounds_toArray, List.set_cons_zero, List.set_cons_succ, i64_w, i32_w]
         rfl
        refine pure_ (i := 6) (N := some 23) (v := ?_) (a' := ?_) #[true, true, true, false, true, true, true, false, false, false] rfl rfl (any_of HT_.out (by kernel_rfl)) (fun _ _ _ h => h) (Or.inl ⟨by rfl, ?_⟩) ?_ ?_
        rotate_left
        ·
         intro w'
         go_simp
         with_reducible rfl
        rotate_left
        ·
         simp only [Act.put, List.setIfInBounds_toArray, List.set_cons_zero, List.set_cons_succ, i64_w, i32_w]
         rfl
        refine take_ (i := 3) (N := some 20) (v := ?_) (a' := ?_) #[true, true, true, true, true, true, true, false, false, false] rfl rfl (take_ofW HT_.out HW_.out (by kernel_rfl)) (fun _ _ _ h => h) (Or.inl ⟨by rfl, ?_⟩) hHeld ?_ ?_
        rotate_left
        ·
         rintro w' ⟨s0, s1, s2, s3, s4, s5, s6, s7, s8, s9, s10, s11⟩
         go_simp
         with_reducible rfl
        rotate_left
        ·
         simp only [Act.put, List.setIfInBounds_toArray, List.set_cons_zero, List.set_cons_succ, i64_w, i32_w]
         rfl
        refine take_ (i := 7) (N := some 24) (v := ?_) (a' := ?_) #[true, true, true, true, true, true, true, true, false, false] rfl rfl (take_ofW HT_.out HW_.out (by kernel_rfl)) (fun _ _ _ h => h) (Or.inl ⟨by rfl, ?_⟩) hHeld ?_ ?_
        rotate_left
        ·
         rintro w' ⟨s0, s1, s2, s3, s4, s5, s6, s7, s8, s9, s10, s11⟩
         go_simp
         with_reducible rfl
        rotate_left
        ·
         simp only [Act.put, List.setIfInBounds_toArray, List.set_cons_zero, List.set_cons_succ, i64_w, i32_w]
         rfl
        refine one_ (i := 8) (N := some 25) #[true, true, true, true, true, true, true, true, true, false] rfl rfl (one_of HT_.out (by kernel_rfl)) (by decide) (fun K hK => ?_)
        refine goes_ Try.func100 (by kernel_rfl) rfl #[.agg #[.int .i64 ((rd_T84 l0 x5_1).f0), .int .i64 ((rd_T84 l0 x5_1).f1), .int .i64 ((rd_T84 l0 x5_1).f2), .int .i64 ((rd_T84 l0 x5_1).f3), .int .i64 ((rd_T84 l0 x5_1).f4), .int .i64 ((rd_T84 l0 x5_1).f5)], .agg #[.int .i64 ((rd_T84 l1 x5_1).f0), .int .i64 ((rd_T84 l1 x5_1).f1), .int .i64 ((rd_T84 l1 x5_1).f2), .int .i64 ((rd_T84 l1 x5_1).f3), .int .i64 ((rd_T84 l1 x5_1).f4), .int .i64 ((rd_T84 l1 x5_1).f5)]] (by rfl) rfl rfl (by (try simp only [List.map_toArray, List.map_cons, List.map_nil]); first | done | rfl | (simp only [List.length_drop, List.length_take]; rfl)) ?_
        with_reducible refine (laws_eqAgg.calls ((rd_T84 l0 x5_1).f0) ((rd_T84 l0 x5_1).f1) ((rd_T84 l0 x5_1).f2) ((rd_T84 l0 x5_1).f3) ((rd_T84 l0 x5_1).f4) ((rd_T84 l0 x5_1).f5) ((rd_T84 l1 x5_1).f0) ((rd_T84 l1 x5_1).f1) ((rd_T84 l1 x5_1).f2) ((rd_T84 l1 x5_1).f3) ((rd_T84 l1 x5_1).f4) ((rd_T84 l1 x5_1).f5) false _ A7.out).mono ?_
        rintro e w12 ⟨rfl, hb⟩
        refine ⟨_, rfl, ?_⟩
        have n0_ := Aside0.mk (qk (by repeat (first | (with_reducible first | exact HB.out | apply qe | apply qb | apply qc) | exact HB.out)) hb)
        clear HB
        have HB := n0_
        clear n0_
        (try clear hb)
        (try clear hb2)
        (try clear hk)
        (try clear hi)
        refine hK.out _ _ ⟨((HB.out.cell (World.block_lt_of_cell? w _ hw134_0)).trans hw134_0), ((HB.out.cell (World.block_lt_of_cell? w _ hw134_1)).trans hw134_1), ((HB.out.cell (World.block_lt_of_cell? w _ hw134_2)).trans hw134_2), ((HB.out.cell (World.block_lt_of_cell? w _ hw134_3)).trans hw134_3), ((HB.out.cell (World.block_lt_of_cell? w _ hw134_4)).trans hw134_4), ((HB.out.cell (World.block_lt_of_cell? w _ hw134_5)).trans hw134_5), ((HB.out.cell (World.block_lt_of_cell? w _ hw135_0)).trans hw135_0), ((HB.out.cell (World.block_lt_of_cell? w _ hw135_1)).trans hw135_1), ((HB.out.cell (World.block_lt_of_cell? w _ hw135_2)).trans hw135_2), ((HB.out.cell (World.block_lt_of_cell? w _ hw135_3)).trans hw135_3), ((HB.out.cell (World.block_lt_of_cell? w _ hw135_4)).trans hw135_4), ((HB.out.cell (World.block_lt_of_cell? w _ hw135_5)).trans hw135_5)⟩ (fun hHeld => ?_)
        clear hK K
        refine norm_ (a' := ?_) ?_ ?_
        rotate_left
        ·
         show Act.put _ (some 25) _ = _
         simp only [Act.put, List.setIfInBounds_toArray, List.set_cons_zero, List.set_cons_succ, i64_w, i32_w]
         rfl
        refine pure_ (i := 9) (N := some 26) (v := ?_) (a' := ?_) #[true, true, true, true, true, true, true, true, true, true] rfl rfl (any_of HT_.out (by kernel_rfl)) (fun _ _ _ h => h) (Or.inl ⟨by rfl, ?_⟩) ?_ ?_
        rotate_left
        ·
         intro w'
         go_simp
         with_reducible rfl
        rotate_left
        ·
         simp only [Act.put, List.setIfInBounds_toArray, List.set_cons_zero, List.set_cons_succ, i64_w, i32_w]
         rfl
        refine done_ (done_of HT_.out (by kernel_rfl)) ?_
        try go_wp2
        go_ret
        exact ⟨by first | rfl | (simp [errW_none, errW_some] <;> rfl) | (simp [*, errW_none, errW_some] <;> rfl), by repeat (first | (with_reducible first | exact HB.out | apply qe | apply qb | apply qc) | exact HB.out)⟩
      ·
       rw [if_neg c6] at H
       exact absurd H (by simp)
     ·
      rw [if_neg c5] at H
      exact absurd H (by simp)
    ·
     rw [if_neg c4] at H
     have c4b0 : decide (x5_1 < (l0.length : Int)) = false := decide_eq_false c4
     clear c4
     obtain rfl := Option.some.inj H
     go_wp2
     go_ret
     exact ⟨by first | rfl | (simp [errW_none, errW_some] <;> rfl) | (simp [*, errW_none, errW_some] <;> rfl), by repeat (first | (with_reducible first | exact HB.out | apply qe | apply qb | apply qc) | exact HB.out)⟩
 ·
  rw [if_neg c3] at H
  have c3b0 : ((l0.length : Int) == (l1.length : Int)) = false := beq_eq_false_iff_ne.mpr c3
  have c3b1 : ((l0.length : Int) != (l1.length : Int)) = true := bne_iff_ne.mpr c3
  have c3b2 : (l0.length == l1.length) = false := by first | simpa using c3 | (simp at c3 ⊢; omega)
  obtain rfl := Option.some.inj H
  go_enter Try.func67, Try.ntmps67
  go_wp2
  go_ret
  exact ⟨by first | rfl | (simp [errW_none, errW_some] <;> rfl) | (simp [*, errW_none, errW_some] <;> rfl), by repeat (first | (with_reducible first | exact HB.out | apply qe | apply qb | apply qc) | exact HB.out)⟩

/-! ### laws_eqShard: function 19 -/
def laws_eqShard.f (k : Nat) (l0_0 : List (S84)) (a0_1 : Int) (a0_2 : Int) (a0_3 : Int) (l1_0 : List (S84)) (a1_1 : Int) (a1_2 : Int) (a1_3 : Int) : Option (Bool) := (laws_eqAggS.f k l0_0 l1_0).bind fun t139 => (if t139 = true then (if a0_1 = a1_1 then (if a0_2 = a1_2 then (if a0_3 = a1_3 then (some true) else (some false)) else (some false)) else (some false)) else (some false))
theorem laws_eqShard.mono : ∀ a0 a1 a2 a3 a4 a5 a6 a7 k, LeO (laws_eqShard.f k a0 a1 a2 a3 a4 a5 a6 a7) (laws_eqShard.f (k + 1) a0 a1 a2 a3 a4 a5 a6 a7) := by
 intro a0 a1 a2 a3 a4 a5 a6 a7 k
 unfold laws_eqShard.f
 repeat' first
   | (with_reducible exact laws_eqAggS.mono _ _ _)
   | (with_reducible exact LeO.refl _)
   | (with_reducible exact LeO.none _)
   | (with_reducible refine LeO.ite ?_ ?_)
   | (with_reducible refine LeO.bind ?_ (fun _ => ?_))
   | exact laws_eqAggS.mono _ _ _
   | exact LeO.none _
   | refine LeO.ite ?_ ?_
   | refine LeO.bind ?_ (fun _ => ?_)
set_option maxHeartbeats 8000000 in
set_option maxRecDepth 100000 in
theorem laws_eqShard.calls (k : Nat) (A0_0 : Option Addr) (c0_0 : Nat) (l0_0 : List (S84)) (a0_1 : Int) (a0_2 : Int) (a0_3 : Int) (A1_0 : Option Addr) (c1_0 : Nat) (l1_0 : List (S84)) (a1_1 : Int) (a1_2 : Int) (a1_3 : Int) (r : Bool) (w : World) (hr0_0 : Kd.C k84 w A0_0 l0_0.length l0_0) (hc0_0 : l0_0.length ≤ c0_0) (hr1_0 : Kd.C k84 w A1_0 l1_0.length l1_0) (hc1_0 : l1_0.length ≤ c1_0) (h : laws_eqShard.f k l0_0 a0_1 a0_2 a0_3 l1_0 a1_1 a1_2 a1_3 = some r) :
  Calls Try.prog 19 #[.agg #[.slice A0_0 l0_0.length c0_0, .int .i64 a0_1, .int .i64 a0_2, .int .i64 a0_3], .agg #[.slice A1_0 l1_0.length c1_0, .int .i64 a1_1, .int .i64 a1_2, .int .i64 a1_3]] w fun e w' => e = .returned (.bool r) ∧ Below w.heap.size w w' := by
 have hu29 := Try.underlying29
 have HR0_0 := Aside0.mk hr0_0
 have HC0_0 := Aside0.mk hc0_0
 clear hr0_0 hc0_0
 have HR1_0 := Aside0.mk hr1_0
 have HC1_0 := Aside0.mk hc1_0
 clear hr1_0 hc1_0
 have HB := Aside0.mk (Below.refl w.heap.size w)
 have H : ((laws_eqAggS.f k l0_0 l1_0).bind fun t139 => (if t139 = true then (if a0_1 = a1_1 then (if a0_2 = a1_2 then (if a0_3 = a1_3 then (some true) else (some false)) else (some false)) else (some false)) else (some false))) = some r := h
 clear h
 replace H := Option.bind_eq_some_iff.mp H
 obtain ⟨t139, A30, H⟩ := H
 replace H : (if t139 = true then (if a0_1 = a1_1 then (if a0_2 = a1_2 then (if a0_3 = a1_3 then (some true) else (some false)) else (some false)) else (some false)) else (some false)) = some r := H
 have A3 := Aside0.mk A30
 clear A30
 by_cases c4 : t139 = true
 ·
  subst c4
  have H1 : (if a0_1 = a1_1 then (if a0_2 = a1_2 then (if a0_3 = a1_3 then (some true) else (some false)) else (some false)) else (some false)) = some r := by rw [if_pos rfl] at H; exact H
  clear H
  have H := H1
  clear H1
  by_cases c5 : a0_1 = a1_1
  ·
   rw [if_pos c5] at H
   have c5b0 : (a0_1 == a1_1) = true := beq_iff_eq.mpr c5
   have c5b1 : (a0_1 != a1_1) = false := bne_eq_false_iff_eq.mpr c5
   clear c5
   by_cases c6 : a0_2 = a1_2
   ·
    rw [if_pos c6] at H
    have c6b0 : (a0_2 == a1_2) = true := beq_iff_eq.mpr c6
    have c6b1 : (a0_2 != a1_2) = false := bne_eq_false_iff_eq.mpr c6
    clear c6
    by_cases c7 : a0_3 = a1_3
    ·
     rw [if_pos c7] at H
     have c7b0 : (a0_3 == a1_3) = true := beq_iff_eq.mpr c7
     have c7b1 : (a0_3 != a1_3) = false := bne_eq_false_iff_eq.mpr c7
     clear c7
     obtain rfl := Option.some.inj H
     go_enter Try.func19, Try.ntmps19
     go_wp2_with (first | ((with_reducible refine qm (N := 2) rfl ?_); refine ql ?hg (N := 2) ?hd (cs := #[.slice A0_0 l0_0.length c0_0, .int .i64 a0_1, .int .i64 a0_2, .int .i64 a0_3]) (t := 29) ?hr ?_; (case hd => rfl); (case hg => rfl); (case hr => first | (go_simp; done) | (go_simp; rfl)); intro gb137 hg w8 hbox hb; have n0_ := Aside0.mk (qk (by repeat (first | (with_reducible first | exact HB.out | apply qe | apply qb | apply qc) | exact HB.out)) hb); have n1_ := Aside0.mk (hbox); have n2_ := Aside0.mk ((by rw [hg]; exact (qg (by repeat (first | (with_reducible first | exact HB.out | apply qe | apply qb | apply qc) | exact HB.out))) : w.heap.size ≤ gb137)); have n3_ := Aside0.mk ((by rw [hg]; exact (qg (by repeat (first | (with_reducible first | exact HB.out | apply qe | apply qb | apply qc) | exact HB.out))) : w.heap.size ≤ gb137)); clear HB; have HB := n0_; have BK137 := n1_; have GW137 := n2_; have GE137 := n3_; clear n0_ n1_ n2_ n3_; clear hb hbox hg) | ((with_reducible refine qm (N := 3) rfl ?_); refine ql ?hg (N := 3) ?hd (cs := #[.slice A1_0 l1_0.length c1_0, .int .i64 a1_1, .int .i64 a1_2, .int .i64 a1_3]) (t := 29) ?hr ?_; (case hd => rfl); (case hg => rfl); (case hr => first | (go_simp; done) | (go_simp; rfl)); intro gb138 hg w9 hbox hb; have n0_ := Aside0.mk (qn (g := gb137) (o := .cells #[.slice A0_0 l0_0.length c0_0, .int .i64 a0_1, .int .i64 a0_2, .int .i64 a0_3] 29 (0, 0)) (by (with_reducible repeat (first | refine qh ?_ _ | refine qj ?_ | refine qi ?_ _)); exact BK137.out) hb); have n1_ := Aside0.mk (qk (by repeat (first | (with_reducible first | exact HB.out | apply qe | apply qb | apply qc | refine qf ?_ GE137.out) | exact HB.out)) hb); have n2_ := Aside0.mk (hbox); have n3_ := Aside0.mk ((by rw [hg]; exact (qg (by repeat (first | (with_reducible first | exact HB.out | apply qe | apply qb | apply qc | refine qf ?_ GE137.out) | exact HB.out))) : w.heap.size ≤ gb138)); have n4_ := Aside0.mk ((by rw [hg]; exact (qg (by repeat (first | (with_reducible first | exact HB.out | apply qe | apply qb | apply qc | refine qf ?_ GE137.out) | exact HB.out))) : w.heap.size ≤ gb138)); have n5_ := Aside0.mk ((by rw [hg]; exact Nat.ne_of_lt (blk_lt (g := gb137) (o := .cells #[.slice A0_0 l0_0.length c0_0, .int .i64 a0_1, .int .i64 a0_2, .int .i64 a0_3] 29 (0, 0)) (by (with_reducible repeat (first | refine qh ?_ _ | refine qj ?_ | refine qi ?_ _)); exact BK137.out)) : gb137 ≠ gb138)); have n6_ := Aside0.mk ((by rw [hg]; exact Nat.ne_of_gt (blk_lt (g := gb137) (o := .cells #[.slice A0_0 l0_0.length c0_0, .int .i64 a0_1, .int .i64 a0_2, .int .i64 a0_3] 29 (0, 0)) (by (with_reducible repeat (first | refine qh ?_ _ | refine qj ?_ | refine qi ?_ _)); exact BK137.out)) : gb138 ≠ gb137)); clear BK137; clear HB; have BK137 := n0_; have HB := n1_; have BK138 := n2_; have GW138 := n3_; have GE138 := n4_; have NB137_138 := n5_; have NB138_137 := n6_; clear n0_ n1_ n2_ n3_ n4_ n5_ n6_; clear hb hbox hg; have hnb10 := NB137_138.out; have hnc10 := NB138_137.out; have hcz11_0 : w9.cell? ⟨gb137, 0, none⟩ = some (.slice A0_0 l0_0.length c0_0) := (qd BK137.out 0).trans rfl; have hcz11_1 : w9.cell? ⟨gb137, 1, none⟩ = some (.int .i64 a0_1) := (qd BK137.out 1).trans rfl; have hcz11_2 : w9.cell? ⟨gb137, 2, none⟩ = some (.int .i64 a0_2) := (qd BK137.out 2).trans rfl; have hcz11_3 : w9.cell? ⟨gb137, 3, none⟩ = some (.int .i64 a0_3) := (qd BK137.out 3).trans rfl; have hfz11_0 := qa BK137.out 0; have hfz11_1 := qa BK137.out 1; have hfz11_2 := qa BK137.out 2; have hfz11_3 := qa BK137.out 3; have hcz12_0 : w9.cell? ⟨gb138, 0, none⟩ = some (.slice A1_0 l1_0.length c1_0) := (qd BK138.out 0).trans rfl; have hcz12_1 : w9.cell? ⟨gb138, 1, none⟩ = some (.int .i64 a1_1) := (qd BK138.out 1).trans rfl; have hcz12_2 : w9.cell? ⟨gb138, 2, none⟩ = some (.int .i64 a1_2) := (qd BK138.out 2).trans rfl; have hcz12_3 : w9.cell? ⟨gb138, 3, none⟩ = some (.int .i64 a1_3) := (qd BK138.out 3).trans rfl; have hfz12_0 := qa BK138.out 0; have hfz12_1 := qa BK138.out 1; have hfz12_2 := qa BK138.out 2; have hfz12_3 := qa BK138.out 3) | ((with_reducible refine gate_callee (f := 67) rfl ?_); refine goesL_ (some 9) rfl rfl Try.func67 (by kernel_rfl) rfl #[.slice A0_0 l0_0.length c0_0, .slice A1_0 l1_0.length c1_0] rfl (by (try simp only [List.map_toArray, List.map_cons, List.map_nil]); first | done | rfl | (simp only [List.length_drop, List.length_take]; rfl)) ?_; (with_reducible refine (laws_eqAggS.calls k _ _ l0_0 _ _ l1_0 true _ ?side1 ?side2 ?side3 ?side4 A3.out).mono ?_); (case side1 => repeat (first | exact (Kd.C_below HR0_0.out HB.out) | (with_reducible refine Kd.C_alloc ?_ _) | (with_reducible refine Kd.C_drewN ?_ _) | (with_reducible refine Kd.C_drew ?_))); (case side2 => exact HC0_0.out); (case side3 => repeat (first | exact (Kd.C_below HR1_0.out HB.out) | (with_reducible refine Kd.C_alloc ?_ _) | (with_reducible refine Kd.C_drewN ?_ _) | (with_reducible refine Kd.C_drew ?_))); (case side4 => exact HC1_0.out); rintro e w13 ⟨rfl, hb⟩; refine ⟨_, rfl, ?_⟩; have n0_ := Aside0.mk (qn (g := gb137) (o := .cells #[.slice A0_0 l0_0.length c0_0, .int .i64 a0_1, .int .i64 a0_2, .int .i64 a0_3] 29 (0, 0)) (by (with_reducible repeat (first | refine qh ?_ _ | refine qj ?_ | refine qi ?_ _)); exact BK137.out) hb); have n1_ := Aside0.mk (qn (g := gb138) (o := .cells #[.slice A1_0 l1_0.length c1_0, .int .i64 a1_1, .int .i64 a1_2, .int .i64 a1_3] 29 (0, 0)) (by (with_reducible repeat (first | refine qh ?_ _ | refine qj ?_ | refine qi ?_ _)); exact BK138.out) hb); have n2_ := Aside0.mk (qk (by repeat (first | (with_reducible first | exact HB.out | apply qe | apply qb | apply qc | refine qf ?_ GE137.out | refine qf ?_ GE138.out) | exact HB.out)) hb); clear BK137; clear BK138; clear HB; have BK137 := n0_; have BK138 := n1_; have HB := n2_; clear n0_ n1_ n2_; (try clear hb); (try clear hb2); (try clear hk); (try clear hi); have hcz14_0 : w13.cell? ⟨gb137, 0, none⟩ = some (.slice A0_0 l0_0.length c0_0) := (qd BK137.out 0).trans rfl; have hcz14_1 : w13.cell? ⟨gb137, 1, none⟩ = some (.int .i64 a0_1) := (qd BK137.out 1).trans rfl; have hcz14_2 : w13.cell? ⟨gb137, 2, none⟩ = some (.int .i64 a0_2) := (qd BK137.out 2).trans rfl; have hcz14_3 : w13.cell? ⟨gb137, 3, none⟩ = some (.int .i64 a0_3) := (qd BK137.out 3).trans rfl; have hfz14_0 := qa BK137.out 0; have hfz14_1 := qa BK137.out 1; have hfz14_2 := qa BK137.out 2; have hfz14_3 := qa BK137.out 3; have hcz15_0 : w13.cell? ⟨gb138, 0, none⟩ = some (.slice A1_0 l1_0.length c1_0) := (qd BK138.out 0).trans rfl; have hcz15_1 : w13.cell? ⟨gb138, 1, none⟩ = some (.int .i64 a1_1) := (qd BK138.out 1).trans rfl; have hcz15_2 : w13.cell? ⟨gb138, 2, none⟩ = some (.int .i64 a1_2) := (qd BK138.out 2).trans rfl; have hcz15_3 : w13.cell? ⟨gb138, 3, none⟩ = some (.int .i64 a1_3) := (qd BK138.out 3).trans rfl; have hfz15_0 := qa BK138.out 0; have hfz15_1 := qa BK138.out 1; have hfz15_2 := qa BK138.out 2; have hfz15_3 := qa BK138.out 3))
     go_ret
     exact ⟨by first | rfl | (simp [errW_none, errW_some] <;> rfl) | (simp [*, errW_none, errW_some] <;> rfl), by repeat (first | (with_reducible first | exact HB.out | apply qe | apply qb | apply qc | refine qf ?_ GE137.out | refine qf ?_ GE138.out) | exact HB.out)⟩
    ·
     rw [if_neg c7] at H
     have c7b0 : (a0_3 == a1_3) = false := beq_eq_false_iff_ne.mpr c7
     have c7b1 : (a0_3 != a1_3) = true := bne_iff_ne.mpr c7
     obtain rfl := Option.some.inj H
     go_enter Try.func19, Try.ntmps19
     go_wp2_with (first | ((with_reducible refine qm (N := 2) rfl ?_); refine ql ?hg (N := 2) ?hd (cs := #[.slice A0_0 l0_0.length c0_0, .int .i64 a0_1, .int .i64 a0_2, .int .i64 a0_3]) (t := 29) ?hr ?_; (case hd => rfl); (case hg => rfl); (case hr => first | (go_simp; done) | (go_simp; rfl)); intro gb137 hg w16 hbox hb; have n0_ := Aside0.mk (qk (by repeat (first | (with_reducible first | exact HB.out | apply qe | apply qb | apply qc) | exact HB.out)) hb); have n1_ := Aside0.mk (hbox); have n2_ := Aside0.mk ((by rw [hg]; exact (qg (by repeat (first | (with_reducible first | exact HB.out | apply qe | apply qb | apply qc) | exact HB.out))) : w.heap.size ≤ gb137)); have n3_ := Aside0.mk ((by rw [hg]; exact (qg (by repeat (first | (with_reducible first | exact HB.out | apply qe | apply qb | apply qc) | exact HB.out))) : w.heap.size ≤ gb137)); clear HB; have HB := n0_; have BK137 := n1_; have GW137 := n2_; have GE137 := n3_; clear n0_ n1_ n2_ n3_; clear hb hbox hg) | ((with_reducible refine qm (N := 3) rfl ?_); refine ql ?hg (N := 3) ?hd (cs := #[.slice A1_0 l1_0.length c1_0, .int .i64 a1_1, .int .i64 a1_2, .int .i64 a1_3]) (t := 29) ?hr ?_; (case hd => rfl); (case hg => rfl); (case hr => first | (go_simp; done) | (go_simp; rfl)); intro gb138 hg w17 hbox hb; have n0_ := Aside0.mk (qn (g := gb137) (o := .cells #[.slice A0_0 l0_0.length c0_0, .int .i64 a0_1, .int .i64 a0_2, .int .i64 a0_3] 29 (0, 0)) (by (with_reducible repeat (first | refine qh ?_ _ | refine qj ?_ | refine qi ?_ _)); exact BK137.out) hb); have n1_ := Aside0.mk (qk (by repeat (first | (with_reducible first | exact HB.out | apply qe | apply qb | apply qc | refine qf ?_ GE137.out) | exact HB.out)) hb); have n2_ := Aside0.mk (hbox); have n3_ := Aside0.mk ((by rw [hg]; exact (qg (by repeat (first | (with_reducible first | exact HB.out | apply qe | apply qb | apply qc | refine qf ?_ GE137.out) | exact HB.out))) : w.heap.size ≤ gb138)); have n4_ := Aside0.mk ((by rw [hg]; exact (qg (by repeat (first | (with_reducible first | exact HB.out | apply qe | apply qb | apply qc | refine qf ?_ GE137.out) | exact HB.out))) : w.heap.size ≤ gb138)); have n5_ := Aside0.mk ((by rw [hg]; exact Nat.ne_of_lt (blk_lt (g := gb137) (o := .cells #[.slice A0_0 l0_0.length c0_0, .int .i64 a0_1, .int .i64 a0_2, .int .i64 a0_3] 29 (0, 0)) (by (with_reducible repeat (first | refine qh ?_ _ | refine qj ?_ | refine qi ?_ _)); exact BK137.out)) : gb137 ≠ gb138)); have n6_ := Aside0.mk ((by rw [hg]; exact Nat.ne_of_gt (blk_lt (g := gb137) (o := .cells #[.slice A0_0 l0_0.length c0_0, .int .i64 a0_1, .int .i64 a0_2, .int .i64 a0_3] 29 (0, 0)) (by (with_reducible repeat (first | refine qh ?_ _ | refine qj ?_ | refine qi ?_ _)); exact BK137.out)) : gb138 ≠ gb137)); clear BK137; clear HB; have BK137 := n0_; have HB := n1_; have BK138 := n2_; have GW138 := n3_; have GE138 := n4_; have NB137_138 := n5_; have NB138_137 := n6_; clear n0_ n1_ n2_ n3_ n4_ n5_ n6_; clear hb hbox hg; have hnb18 := NB137_138.out; have hnc18 := NB138_137.out; have hcz19_0 : w17.cell? ⟨gb137, 0, none⟩ = some (.slice A0_0 l0_0.length c0_0) := (qd BK137.out 0).trans rfl; have hcz19_1 : w17.cell? ⟨gb137, 1, none⟩ = some (.int .i64 a0_1) := (qd BK137.out 1).trans rfl; have hcz19_2 : w17.cell? ⟨gb137, 2, none⟩ = some (.int .i64 a0_2) := (qd BK137.out 2).trans rfl; have hcz19_3 : w17.cell? ⟨gb137, 3, none⟩ = some (.int .i64 a0_3) := (qd BK137.out 3).trans rfl; have hfz19_0 := qa BK137.out 0; have hfz19_1 := qa BK137.out 1; have hfz19_2 := qa BK137.out 2; have hfz19_3 := qa BK137.out 3; have hcz20_0 : w17.cell? ⟨gb138, 0, none⟩ = some (.slice A1_0 l1_0.length c1_0) := (qd BK138.out 0).trans rfl; have hcz20_1 : w17.cell? ⟨gb138, 1, none⟩ = some (.int .i64 a1_1) := (qd BK138.out 1).trans rfl; have hcz20_2 : w17.cell? ⟨gb138, 2, none⟩ = some (.int .i64 a1_2) := (qd BK138.out 2).trans rfl; have hcz20_3 : w17.cell? ⟨gb138, 3, none⟩ = some (.int .i64 a1_3) := (qd BK138.out 3).trans rfl; have hfz20_0 := qa BK138.out 0; have hfz20_1 := qa BK138.out 1; have hfz20_2 := qa BK138.out 2; have hfz20_3 := qa BK138.out 3) | ((with_reducible refine gate_callee (f := 67) rfl ?_); refine goesL_ (some 9) rfl rfl Try.func67 (by kernel_rfl) rfl #[.slice A0_0 l0_0.length c0_0, .slice A1_0 l1_0.length c1_0] rfl (by (try simp only [List.map_toArray, List.map_cons, List.map_nil]); first | done | rfl | (simp only [List.length_drop, List.length_take]; rfl)) ?_; (with_reducible refine (laws_eqAggS.calls k _ _ l0_0 _ _ l1_0 true _ ?side1 ?side2 ?side3 ?side4 A3.out).mono ?_); (case side1 => repeat (first | exact (Kd.C_below HR0_0.out HB.out) | (with_reducible refine Kd.C_alloc ?_ _) | (with_reducible refine Kd.C_drewN ?_ _) | (with_reducible refine Kd.C_drew ?_))); (case side2 => exact HC0_0.out); (case side3 => repeat (first | exact (Kd.C_below HR1_0.out HB.out) | (with_reducible refine Kd.C_alloc ?_ _) | (with_reducible refine Kd.C_drewN ?_ _) | (with_reducible refine Kd.C_drew ?_))); (case side4 => exact HC1_0.out); rintro e w21 ⟨rfl, hb⟩; refine ⟨_, rfl, ?_⟩; have n0_ := Aside0.mk (qn (g := gb137) (o := .cells #[.slice A0_0 l0_0.length c0_0, .int .i64 a0_1, .int .i64 a0_2, .int .i64 a0_3] 29 (0, 0)) (by (with_reducible repeat (first | refine qh ?_ _ | refine qj ?_ | refine qi ?_ _)); exact BK137.out) hb); have n1_ := Aside0.mk (qn (g := gb138) (o := .cells #[.slice A1_0 l1_0.length c1_0, .int .i64 a1_1, .int .i64 a1_2, .int .i64 a1_3] 29 (0, 0)) (by (with_reducible repeat (first | refine qh ?_ _ | refine qj ?_ | refine qi ?_ _)); exact BK138.out) hb); have n2_ := Aside0.mk (qk (by repeat (first | (with_reducible first | exact HB.out | apply qe | apply qb | apply qc | refine qf ?_ GE137.out | refine qf ?_ GE138.out) | exact HB.out)) hb); clear BK137; clear BK138; clear HB; have BK137 := n0_; have BK138 := n1_; have HB := n2_; clear n0_ n1_ n2_; (try clear hb); (try clear hb2); (try clear hk); (try clear hi); have hcz22_0 : w21.cell? ⟨gb137, 0, none⟩ = some (.slice A0_0 l0_0.length c0_0) := (qd BK137.out 0).trans rfl; have hcz22_1 : w21.cell? ⟨gb137, 1, none⟩ = some (.int .i64 a0_1) := (qd BK137.out 1).trans rfl; have hcz22_2 : w21.cell? ⟨gb137, 2, none⟩ = some (.int .i64 a0_2) := (qd BK137.out 2).trans rfl; have hcz22_3 : w21.cell? ⟨gb137, 3, none⟩ = some (.int .i64 a0_3) := (qd BK137.out 3).trans rfl; have hfz22_0 := qa BK137.out 0; have hfz22_1 := qa BK137.out 1; have hfz22_2 := qa BK137.out 2; have hfz22_3 := qa BK137.out 3; have hcz23_0 : w21.cell? ⟨gb138, 0, none⟩ = some (.slice A1_0 l1_0.length c1_0) := (qd BK138.out 0).trans rfl; have hcz23_1 : w21.cell? ⟨gb138, 1, none⟩ = some (.int .i64 a1_1) := (qd BK138.out 1).trans rfl; have hcz23_2 : w21.cell? ⟨gb138, 2, none⟩ = some (.int .i64 a1_2) := (qd BK138.out 2).trans rfl; have hcz23_3 : w21.cell? ⟨gb138, 3, none⟩ = some (.int .i64 a1_3) := (qd BK138.out 3).trans rfl; have hfz23_0 := qa BK138.out 0; have hfz23_1 := qa BK138.out 1; have hfz23_2 := qa BK138.out 2; have hfz23_3 := qa BK138.out 3))
     go_ret
     exact ⟨by first | rfl | (simp [errW_none, errW_some] <;> rfl) | (simp [*, errW_none, errW_some] <;> rfl), by repeat (first | (with_reducible first | exact HB.out | apply qe | apply qb | apply qc | refine qf ?_ GE137.out | refine qf ?_ GE138.out) | exact HB.out)⟩
   ·
    rw [if_neg c6] at H
    have c6b0 : (a0_2 == a1_2) = false := beq_eq_false_iff_ne.mpr c6
    have c6b1 : (a0_2 != a1_2) = true := bne_iff_ne.mpr c6
    obtain rfl := Option.some.inj H
    go_enter Try.func19, Try.ntmps19
    go_wp2_with (first | ((with_reducible refine qm (N := 2) rfl ?_); refine ql ?hg (N := 2) ?hd (cs := #[.slice A0_0 l0_0.length c0_0, .int .i64 a0_1, .int .i64 a0_2, .int .i64 a0_3]) (t := 29) ?hr ?_; (case hd => rfl); (case hg => rfl); (case hr => first | (go_simp; done) | (go_simp; rfl)); intro gb137 hg w24 hbox hb; have n0_ := Aside0.mk (qk (by repeat (first | (with_reducible first | exact HB.out | apply qe | apply qb | apply qc) | exact HB.out)) hb); have n1_ := Aside0.mk (hbox); have n2_ := Aside0.mk ((by rw [hg]; exact (qg (by repeat (first | (with_reducible first | exact HB.out | apply qe | apply qb | apply qc) | exact HB.out))) : w.heap.size ≤ gb137)); have n3_ := Aside0.mk ((by rw [hg]; exact (qg (by repeat (first | (with_reducible first | exact HB.out | apply qe | apply qb | apply qc) | exact HB.out))) : w.heap.size ≤ gb137)); clear HB; have HB := n0_; have BK137 := n1_; have GW137 := n2_; have GE137 := n3_; clear n0_ n1_ n2_ n3_; clear hb hbox hg) | ((with_reducible refine qm (N := 3) rfl ?_); refine ql ?hg (N := 3) ?hd (cs := #[.slice A1_0 l1_0.length c1_0, .int .i64 a1_1, .int .i64 a1_2, .int .i64 a1_3]) (t := 29) ?hr ?_; (case hd => rfl); (case hg => rfl); (case hr => first | (go_simp; done) | (go_simp; rfl)); intro gb138 hg w25 hbox hb; have n0_ := Aside0.mk (qn (g := gb137) (o := .cells #[.slice A0_0 l0_0.length c0_0, .int .i64 a0_1, .int .i64 a0_2, .int .i64 a0_3] 29 (0, 0)) (by (with_reducible repeat (first | refine qh ?_ _ | refine qj ?_ | refine qi ?_ _)); exact BK137.out) hb); have n1_ := Aside0.mk (qk (by repeat (first | (with_reducible first | exact HB.out | apply qe | apply qb | apply qc | refine qf ?_ GE137.out) | exact HB.out)) hb); have n2_ := Aside0.mk (hbox); have n3_ := Aside0.mk ((by rw [hg]; exact (qg (by repeat (first | (with_reducible first | exact HB.out | apply qe | apply qb | apply qc | refine qf ?_ GE137.out) | exact HB.out))) : w.heap.size ≤ gb138)); have n4_ := Aside0.mk ((by rw [hg]; exact (qg (by repeat (first | (with_reducible first | exact HB.out | apply qe | apply qb | apply qc | refine qf ?_ GE137.out) | exact HB.out))) : w.heap.size ≤ gb138)); have n5_ := Aside0.mk ((by rw [hg]; exact Nat.ne_of_lt (blk_lt (g := gb137) (o := .cells #[.slice A0_0 l0_0.length c0_0, .int .i64 a0_1, .int .i64 a0_2, .int .i64 a0_3] 29 (0, 0)) (by (with_reducible repeat (first | refine qh ?_ _ | refine qj ?_ | refine qi ?_ _)); exact BK137.out)) : gb137 ≠ gb138)); have n6_ := Aside0.mk ((by rw [hg]; exact Nat.ne_of_gt (blk_lt (g := gb137) (o := .cells #[.slice A0_0 l0_0.length c0_0, .int .i64 a0_1, .int .i64 a0_2, .int .i64 a0_3] 29 (0, 0)) (by (with_reducible repeat (first | refine qh ?_ _ | refine qj ?_ | refine qi ?_ _)); exact BK137.out)) : gb138 ≠ gb137)); clear BK137; clear HB; have BK137 := n0_; have HB := n1_; have BK138 := n2_; have GW138 := n3_; have GE138 := n4_; have NB137_138 := n5_; have NB138_137 := n6_; clear n0_ n1_ n2_ n3_ n4_ n5_ n6_; clear hb hbox hg; have hnb26 := NB137_138.out; have hnc26 := NB138_137.out; have hcz27_0 : w25.cell? ⟨gb137, 0, none⟩ = some (.slice A0_0 l0_0.length c0_0) := (qd BK137.out 0).trans rfl; have hcz27_1 : w25.cell? ⟨gb137, 1, none⟩ = some (.int .i64 a0_1) := (qd BK137.out 1).trans rfl; have hcz27_2 : w25.cell? ⟨gb137, 2, none⟩ = some (.int .i64 a0_2) := (qd BK137.out 2).trans rfl; have hcz27_3 : w25.cell? ⟨gb137, 3, none⟩ = some (.int .i64 a0_3) := (qd BK137.out 3).trans rfl; have hfz27_0 := qa BK137.out 0; have hfz27_1 := qa BK137.out 1; have hfz27_2 := qa BK137.out 2; have hfz27_3 := qa BK137.out 3; have hcz28_0 : w25.cell? ⟨gb138, 0, none⟩ = some (.slice A1_0 l1_0.length c1_0) := (qd BK138.out 0).trans rfl; have hcz28_1 : w25.cell? ⟨gb138, 1, none⟩ = some (.int .i64 a1_1) := (qd BK138.out 1).trans rfl; have hcz28_2 : w25.cell? ⟨gb138, 2, none⟩ = some (.int .i64 a1_2) := (qd BK138.out 2).trans rfl; have hcz28_3 : w25.cell? ⟨gb138, 3, none⟩ = some (.int .i64 a1_3) := (qd BK138.out 3).trans rfl; have hfz28_0 := qa BK138.out 0; have hfz28_1 := qa BK138.out 1; have hfz28_2 := qa BK138.out 2; have hfz28_3 := qa BK138.out 3) | ((with_reducible refine gate_callee (f := 67) rfl ?_); refine goesL_ (some 9) rfl rfl Try.func67 (by kernel_rfl) rfl #[.slice A0_0 l0_0.length c0_0, .slice A1_0 l1_0.length c1_0] rfl (by (try simp only [List.map_toArray, List.map_cons, List.map_nil]); first | done | rfl | (simp only [List.length_drop, List.length_take]; rfl)) ?_; (with_reducible refine (laws_eqAggS.calls k _ _ l0_0 _ _ l1_0 true _ ?side1 ?side2 ?side3 ?side4 A3.out).mono ?_); (case side1 => repeat (first | exact (Kd.C_below HR0_0.out HB.out) | (with_reducible refine Kd.C_alloc ?_ _) | (with_reducible refine Kd.C_drewN ?_ _) | (with_reducible refine Kd.C_drew ?_))); (case side2 => exact HC0_0.out); (case side3 => repeat (first | exact (Kd.C_below HR1_0.out HB.out) | (with_reducible refine Kd.C_alloc ?_ _) | (with_reducible refine Kd.C_drewN ?_ _) | (with_reducible refine Kd.C_drew ?_))); (case side4 => exact HC1_0.out); rintro e w29 ⟨rfl, hb⟩; refine ⟨_, rfl, ?_⟩; have n0_ := Aside0.mk (qn (g := gb137) (o := .cells #[.slice A0_0 l0_0.length c0_0, .int .i64 a0_1, .int .i64 a0_2, .int .i64 a0_3] 29 (0, 0)) (by (with_reducible repeat (first | refine qh ?_ _ | refine qj ?_ | refine qi ?_ _)); exact BK137.out) hb); have n1_ := Aside0.mk (qn (g := gb138) (o := .cells #[.slice A1_0 l1_0.length c1_0, .int .i64 a1_1, .int .i64 a1_2, .int .i64 a1_3] 29 (0, 0)) (by (with_reducible repeat (first | refine qh ?_ _ | refine qj ?_ | refine qi ?_ _)); exact BK138.out) hb); have n2_ := Aside0.mk (qk (by repeat (first | (with_reducible first | exact HB.out | apply qe | apply qb | apply qc | refine qf ?_ GE137.out | refine qf ?_ GE138.out) | exact HB.out)) hb); clear BK137; clear BK138; clear HB; have BK137 := n0_; have BK138 := n1_; have HB := n2_; clear n0_ n1_ n2_; (try clear hb); (try clear hb2); (try clear hk); (try clear hi); have hcz30_0 : w29.cell? ⟨gb137, 0, none⟩ = some (.slice A0_0 l0_0.length c0_0) := (qd BK137.out 0).trans rfl; have hcz30_1 : w29.cell? ⟨gb137, 1, none⟩ = some (.int .i64 a0_1) := (qd BK137.out 1).trans rfl; have hcz30_2 : w29.cell? ⟨gb137, 2, none⟩ = some (.int .i64 a0_2) := (qd BK137.out 2).trans rfl; have hcz30_3 : w29.cell? ⟨gb137, 3, none⟩ = some (.int .i64 a0_3) := (qd BK137.out 3).trans rfl; have hfz30_0 := qa BK137.out 0; have hfz30_1 := qa BK137.out 1; have hfz30_2 := qa BK137.out 2; have hfz30_3 := qa BK137.out 3; have hcz31_0 : w29.cell? ⟨gb138, 0, none⟩ = some (.slice A1_0 l1_0.length c1_0) := (qd BK138.out 0).trans rfl; have hcz31_1 : w29.cell? ⟨gb138, 1, none⟩ = some (.int .i64 a1_1) := (qd BK138.out 1).trans rfl; have hcz31_2 : w29.cell? ⟨gb138, 2, none⟩ = some (.int .i64 a1_2) := (qd BK138.out 2).trans rfl; have hcz31_3 : w29.cell? ⟨gb138, 3, none⟩ = some (.int .i64 a1_3) := (qd BK138.out 3).trans rfl; have hfz31_0 := qa BK138.out 0; have hfz31_1 := qa BK138.out 1; have hfz31_2 := qa BK138.out 2; have hfz31_3 := qa BK138.out 3))
    go_ret
    exact ⟨by first | rfl | (simp [errW_none, errW_some] <;> rfl) | (simp [*, errW_none, errW_some] <;> rfl), by repeat (first | (with_reducible first | exact HB.out | apply qe | apply qb | apply qc | refine qf ?_ GE137.out | refine qf ?_ GE138.out) | exact HB.out)⟩
  ·
   rw [if_neg c5] at H
   have c5b0 : (a0_1 == a1_1) = false := beq_eq_false_iff_ne.mpr c5
   have c5b1 : (a0_1 != a1_1) = true := bne_iff_ne.mpr c5
   obtain rfl := Option.some.inj H
   go_enter Try.func19, Try.ntmps19
   go_wp2_with (first | ((with_reducible refine qm (N := 2) rfl ?_); refine ql ?hg (N := 2) ?hd (cs := #[.slice A0_0 l0_0.length c0_0, .int .i64 a0_1, .int .i64 a0_2, .int .i64 a0_3]) (t := 29) ?hr ?_; (case hd => rfl); (case hg => rfl); (case hr => first | (go_simp; done) | (go_simp; rfl)); intro gb137 hg w32 hbox hb; have n0_ := Aside0.mk (qk (by repeat (first | (with_reducible first | exact HB.out | apply qe | apply qb | apply qc) | exact HB.out)) hb); have n1_ := Aside0.mk (hbox); have n2_ := Aside0.mk ((by rw [hg]; exact (qg (by repeat (first | (with_reducible first | exact HB.out | apply qe | apply qb | apply qc) | exact HB.out))) : w.heap.size ≤ gb137)); have n3_ := Aside0.mk ((by rw [hg]; exact (qg (by repeat (first | (with_reducible first | exact HB.out | apply qe | apply qb | apply qc) | exact HB.out))) : w.heap.size ≤ gb137)); clear HB; have HB := n0_; have BK137 := n1_; have GW137 := n2_; have GE137 := n3_; clear n0_ n1_ n2_ n3_; clear hb hbox hg) | ((with_reducible refine qm (N := 3) rfl ?_); refine ql ?hg (N := 3) ?hd (cs := #[.slice A1_0 l1_0.length c1_0, .int .i64 a1_1, .int .i64 a1_2, .int .i64 a1_3]) (t := 29) ?hr ?_; (case hd => rfl); (case hg => rfl); (case hr => first | (go_simp; done) | (go_simp; rfl)); intro gb138 hg w33 hbox hb; have n0_ := Aside0.mk (qn (g := gb137) (o := .cells #[.slice A0_0 l0_0.length c0_0, .int .i64 a0_1, .int .i64 a0_2, .int .i64 a0_3] 29 (0, 0)) (by (with_reducible repeat (first | refine qh ?_ _ | refine qj ?_ | refine qi ?_ _)); exact BK137.out) hb); have n1_ := Aside0.mk (qk (by repeat (first | (with_reducible first | exact HB.out | apply qe | apply qb | apply qc | refine qf ?_ GE137.out) | exact HB.out)) hb); have n2_ := Aside0.mk (hbox); have n3_ := Aside0.mk ((by rw [hg]; exact (qg (by repeat (first | (with_reducible first | exact HB.out | apply qe | apply qb | apply qc | refine qf ?_ GE137.out) | exact HB.out))) : w.heap.size ≤ gb138)); have n4_ := Aside0.mk ((by rw [hg]; exact (qg (by repeat (first | (with_reducible first | exact HB.out | apply qe | apply qb | apply qc | refine qf ?_ GE137.out) | exact HB.out))) : w.heap.size ≤ gb138)); have n5_ := Aside0.mk ((by rw [hg]; exact Nat.ne_of_lt (blk_lt (g := gb137) (o := .cells #[.slice A0_0 l0_0.length c0_0, .int .i64 a0_1, .int .i64 a0_2, .int .i64 a0_3] 29 (0, 0)) (by (with_reducible repeat (first | refine qh ?_ _ | refine qj ?_ | refine qi ?_ _)); exact BK137.out)) : gb137 ≠ gb138)); have n6_ := Aside0.mk ((by rw [hg]; exact Nat.ne_of_gt (blk_lt (g := gb137) (o := .cells #[.slice A0_0 l0_0.length c0_0, .int .i64 a0_1, .int .i64 a0_2, .int .i64 a0_3] 29 (0, 0)) (by (with_reducible repeat (first | refine qh ?_ _ | refine qj ?_ | refine qi ?_ _)); exact BK137.out)) : gb138 ≠ gb137)); clear BK137; clear HB; have BK137 := n0_; have HB := n1_; have BK138 := n2_; have GW138 := n3_; have GE138 := n4_; have NB137_138 := n5_; have NB138_137 := n6_; clear n0_ n1_ n2_ n3_ n4_ n5_ n6_; clear hb hbox hg; have hnb34 := NB137_138.out; have hnc34 := NB138_137.out; have hcz35_0 : w33.cell? ⟨gb137, 0, none⟩ = some (.slice A0_0 l0_0.length c0_0) := (qd BK137.out 0).trans rfl; have hcz35_1 : w33.cell? ⟨gb137, 1, none⟩ = some (.int .i64 a0_1) := (qd BK137.out 1).trans rfl; have hcz35_2 : w33.cell? ⟨gb137, 2, none⟩ = some (.int .i64 a0_2) := (qd BK137.out 2).trans rfl; have hcz35_3 : w33.cell? ⟨gb137, 3, none⟩ = some (.int .i64 a0_3) := (qd BK137.out 3).trans rfl; have hfz35_0 := qa BK137.out 0; have hfz35_1 := qa BK137.out 1; have hfz35_2 := qa BK137.out 2; have hfz35_3 := qa BK137.out 3; have hcz36_0 : w33.cell? ⟨gb138, 0, none⟩ = some (.slice A1_0 l1_0.length c1_0) := (qd BK138.out 0).trans rfl; have hcz36_1 : w33.cell? ⟨gb138, 1, none⟩ = some (.int .i64 a1_1) := (qd BK138.out 1).trans rfl; have hcz36_2 : w33.cell? ⟨gb138, 2, none⟩ = some (.int .i64 a1_2) := (qd BK138.out 2).trans rfl; have hcz36_3 : w33.cell? ⟨gb138, 3, none⟩ = some (.int .i64 a1_3) := (qd BK138.out 3).trans rfl; have hfz36_0 := qa BK138.out 0; have hfz36_1 := qa BK138.out 1; have hfz36_2 := qa BK138.out 2; have hfz36_3 := qa BK138.out 3) | ((with_reducible refine gate_callee (f := 67) rfl ?_); refine goesL_ (some 9) rfl rfl Try.func67 (by kernel_rfl) rfl #[.slice A0_0 l0_0.length c0_0, .slice A1_0 l1_0.length c1_0] rfl (by (try simp only [List.map_toArray, List.map_cons, List.map_nil]); first | done | rfl | (simp only [List.length_drop, List.length_take]; rfl)) ?_; (with_reducible refine (laws_eqAggS.calls k _ _ l0_0 _ _ l1_0 true _ ?side1 ?side2 ?side3 ?side4 A3.out).mono ?_); (case side1 => repeat (first | exact (Kd.C_below HR0_0.out HB.out) | (with_reducible refine Kd.C_alloc ?_ _) | (with_reducible refine Kd.C_drewN ?_ _) | (with_reducible refine Kd.C_drew ?_))); (case side2 => exact HC0_0.out); (case side3 => repeat (first | exact (Kd.C_below HR1_0.out HB.out) | (with_reducible refine Kd.C_alloc ?_ _) | (with_reducible refine Kd.C_drewN ?_ _) | (with_reducible refine Kd.C_drew ?_))); (case side4 => exact HC1_0.out); rintro e w37 ⟨rfl, hb⟩; refine ⟨_, rfl, ?_⟩; have n0_ := Aside0.mk (qn (g := gb137) (o := .cells #[.slice A0_0 l0_0.length c0_0, .int .i64 a0_1, .int .i64 a0_2, .int .i64 a0_3] 29 (0, 0)) (by (with_reducible repeat (first | refine qh ?_ _ | refine qj ?_ | refine qi ?_ _)); exact BK137.out) hb); have n1_ := Aside0.mk (qn (g := gb138) (o := .cells #[.slice A1_0 l1_0.length c1_0, .int .i64 a1_1, .int .i64 a1_2, .int .i64 a1_3] 29 (0, 0)) (by (with_reducible repeat (first | refine qh ?_ _ | refine qj ?_ | refine qi ?_ _)); exact BK138.out) hb); have n2_ := Aside0.mk (qk (by repeat (first | (with_reducible first | exact HB.out | apply qe | apply qb | apply qc | refine qf ?_ GE137.out | refine qf ?_ GE138.out) | exact HB.out)) hb); clear BK137; clear BK138; clear HB; have BK137 := n0_; have BK138 := n1_; have HB := n2_; clear n0_ n1_ n2_; (try clear hb); (try clear hb2); (try clear hk); (try clear hi); have hcz38_0 : w37.cell? ⟨gb137, 0, none⟩ = some (.slice A0_0 l0_0.length c0_0) := (qd BK137.out 0).trans rfl; have hcz38_1 : w37.cell? ⟨gb137, 1, none⟩ = some (.int .i64 a0_1) := (qd BK137.out 1).trans rfl; have hcz38_2 : w37.cell? ⟨gb137, 2, none⟩ = some (.int .i64 a0_2) := (qd BK137.out 2).trans rfl; have hcz38_3 : w37.cell? ⟨gb137, 3, none⟩ = some (.int .i64 a0_3) := (qd BK137.out 3).trans rfl; have hfz38_0 := qa BK137.out 0; have hfz38_1 := qa BK137.out 1; have hfz38_2 := qa BK137.out 2; have hfz38_3 := qa BK137.out 3; have hcz39_0 : w37.cell? ⟨gb138, 0, none⟩ = some (.slice A1_0 l1_0.length c1_0) := (qd BK138.out 0).trans rfl; have hcz39_1 : w37.cell? ⟨gb138, 1, none⟩ = some (.int .i64 a1_1) := (qd BK138.out 1).trans rfl; have hcz39_2 : w37.cell? ⟨gb138, 2, none⟩ = some (.int .i64 a1_2) := (qd BK138.out 2).trans rfl; have hcz39_3 : w37.cell? ⟨gb138, 3, none⟩ = some (.int .i64 a1_3) := (qd BK138.out 3).trans rfl; have hfz39_0 := qa BK138.out 0; have hfz39_1 := qa BK138.out 1; have hfz39_2 := qa BK138.out 2; have hfz39_3 := qa BK138.out 3))
   go_ret
   exact ⟨by first | rfl | (simp [errW_none, errW_some] <;> rfl) | (simp [*, errW_none, errW_some] <;> rfl), by repeat (first | (with_reducible first | exact HB.out | apply qe | apply qb | apply qc | refine qf ?_ GE137.out | refine qf ?_ GE138.out) | exact HB.out)⟩
 ·
  replace c4 := Bool.eq_false_iff.mpr c4
  subst c4
  have H1 : (some false) = some r := by rw [if_neg (show ¬ (false = true) by decide)] at H; exact H
  clear H
  have H := H1
  clear H1
  obtain rfl := Option.some.inj H
  go_enter Try.func19, Try.ntmps19
  go_wp2_with (first | ((with_reducible refine qm (N := 2) rfl ?_); refine ql ?hg (N := 2) ?hd (cs := #[.slice A0_0 l0_0.length c0_0, .int .i64 a0_1, .int .i64 a0_2, .int .i64 a0_3]) (t := 29) ?hr ?_; (case hd => rfl); (case hg => rfl); (case hr => first | (go_simp; done) | (go_simp; rfl)); intro gb137 hg w40 hbox hb; have n0_ := Aside0.mk (qk (by repeat (first | (with_reducible first | exact HB.out | apply qe | apply qb | apply qc) | exact HB.out)) hb); have n1_ := Aside0.mk (hbox); have n2_ := Aside0.mk ((by rw [hg]; exact (qg (by repeat (first | (with_reducible first | exact HB.out | apply qe | apply qb | apply qc) | exact HB.out))) : w.heap.size ≤ gb137)); have n3_ := Aside0.mk ((by rw [hg]; exact (qg (by repeat (first | (with_reducible first | exact HB.out | apply qe | apply qb | apply qc) | exact HB.out))) : w.heap.size ≤ gb137)); clear HB; have HB := n0_; have BK137 := n1_; have GW137 := n2_; have GE137 := n3_; clear n0_ n1_ n2_ n3_; clear hb hbox hg) | ((with_reducible refine qm (N := 3) rfl ?_); refine ql ?hg (N := 3) ?hd (cs := #[.slice A1_0 l1_0.length c1_0, .int .i64 a1_1, .int .i64 a1_2, .int .i64 a1_3]) (t := 29) ?hr ?_; (case hd => rfl); (case hg => rfl); (case hr => first | (go_simp; done) | (go_simp; rfl)); intro gb138 hg w41 hbox hb; have n0_ := Aside0.mk (qn (g := gb137) (o := .cells #[.slice A0_0 l0_0.length c0_0, .int .i64 a0_1, .int .i64 a0_2, .int .i64 a0_3] 29 (0, 0)) (by (with_reducible repeat (first | refine qh ?_ _ | refine qj ?_ | refine qi ?_ _)); exact BK137.out) hb); have n1_ := Aside0.mk (qk (by repeat (first | (with_reducible first | exact HB.out | apply qe | apply qb | apply qc | refine qf ?_ GE137.out) | exact HB.out)) hb); have n2_ := Aside0.mk (hbox); have n3_ := Aside0.mk ((by rw [hg]; exact (qg (by repeat (first | (with_reducible first | exact HB.out | apply qe | apply qb | apply qc | refine qf ?_ GE137.out) | exact HB.out))) : w.heap.size ≤ gb138)); have n4_ := Aside0.mk ((by rw [hg]; exact (qg (by repeat (first | (with_reducible first | exact HB.out | apply qe | apply qb | apply qc | refine qf ?_ GE137.out) | exact HB.out))) : w.heap.size ≤ gb138)); have n5_ := Aside0.mk ((by rw [hg]; exact Nat.ne_of_lt (blk_lt (g := gb137) (o := .cells #[.slice A0_0 l0_0.length c0_0, .int .i64 a0_1, .int .i64 a0_2, .int .i64 a0_3] 29 (0, 0)) (by (with_reducible repeat (first | refine qh ?_ _ | refine qj ?_ | refine qi ?_ _)); exact BK137.out)) : gb137 ≠ gb138)); have n6_ := Aside0.mk ((by rw [hg]; exact Nat.ne_of_gt (blk_lt (g := gb137) (o := .cells #[.slice A0_0 l0_0.length c0_0, .int .i64 a0_1, .int .i64 a0_2, .int .i64 a0_3] 29 (0, 0)) (by (with_reducible repeat (first | refine qh ?_ _ | refine qj ?_ | refine qi ?_ _)); exact BK137.out)) : gb138 ≠ gb137)); clear BK137; clear HB; have BK137 := n0_; have HB := n1_; have BK138 := n2_; have GW138 := n3_; have GE138 := n4_; have NB137_138 := n5_; have NB138_137 := n6_; clear n0_ n1_ n2_ n3_ n4_ n5_ n6_; clear hb hbox hg; have hnb42 := NB137_138.out; have hnc42 := NB138_137.out; have hcz43_0 : w41.cell? ⟨gb137, 0, none⟩ = some (.slice A0_0 l0_0.length c0_0) := (qd BK137.out 0).trans rfl; have hcz43_1 : w41.cell? ⟨gb137, 1, none⟩ = some (.int .i64 a0_1) := (qd BK137.out 1).trans rfl; have hcz43_2 : w41.cell? ⟨gb137, 2, none⟩ = some (.int .i64 a0_2) := (qd BK137.out 2).trans rfl; have hcz43_3 : w41.cell? ⟨gb137, 3, none⟩ = some (.int .i64 a0_3) := (qd BK137.out 3).trans rfl; have hfz43_0 := qa BK137.out 0; have hfz43_1 := qa BK137.out 1; have hfz43_2 := qa BK137.out 2; have hfz43_3 := qa BK137.out 3; have hcz44_0 : w41.cell? ⟨gb138, 0, none⟩ = some (.slice A1_0 l1_0.length c1_0) := (qd BK138.out 0).trans rfl; have hcz44_1 : w41.cell? ⟨gb138, 1, none⟩ = some (.int .i64 a1_1) := (qd BK138.out 1).trans rfl; have hcz44_2 : w41.cell? ⟨gb138, 2, none⟩ = some (.int .i64 a1_2) := (qd BK138.out 2).trans rfl; have hcz44_3 : w41.cell? ⟨gb138, 3, none⟩ = some (.int .i64 a1_3) := (qd BK138.out 3).trans rfl; have hfz44_0 := qa BK138.out 0; have hfz44_1 := qa BK138.out 1; have hfz44_2 := qa BK138.out 2; have hfz44_3 := qa BK138.out 3) | ((with_reducible refine gate_callee (f := 67) rfl ?_); refine goesL_ (some 9) rfl rfl Try.func67 (by kernel_rfl) rfl #[.slice A0_0 l0_0.length c0_0, .slice A1_0 l1_0.length c1_0] rfl (by (try simp only [List.map_toArray, List.map_cons, List.map_nil]); first | done | rfl | (simp only [List.length_drop, List.length_take]; rfl)) ?_; (with_reducible refine (laws_eqAggS.calls k _ _ l0_0 _ _ l1_0 false _ ?side1 ?side2 ?side3 ?side4 A3.out).mono ?_); (case side1 => repeat (first | exact (Kd.C_below HR0_0.out HB.out) | (with_reducible refine Kd.C_alloc ?_ _) | (with_reducible refine Kd.C_drewN ?_ _) | (with_reducible refine Kd.C_drew ?_))); (case side2 => exact HC0_0.out); (case side3 => repeat (first | exact (Kd.C_below HR1_0.out HB.out) | (with_reducible refine Kd.C_alloc ?_ _) | (with_reducible refine Kd.C_drewN ?_ _) | (with_reducible refine Kd.C_drew ?_))); (case side4 => exact HC1_0.out); rintro e w45 ⟨rfl, hb⟩; refine ⟨_, rfl, ?_⟩; have n0_ := Aside0.mk (qn (g := gb137) (o := .cells #[.slice A0_0 l0_0.length c0_0, .int .i64 a0_1, .int .i64 a0_2, .int .i64 a0_3] 29 (0, 0)) (by (with_reducible repeat (first | refine qh ?_ _ | refine qj ?_ | refine qi ?_ _)); exact BK137.out) hb); have n1_ := Aside0.mk (qn (g := gb138) (o := .cells #[.slice A1_0 l1_0.length c1_0, .int .i64 a1_1, .int .i64 a1_2, .int .i64 a1_3] 29 (0, 0)) (by (with_reducible repeat (first | refine qh ?_ _ | refine qj ?_ | refine qi ?_ _)); exact BK138.out) hb); have n2_ := Aside0.mk (qk (by repeat (first | (with_reducible first | exact HB.out | apply qe | apply qb | apply qc | refine qf ?_ GE137.out | refine qf ?_ GE138.out) | exact HB.out)) hb); clear BK137; clear BK138; clear HB; have BK137 := n0_; have BK138 := n1_; have HB := n2_; clear n0_ n1_ n2_; (try clear hb); (try clear hb2); (try clear hk); (try clear hi)))
  go_ret
  exact ⟨by first | rfl | (simp [errW_none, errW_some] <;> rfl) | (simp [*, errW_none, errW_some] <;> rfl), by repeat (first | (with_reducible first | exact HB.out | apply qe | apply qb | apply qc | refine qf ?_ GE137.out | refine qf ?_ GE138.out) | exact HB.out)⟩

end Go.Proofs.Ytengkenhmnpbeaa.PFnExactSameShard

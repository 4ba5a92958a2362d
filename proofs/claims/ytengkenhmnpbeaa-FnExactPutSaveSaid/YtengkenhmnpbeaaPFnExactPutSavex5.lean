-- Written by this session's program myprint.py over the kit's print and its own texts; Lean checks it.
-- made smaller: short names, half the indentation
import Derived.Test.YtengkenhmnpbeaaPFnExactPutSavex0
import Derived.Test.YtengkenhmnpbeaaPFnExactPutSavex4
namespace Go.Proofs.Ytengkenhmnpbeaa.PFnExactPutSave
open Go.RowKit Go.Proofs.YtengkenhmnpbeaaW.PrintWords Go.Proofs.YtengkenhmnpbeaaW.PrintLast Go.Proofs.YtengkenhmnpbeaaW.PrintMore
open Go.Proofs.YtengkenhmnpbeaaW.PrintWords renaming pw_below_drewN → qa, below_alloc → qb, below_drew1 → qc, blk_frozen → qd, blk_cell → qe, below_set → qf, blk_drewN → qg, blk_alloc → qh, blk_drew → qi, below_size → qj, below_step → qn, gate_callee → qo
open Go.Proofs.YtengkenhmnpbeaaW.PrintWords.Kd renaming R_alloc → qk, R_drewN → ql, R_drew → qm
attribute [local go_sem] max2_int min2_int max_two min_two max_three min_three max_four min_four   -- for this text's walks alone
set_option linter.unusedVariables false
set_option linter.unusedSimpArgs false

/-! ### spec_PutSave: function 32 -/
mutual
def spec_PutSave.l0 : Nat → List Int → Int → List (S84) → Int → Int → Int → Option (List Int × Bool)
 | 0, _, _, _, _, _, _ => none
 | k + 1, x5, x6, x192000, x192001, x192002, x192003 => if x6 < (x192000.length : Int) then (if 0 ≤ x6 then ((some (([(rd_T84 x192000 x6).f0, (rd_T84 x192000 x6).f1, (rd_T84 x192000 x6).f2, wrap64 (((rd_T84 x192000 x6).f3) + 1000000000), wrap64 (((rd_T84 x192000 x6).f4) + 1000000), wrap64 (((rd_T84 x192000 x6).f5) + 1000000)] : List Int) : List Int)).bind fun y197 => (if x5.length + y197.length < 17592186044416 then (spec_PutSave.l0 k (x5 ++ y197) (wrap64 (x6 + 1)) x192000 x192001 x192002 x192003) else (none))) else (none)) else (spec_PutSave.l1 k x5 (([] : List Int)) 0)
def spec_PutSave.l1 : Nat → List Int → List Int → Int → Option (List Int × Bool)
 | 0, _, _, _ => none
 | k + 1, x5, x8, x9 => if x9 < (x5.length : Int) then (if 0 ≤ x9 then ((spec_l02Wide.f k (rd x5 x9) 4).bind fun t207 => ((spec_l01Join.f k x8 t207).bind fun t210 => (spec_PutSave.l1 k x5 t210 (wrap64 (x9 + 1))))) else (none)) else ((spec_Check.f k x8).bind fun t213 => ((spec_l02Wide.f k t213 4).bind fun t214 => ((spec_l01Join.f k x8 t214).bind fun t217 => (some (t217, true)))))
end
def spec_PutSave.f (k : Nat) (a0_0 : Int) (l0_1 : List (S84)) (a0_2 : Int) (a0_3 : Int) (a0_4 : Int) : Option (List Int × Bool) := (spec_SaveOk.f k a0_0 l0_1 a0_2 a0_3 a0_4).bind fun t190 => (if t190 = true then (spec_PutSave.l0 k (([a0_0, wrap64 (a0_2 + 1), a0_3, a0_4, (l0_1.length : Int)] : List Int)) 0 l0_1 a0_2 a0_3 a0_4) else (some (([] : List Int), false)))
theorem spec_PutSave.mono_l : ∀ k, (∀ y0 y1 y2 y3 y4 y5, LeO (spec_PutSave.l0 k y0 y1 y2 y3 y4 y5) (spec_PutSave.l0 (k + 1) y0 y1 y2 y3 y4 y5)) ∧ (∀ y0 y1 y2, LeO (spec_PutSave.l1 k y0 y1 y2) (spec_PutSave.l1 (k + 1) y0 y1 y2))
 | 0 => ⟨fun _ _ _ _ _ _ r h => by simp [spec_PutSave.l0] at h, fun _ _ _ r h => by simp [spec_PutSave.l1] at h⟩
 | k + 1 => by
  obtain ⟨ih0, ih1⟩ := spec_PutSave.mono_l k
  refine ⟨?_, ?_⟩
  ·
   intro y0 y1 y2 y3 y4 y5
   unfold spec_PutSave.l0
   repeat' first
   | (with_reducible exact ih0 _ _ _ _ _ _)
   | (with_reducible exact ih1 _ _ _)
   | (with_reducible exact spec_Check.mono _ _)
   | (with_reducible exact spec_SaveOk.mono _ _ _ _ _ _)
   | (with_reducible exact spec_l01Join.mono _ _ _)
   | (with_reducible exact spec_l02Wide.mono _ _ _)
   | (with_reducible exact LeO.refl _)
   | (with_reducible exact LeO.none _)
   | (with_reducible refine LeO.ite ?_ ?_)
   | (with_reducible refine LeO.bind ?_ (fun _ => ?_))
   | exact ih0 _ _ _ _ _ _
   | exact ih1 _ _ _
   | exact spec_Check.mono _ _
   | exact spec_SaveOk.mono _ _ _ _ _ _
   | exact spec_l01Join.mono _ _ _
   | exact spec_l02Wide.mono _ _ _
   | exact LeO.none _
   | refine LeO.ite ?_ ?_
   | refine LeO.bind ?_ (fun _ => ?_)
  ·
   intro y0 y1 y2
   unfold spec_PutSave.l1
   repeat' first
   | (with_reducible exact ih0 _ _ _ _ _ _)
   | (with_reducible exact ih1 _ _ _)
   | (with_reducible exact spec_Check.mono _ _)
   | (with_reducible exact spec_SaveOk.mono _ _ _ _ _ _)
   | (with_reducible exact spec_l01Join.mono _ _ _)
   | (with_reducible exact spec_l02Wide.mono _ _ _)
   | (with_reducible exact LeO.refl _)
   | (with_reducible exact LeO.none _)
   | (with_reducible refine LeO.ite ?_ ?_)
   | (with_reducible refine LeO.bind ?_ (fun _ => ?_))
   | exact ih0 _ _ _ _ _ _
   | exact ih1 _ _ _
   | exact spec_Check.mono _ _
   | exact spec_SaveOk.mono _ _ _ _ _ _
   | exact spec_l01Join.mono _ _ _
   | exact spec_l02Wide.mono _ _ _
   | exact LeO.none _
   | refine LeO.ite ?_ ?_
   | refine LeO.bind ?_ (fun _ => ?_)
theorem spec_PutSave.mono : ∀ a0 a1 a2 a3 a4 k, LeO (spec_PutSave.f k a0 a1 a2 a3 a4) (spec_PutSave.f (k + 1) a0 a1 a2 a3 a4) := by
 intro a0 a1 a2 a3 a4 k
 obtain ⟨ih0, ih1⟩ := spec_PutSave.mono_l k
 unfold spec_PutSave.f
 repeat' first
   | (with_reducible exact ih0 _ _ _ _ _ _)
   | (with_reducible exact ih1 _ _ _)
   | (with_reducible exact spec_Check.mono _ _)
   | (with_reducible exact spec_SaveOk.mono _ _ _ _ _ _)
   | (with_reducible exact spec_l01Join.mono _ _ _)
   | (with_reducible exact spec_l02Wide.mono _ _ _)
   | (with_reducible exact LeO.refl _)
   | (with_reducible exact LeO.none _)
   | (with_reducible refine LeO.ite ?_ ?_)
   | (with_reducible refine LeO.bind ?_ (fun _ => ?_))
   | exact ih0 _ _ _ _ _ _
   | exact ih1 _ _ _
   | exact spec_Check.mono _ _
   | exact spec_SaveOk.mono _ _ _ _ _ _
   | exact spec_l01Join.mono _ _ _
   | exact spec_l02Wide.mono _ _ _
   | exact LeO.none _
   | refine LeO.ite ?_ ?_
   | refine LeO.bind ?_ (fun _ => ?_)
set_option maxHeartbeats 8000000 in
set_option maxRecDepth 100000 in
theorem spec_PutSave.calls (k : Nat) (a0_0 : Int) (A0_1 : Option Addr) (c0_1 : Nat) (l0_1 : List (S84)) (a0_2 : Int) (a0_3 : Int) (a0_4 : Int) (r1 : List Int) (r2 : Bool) (w : World) (hr0_1 : Kd.C k84 w A0_1 l0_1.length l0_1) (hc0_1 : l0_1.length ≤ c0_1) (h : spec_PutSave.f k a0_0 l0_1 a0_2 a0_3 a0_4 = some (r1, r2)) :
  Calls Try.prog 32 #[.agg #[.int .i64 a0_0, .slice A0_1 l0_1.length c0_1, .int .i64 a0_2, .int .i64 a0_3, .int .i64 a0_4]] w fun e w' => ∃ v0_ : Value, e = .returned (.tuple #[v0_, .bool r2]) ∧ Kd.R (Kd.int .u8) 5 w' w.heap.size (fun _ => True) v0_ r1 ∧ Below w.heap.size w w' := by
 have hu37 := Try.underlying37
 have hu29 := Try.underlying29
 have hu84 := Try.underlying84
 have HR0_1 := Aside0.mk hr0_1
 have HC0_1 := Aside0.mk hc0_1
 clear hr0_1 hc0_1
 have HB := Aside0.mk (Below.refl w.heap.size w)
 have H : ((spec_SaveOk.f k a0_0 l0_1 a0_2 a0_3 a0_4).bind fun t190 => (if t190 = true then (spec_PutSave.l0 k (([a0_0, wrap64 (a0_2 + 1), a0_3, a0_4, (l0_1.length : Int)] : List Int)) 0 l0_1 a0_2 a0_3 a0_4) else (some (([] : List Int), false)))) = some (r1, r2) := h
 clear h
 replace H := Option.bind_eq_some_iff.mp H
 obtain ⟨t190, A20, H⟩ := H
 replace H : (if t190 = true then (spec_PutSave.l0 k (([a0_0, wrap64 (a0_2 + 1), a0_3, a0_4, (l0_1.length : Int)] : List Int)) 0 l0_1 a0_2 a0_3 a0_4) else (some (([] : List Int), false))) = some (r1, r2) := H
 have A2 := Aside0.mk A20
 clear A20
 by_cases c3 : t190 = true
 ·
  subst c3
  have H1 : (spec_PutSave.l0 k (([a0_0, wrap64 (a0_2 + 1), a0_3, a0_4, (l0_1.length : Int)] : List Int)) 0 l0_1 a0_2 a0_3 a0_4) = some (r1, r2) := by rw [if_pos rfl] at H; exact H
  clear H
  have H := H1
  clear H1
  obtain ⟨y192, hy192⟩ : ∃ y_ : List Int, y_ = (([a0_0, wrap64 (a0_2 + 1), a0_3, a0_4, (l0_1.length : Int)] : List Int)) := ⟨_, rfl⟩
  replace H : (spec_PutSave.l0 k y192 0 l0_1 a0_2 a0_3 a0_4) = some (r1, r2) := by first | (rw [hy192]; with_reducible exact H) | (have H2_ := (Option.bind_some _ _).symm.trans H; rw [hy192]; with_reducible exact H2_) | (have H2_ := (Option.bind_some _ _).symm.trans H; with_reducible exact H2_) | with_reducible exact H | (rw [hy192]; exact H) | exact H
  have Ny192 := Aside0.mk hy192
  clear hy192
  have H' := Aside0.mk H
  clear H
  go_enter Try.func32, Try.ntmps32
  go_wp2_with (first | ((with_reducible refine gate_dst (N := 1) rfl ?_); refine box_event ?hg (N := 1) ?hd (cs := #[.int .i64 a0_0, .slice A0_1 l0_1.length c0_1, .int .i64 a0_2, .int .i64 a0_3, .int .i64 a0_4]) (t := 37) ?hr ?_; (case hd => rfl); (case hg => rfl); (case hr => first | (go_simp; done) | (go_simp; rfl)); intro gb189 hg w4 hbox hb; have n0_ := Aside0.mk (qn (by repeat (first | (with_reducible first | exact HB.out | apply qb | apply qa | apply qc) | exact HB.out)) hb); have n1_ := Aside0.mk (hbox); have n2_ := Aside0.mk ((by rw [hg]; exact (qj (by repeat (first | (with_reducible first | exact HB.out | apply qb | apply qa | apply qc) | exact HB.out))) : w.heap.size ≤ gb189)); have n3_ := Aside0.mk ((by rw [hg]; exact (qj (by repeat (first | (with_reducible first | exact HB.out | apply qb | apply qa | apply qc) | exact HB.out))) : w.heap.size ≤ gb189)); clear HB; have HB := n0_; have BK189 := n1_; have GW189 := n2_; have GE189 := n3_; clear n0_ n1_ n2_ n3_; clear hb hbox hg; have hcz5_0 : w4.cell? ⟨gb189, 0, none⟩ = some (.int .i64 a0_0) := (qe BK189.out 0).trans rfl; have hcz5_1 : w4.cell? ⟨gb189, 1, none⟩ = some (.slice A0_1 l0_1.length c0_1) := (qe BK189.out 1).trans rfl; have hcz5_2 : w4.cell? ⟨gb189, 2, none⟩ = some (.int .i64 a0_2) := (qe BK189.out 2).trans rfl; have hcz5_3 : w4.cell? ⟨gb189, 3, none⟩ = some (.int .i64 a0_3) := (qe BK189.out 3).trans rfl; have hcz5_4 : w4.cell? ⟨gb189, 4, none⟩ = some (.int .i64 a0_4) := (qe BK189.out 4).trans rfl; have hfz5_0 := qd BK189.out 0; have hfz5_1 := qd BK189.out 1; have hfz5_2 := qd BK189.out 2; have hfz5_3 := qd BK189.out 3; have hfz5_4 := qd BK189.out 4) | ((with_reducible refine qo (f := 21) rfl ?_); refine goesL_ (some 11) rfl rfl Try.func21 (by kernel_rfl) rfl #[.agg #[.int .i64 a0_0, .slice A0_1 l0_1.length c0_1, .int .i64 a0_2, .int .i64 a0_3, .int .i64 a0_4]] rfl (by (try simp only [List.map_toArray, List.map_cons, List.map_nil]); first | done | rfl | (simp only [List.length_drop, List.length_take]; rfl)) ?_; (with_reducible refine (spec_SaveOk.calls k a0_0 _ _ l0_1 a0_2 a0_3 a0_4 true _ ?side1 ?side2 A2.out).mono ?_); (case side1 => repeat (first | exact (Kd.C_below HR0_1.out HB.out) | (with_reducible refine Kd.C_alloc ?_ _) | (with_reducible refine Kd.C_drewN ?_ _) | (with_reducible refine Kd.C_drew ?_))); (case side2 => exact HC0_1.out); rintro e w6 ⟨rfl, hb⟩; refine ⟨_, rfl, ?_⟩; have n0_ := Aside0.mk (blk_below (g := gb189) (o := .cells #[.int .i64 a0_0, .slice A0_1 l0_1.length c0_1, .int .i64 a0_2, .int .i64 a0_3, .int .i64 a0_4] 37 (0, 0)) (by (with_reducible repeat (first | refine qg ?_ _ | refine qi ?_ | refine qh ?_ _)); exact BK189.out) hb); have n1_ := Aside0.mk (qn (by repeat (first | (with_reducible first | exact HB.out | apply qb | apply qa | apply qc | refine qf ?_ GE189.out) | exact HB.out)) hb); clear BK189; clear HB; have BK189 := n0_; have HB := n1_; clear n0_ n1_; (try clear hb); (try clear hb2); (try clear hk); (try clear hi); have hcz7_0 : w6.cell? ⟨gb189, 0, none⟩ = some (.int .i64 a0_0) := (qe BK189.out 0).trans rfl; have hcz7_1 : w6.cell? ⟨gb189, 1, none⟩ = some (.slice A0_1 l0_1.length c0_1) := (qe BK189.out 1).trans rfl; have hcz7_2 : w6.cell? ⟨gb189, 2, none⟩ = some (.int .i64 a0_2) := (qe BK189.out 2).trans rfl; have hcz7_3 : w6.cell? ⟨gb189, 3, none⟩ = some (.int .i64 a0_3) := (qe BK189.out 3).trans rfl; have hcz7_4 : w6.cell? ⟨gb189, 4, none⟩ = some (.int .i64 a0_4) := (qe BK189.out 4).trans rfl; have hfz7_0 := qd BK189.out 0; have hfz7_1 := qd BK189.out 1; have hfz7_2 := qd BK189.out 2; have hfz7_3 := qd BK189.out 3; have hfz7_4 := qd BK189.out 4) | ((with_reducible refine gate_dst (N := 4) rfl ?_); refine box_event ?hg (N := 4) ?hd (cs := #[.slice none 0 0, .int .i64 0, .int .i64 0, .int .i64 0]) (t := 29) ?hr ?_; (case hd => rfl); (case hg => rfl); (case hr => first | (go_simp; done) | (go_simp; rfl)); intro gb191 hg w8 hbox hb; have n0_ := Aside0.mk (blk_below (g := gb189) (o := .cells #[.int .i64 a0_0, .slice A0_1 l0_1.length c0_1, .int .i64 a0_2, .int .i64 a0_3, .int .i64 a0_4] 37 (0, 0)) (by (with_reducible repeat (first | refine qg ?_ _ | refine qi ?_ | refine qh ?_ _)); exact BK189.out) hb); have n1_ := Aside0.mk (qn (by repeat (first | (with_reducible first | exact HB.out | apply qb | apply qa | apply qc | refine qf ?_ GE189.out) | exact HB.out)) hb); have n2_ := Aside0.mk (hbox); have n3_ := Aside0.mk ((by rw [hg]; exact (qj (by repeat (first | (with_reducible first | exact HB.out | apply qb | apply qa | apply qc | refine qf ?_ GE189.out) | exact HB.out))) : w.heap.size ≤ gb191)); have n4_ := Aside0.mk ((by rw [hg]; exact (qj (by repeat (first | (with_reducible first | exact HB.out | apply qb | apply qa | apply qc | refine qf ?_ GE189.out) | exact HB.out))) : w.heap.size ≤ gb191)); have n5_ := Aside0.mk ((by rw [hg]; exact Nat.ne_of_lt (blk_lt (g := gb189) (o := .cells #[.int .i64 a0_0, .slice A0_1 l0_1.length c0_1, .int .i64 a0_2, .int .i64 a0_3, .int .i64 a0_4] 37 (0, 0)) (by (with_reducible repeat (first | refine qg ?_ _ | refine qi ?_ | refine qh ?_ _)); exact BK189.out)) : gb189 ≠ gb191)); have n6_ := Aside0.mk ((by rw [hg]; exact Nat.ne_of_gt (blk_lt (g := gb189) (o := .cells #[.int .i64 a0_0, .slice A0_1 l0_1.length c0_1, .int .i64 a0_2, .int .i64 a0_3, .int .i64 a0_4] 37 (0, 0)) (by (with_reducible repeat (first | refine qg ?_ _ | refine qi ?_ | refine qh ?_ _)); exact BK189.out)) : gb191 ≠ gb189)); clear BK189; clear HB; have BK189 := n0_; have HB := n1_; have BK191 := n2_; have GW191 := n3_; have GE191 := n4_; have NB189_191 := n5_; have NB191_189 := n6_; clear n0_ n1_ n2_ n3_ n4_ n5_ n6_; clear hb hbox hg; have hnb9 := NB191_189.out; have hnc9 := NB189_191.out; have hcz10_0 : w8.cell? ⟨gb191, 0, none⟩ = some (.slice none 0 0) := (qe BK191.out 0).trans rfl; have hcz10_1 : w8.cell? ⟨gb191, 1, none⟩ = some (.int .i64 0) := (qe BK191.out 1).trans rfl; have hcz10_2 : w8.cell? ⟨gb191, 2, none⟩ = some (.int .i64 0) := (qe BK191.out 2).trans rfl; have hcz10_3 : w8.cell? ⟨gb191, 3, none⟩ = some (.int .i64 0) := (qe BK191.out 3).trans rfl; have hfz10_0 := qd BK191.out 0; have hfz10_1 := qd BK191.out 1; have hfz10_2 := qd BK191.out 2; have hfz10_3 := qd BK191.out 3; have hcz11_0 : w8.cell? ⟨gb189, 0, none⟩ = some (.int .i64 a0_0) := (qe BK189.out 0).trans rfl; have hcz11_1 : w8.cell? ⟨gb189, 1, none⟩ = some (.slice A0_1 l0_1.length c0_1) := (qe BK189.out 1).trans rfl; have hcz11_2 : w8.cell? ⟨gb189, 2, none⟩ = some (.int .i64 a0_2) := (qe BK189.out 2).trans rfl; have hcz11_3 : w8.cell? ⟨gb189, 3, none⟩ = some (.int .i64 a0_3) := (qe BK189.out 3).trans rfl; have hcz11_4 : w8.cell? ⟨gb189, 4, none⟩ = some (.int .i64 a0_4) := (qe BK189.out 4).trans rfl; have hfz11_0 := qd BK189.out 0; have hfz11_1 := qd BK189.out 1; have hfz11_2 := qd BK189.out 2; have hfz11_3 := qd BK189.out 3; have hfz11_4 := qd BK189.out 4) | ((with_reducible refine gate_dst (N := 27) rfl ?_); refine Kd.R_lit (Kd.int .i64) _ 3 ?hg (N := 27) ?hd (xs := ([a0_0, wrap64 (a0_2 + 1), a0_3, a0_4, (l0_1.length : Int)] : List Int)) (inner := [.int .i64 a0_0, .int .i64 (wrap64 (a0_2 + 1)), .int .i64 a0_3, .int .i64 a0_4, .int .i64 (l0_1.length : Int)]) (ok := fun _ => True) (okp := fun _ => True) ?hr ?hp (fun _ hk => hk) trivial (Below.refl _ _) (Nat.le_refl _) (by simp) ?_; (case hd => rfl); (case hg => rfl); (case hr => first | (go_simp; done) | (go_simp; rfl)); (case hp => exact (Reps.one (show Kd.M (Kd.int .i64) _ _ _ a0_0 [.int .i64 a0_0] from rfl) (Reps.one (show Kd.M (Kd.int .i64) _ _ _ (wrap64 (a0_2 + 1)) [.int .i64 (wrap64 (a0_2 + 1))] from rfl) (Reps.one (show Kd.M (Kd.int .i64) _ _ _ a0_3 [.int .i64 a0_3] from rfl) (Reps.one (show Kd.M (Kd.int .i64) _ _ _ a0_4 [.int .i64 a0_4] from rfl) (Reps.one (show Kd.M (Kd.int .i64) _ _ _ (l0_1.length : Int) [.int .i64 (l0_1.length : Int)] from rfl) (Reps.none _ _))))))); intro v193 w12 ho13 hb hg_ hnew_; clear hg_ hnew_; (first | rw [← Ny192.out] at ho13 | (simp only [Int.reduceToNat] at ho13; rw [← Ny192.out] at ho13)); have n0_ := Aside0.mk (Kd.R_lower ho13 (qj (by repeat (first | (with_reducible first | exact HB.out | apply qb | apply qa | apply qc | refine qf ?_ GE189.out | refine qf ?_ GE191.out) | exact HB.out)))); have n1_ := Aside0.mk (blk_below (g := gb189) (o := .cells #[.int .i64 a0_0, .slice A0_1 l0_1.length c0_1, .int .i64 a0_2, .int .i64 a0_3, .int .i64 a0_4] 37 (0, 0)) (by (with_reducible repeat (first | refine qg ?_ _ | refine qi ?_ | refine qh ?_ _)); refine blk_far ?_ NB189_191.out _; (with_reducible repeat (first | refine qg ?_ _ | refine qi ?_ | refine qh ?_ _)); refine blk_far ?_ NB189_191.out _; (with_reducible repeat (first | refine qg ?_ _ | refine qi ?_ | refine qh ?_ _)); refine blk_far ?_ NB189_191.out _; (with_reducible repeat (first | refine qg ?_ _ | refine qi ?_ | refine qh ?_ _)); refine blk_far ?_ NB189_191.out _; (with_reducible repeat (first | refine qg ?_ _ | refine qi ?_ | refine qh ?_ _)); exact BK189.out) hb); have n2_ := Aside0.mk (blk_below (g := gb191) (o := .cells #[.slice A0_1 l0_1.length c0_1, .int .i64 a0_2, .int .i64 a0_3, .int .i64 a0_4] 29 (0, 0)) (by (with_reducible repeat (first | refine qg ?_ _ | refine qi ?_ | refine qh ?_ _)); refine blk_put (cs := #[.slice A0_1 l0_1.length c0_1, .int .i64 a0_2, .int .i64 a0_3, .int .i64 0]) ?_ 3 _ rfl; (with_reducible repeat (first | refine qg ?_ _ | refine qi ?_ | refine qh ?_ _)); refine blk_put (cs := #[.slice A0_1 l0_1.length c0_1, .int .i64 a0_2, .int .i64 0, .int .i64 0]) ?_ 2 _ rfl; (with_reducible repeat (first | refine qg ?_ _ | refine qi ?_ | refine qh ?_ _)); refine blk_put (cs := #[.slice A0_1 l0_1.length c0_1, .int .i64 0, .int .i64 0, .int .i64 0]) ?_ 1 _ rfl; (with_reducible repeat (first | refine qg ?_ _ | refine qi ?_ | refine qh ?_ _)); refine blk_put (cs := #[.slice none 0 0, .int .i64 0, .int .i64 0, .int .i64 0]) ?_ 0 _ rfl; (with_reducible repeat (first | refine qg ?_ _ | refine qi ?_ | refine qh ?_ _)); exact BK191.out) hb); have n3_ := Aside0.mk (qn (by repeat (first | (with_reducible first | exact HB.out | apply qb | apply qa | apply qc | refine qf ?_ GE189.out | refine qf ?_ GE191.out) | exact HB.out)) hb); clear BK189; clear BK191; clear HB; have HO194 := n0_; have BK189 := n1_; have BK191 := n2_; have HB := n3_; clear n0_ n1_ n2_ n3_; clear hb ho13))
  go_loopg [5, 6] k (fun kq v5 v6 w' => ∃ (x5_1 : List Int) (x6_1 : Int), v6 = .int .i64 x6_1 ∧ Aside0 (spec_PutSave.l0 kq x5_1 x6_1 l0_1 a0_2 a0_3 a0_4 = some (r1, r2)) ∧ Aside0 (kq ≤ k) ∧ Aside0 (Kd.R (Kd.int .i64) 3 w' w.heap.size (fun _ => True) v5 x5_1) ∧ Aside0 (w'.heap[gb189]? = some (.cells #[.int .i64 a0_0, (.slice A0_1 l0_1.length c0_1), .int .i64 a0_2, .int .i64 a0_3, .int .i64 a0_4] 37 (0, 0))) ∧ Aside0 (w'.heap[gb191]? = some (.cells #[(.slice A0_1 l0_1.length c0_1), .int .i64 a0_2, .int .i64 a0_3, .int .i64 a0_4] 29 (0, 0))) ∧ Aside0 (Below w.heap.size w w'))
  case atStart => exact ⟨(y192), (0), (by first | rfl | (simp; done) | (simp [*]; done)), H', ⟨Nat.le_refl _⟩, ⟨by (with_reducible repeat (first | apply qk | apply ql | apply qm)); exact HO194.out⟩, ⟨by (with_reducible repeat (first | refine qg ?_ _ | refine qi ?_ | refine qh ?_ _)); exact BK189.out⟩, ⟨by (with_reducible repeat (first | refine qg ?_ _ | refine qi ?_ | refine qh ?_ _)); exact BK191.out⟩, ⟨by repeat (first | (with_reducible first | exact HB.out | apply qb | apply qa | apply qc | refine qf ?_ GE189.out | refine qf ?_ GE191.out) | exact HB.out)⟩⟩
  case round =>
   clear H'
   try clear c2
   try clear p2
   try clear c3
   try clear p6
   try clear c9
   try clear hcz10_0
   try clear hcz10_1
   try clear hcz10_2
   try clear hcz10_3
   try clear hcz11_0
   try clear hcz11_1
   try clear hcz11_2
   try clear hcz11_3
   try clear hcz11_4
   try clear hcz5_0
   try clear hcz5_1
   try clear hcz5_2
   try clear hcz5_3
   try clear hcz5_4
   try clear hcz7_0
   try clear hcz7_1
   try clear hcz7_2
   try clear hcz7_3
   try clear hcz7_4
   try clear hfz10_0
   try clear hfz10_1
   try clear hfz10_2
   try clear hfz10_3
   try clear hfz11_0
   try clear hfz11_1
   try clear hfz11_2
   try clear hfz11_3
   try clear hfz11_4
   try clear hfz5_0
   try clear hfz5_1
   try clear hfz5_2
   try clear hfz5_3
   try clear hfz5_4
   try clear hfz7_0
   try clear hfz7_1
   try clear hfz7_2
   try clear hfz7_3
   try clear hfz7_4
   obtain ⟨x5_1, x6_1, rfl, HA, HK1, HO_5, BK189, BK191, HB⟩ := hrel
   cases gk with
   | zero => exact absurd HA.out (by simp [spec_PutSave.l0])
   | succ k1 =>
    have H := HA.out
    clear HA
    simp only [spec_PutSave.l0] at H
    by_cases c14 : x6_1 < (l0_1.length : Int)
    ·
     rw [if_pos c14] at H
     have c14b0 : decide (x6_1 < (l0_1.length : Int)) = true := decide_eq_true c14
     clear c14
     by_cases c15 : 0 ≤ x6_1
     ·
      rw [if_pos c15] at H
      have c15b0 : decide (0 ≤ x6_1) = true := decide_eq_true c15
      clear c15
      obtain ⟨y197, hy197⟩ : ∃ y_ : List Int, y_ = (([(rd_T84 l0_1 x6_1).f0, (rd_T84 l0_1 x6_1).f1, (rd_T84 l0_1 x6_1).f2, wrap64 (((rd_T84 l0_1 x6_1).f3) + 1000000000), wrap64 (((rd_T84 l0_1 x6_1).f4) + 1000000), wrap64 (((rd_T84 l0_1 x6_1).f5) + 1000000)] : List Int)) := ⟨_, rfl⟩
      replace H : (if x5_1.length + y197.length < 17592186044416 then (spec_PutSave.l0 k1 (x5_1 ++ y197) (wrap64 (x6_1 + 1)) l0_1 a0_2 a0_3 a0_4) else (none)) = some (r1, r2) := by first | (rw [hy197]; with_reducible exact H) | (have H2_ := (Option.bind_some _ _).symm.trans H; rw [hy197]; with_reducible exact H2_) | (have H2_ := (Option.bind_some _ _).symm.trans H; with_reducible exact H2_) | with_reducible exact H | (rw [hy197]; exact H) | exact H
      have Ny197 := Aside0.mk hy197
      clear hy197
      by_cases c16 : x5_1.length + y197.length < 17592186044416
      ·
       rw [if_pos c16] at H
       have LMc16 := Aside0.mk c16
       clear c16
       obtain ⟨y200, hy200⟩ : ∃ y_ : List Int, y_ = (x5_1 ++ y197) := ⟨_, rfl⟩
       replace H : (spec_PutSave.l0 k1 y200 (wrap64 (x6_1 + 1)) l0_1 a0_2 a0_3 a0_4) = some (r1, r2) := by first | (rw [hy200]; with_reducible exact H) | (have H2_ := (Option.bind_some _ _).symm.trans H; rw [hy200]; with_reducible exact H2_) | (have H2_ := (Option.bind_some _ _).symm.trans H; with_reducible exact H2_) | with_reducible exact H | (rw [hy200]; exact H) | exact H
       have Ny200 := Aside0.mk hy200
       clear hy200
       have H' := Aside0.mk H
       clear H
       have hnb17 := NB191_189.out
       have hnc17 := NB189_191.out
       have hcz18_0 : wr.cell? ⟨gb191, 0, none⟩ = some (.slice A0_1 l0_1.length c0_1) := (qe BK191.out 0).trans rfl
       have hcz18_1 : wr.cell? ⟨gb191, 1, none⟩ = some (.int .i64 a0_2) := (qe BK191.out 1).trans rfl
       have hcz18_2 : wr.cell? ⟨gb191, 2, none⟩ = some (.int .i64 a0_3) := (qe BK191.out 2).trans rfl
       have hcz18_3 : wr.cell? ⟨gb191, 3, none⟩ = some (.int .i64 a0_4) := (qe BK191.out 3).trans rfl
       have hfz18_0 := qd BK191.out 0
       have hfz18_1 := qd BK191.out 1
       have hfz18_2 := qd BK191.out 2
       have hfz18_3 := qd BK191.out 3
       have p195 : 0 ≤ (x6_1 : Int) := of_decide_eq_true (by first | (with_reducible assumption) | assumption)
       have q195 : x6_1 < (l0_1.length : Int) := of_decide_eq_true (by first | (with_reducible assumption) | assumption)
       obtain ⟨ad195, e195, hx195_0, hx195_1, hx195_2, hx195_3, hx195_4, hx195_5⟩ := at_T84 HR0_1.out x6_1 p195 q195
       cases e195
       replace hx195_0 := (HB.out.cell (World.block_lt_of_cell? w _ hx195_0)).trans hx195_0
       replace hx195_1 := (HB.out.cell (World.block_lt_of_cell? w _ hx195_1)).trans hx195_1
       replace hx195_2 := (HB.out.cell (World.block_lt_of_cell? w _ hx195_2)).trans hx195_2
       replace hx195_3 := (HB.out.cell (World.block_lt_of_cell? w _ hx195_3)).trans hx195_3
       replace hx195_4 := (HB.out.cell (World.block_lt_of_cell? w _ hx195_4)).trans hx195_4
       replace hx195_5 := (HB.out.cell (World.block_lt_of_cell? w _ hx195_5)).trans hx195_5
       replace p195 := eq_true p195
       replace q195 := eq_true q195
       go_wp2_with (first | ((with_reducible refine gate_dst (N := 7) rfl ?_); refine box_event ?hg (N := 7) ?hd (cs := #[.int .i64 0, .int .i64 0, .int .i64 0, .int .i64 0, .int .i64 0, .int .i64 0]) (t := 84) ?hr ?_; (case hd => rfl); (case hg => rfl); (case hr => first | (go_simp; done) | (go_simp; rfl)); intro gb196 hg w19 hbox hb; have n0_ := Aside0.mk (Kd.R_below (by (with_reducible repeat (first | apply qk | apply ql | apply qm)); exact HO_5.out) hb); have n1_ := Aside0.mk (blk_below (g := gb189) (o := .cells #[.int .i64 a0_0, .slice (some ad195) l0_1.length c0_1, .int .i64 a0_2, .int .i64 a0_3, .int .i64 a0_4] 37 (0, 0)) (by (with_reducible repeat (first | refine qg ?_ _ | refine qi ?_ | refine qh ?_ _)); exact BK189.out) hb); have n2_ := Aside0.mk (blk_below (g := gb191) (o := .cells #[.slice (some ad195) l0_1.length c0_1, .int .i64 a0_2, .int .i64 a0_3, .int .i64 a0_4] 29 (0, 0)) (by (with_reducible repeat (first | refine qg ?_ _ | refine qi ?_ | refine qh ?_ _)); exact BK191.out) hb); have n3_ := Aside0.mk (qn (by repeat (first | (with_reducible first | exact HB.out | apply qb | apply qa | apply qc | refine qf ?_ GE189.out | refine qf ?_ GE191.out) | exact HB.out)) hb); have n4_ := Aside0.mk (hbox); have n5_ := Aside0.mk ((by rw [hg]; exact (qj (by repeat (first | (with_reducible first | exact HB.out | apply qb | apply qa | apply qc | refine qf ?_ GE189.out | refine qf ?_ GE191.out) | exact HB.out))) : w.heap.size ≤ gb196)); have n6_ := Aside0.mk ((by rw [hg]; exact (qj (by repeat (first | (with_reducible first | exact HB.out | apply qb | apply qa | apply qc | refine qf ?_ GE189.out | refine qf ?_ GE191.out) | exact HB.out))) : w.heap.size ≤ gb196)); have n7_ := Aside0.mk ((by rw [hg]; exact Nat.ne_of_lt (blk_lt (g := gb189) (o := .cells #[.int .i64 a0_0, .slice (some ad195) l0_1.length c0_1, .int .i64 a0_2, .int .i64 a0_3, .int .i64 a0_4] 37 (0, 0)) (by (with_reducible repeat (first | refine qg ?_ _ | refine qi ?_ | refine qh ?_ _)); exact BK189.out)) : gb189 ≠ gb196)); have n8_ := Aside0.mk ((by rw [hg]; exact Nat.ne_of_gt (blk_lt (g := gb189) (o := .cells #[.int .i64 a0_0, .slice (some ad195) l0_1.length c0_1, .int .i64 a0_2, .int .i64 a0_3, .int .i64 a0_4] 37 (0, 0)) (by (with_reducible repeat (first | refine qg ?_ _ | refine qi ?_ | refine qh ?_ _)); exact BK189.out)) : gb196 ≠ gb189)); have n9_ := Aside0.mk ((by rw [hg]; exact Nat.ne_of_lt (blk_lt (g := gb191) (o := .cells #[.slice (some ad195) l0_1.length c0_1, .int .i64 a0_2, .int .i64 a0_3, .int .i64 a0_4] 29 (0, 0)) (by (with_reducible repeat (first | refine qg ?_ _ | refine qi ?_ | refine qh ?_ _)); exact BK191.out)) : gb191 ≠ gb196)); have n10_ := Aside0.mk ((by rw [hg]; exact Nat.ne_of_gt (blk_lt (g := gb191) (o := .cells #[.slice (some ad195) l0_1.length c0_1, .int .i64 a0_2, .int .i64 a0_3, .int .i64 a0_4] 29 (0, 0)) (by (with_reducible repeat (first | refine qg ?_ _ | refine qi ?_ | refine qh ?_ _)); exact BK191.out)) : gb196 ≠ gb191)); clear HO_5; clear BK189; clear BK191; clear HB; have HO_5 := n0_; have BK189 := n1_; have BK191 := n2_; have HB := n3_; have BK196 := n4_; have GW196 := n5_; have GE196 := n6_; have NB189_196 := n7_; have NB196_189 := n8_; have NB191_196 := n9_; have NB196_191 := n10_; clear n0_ n1_ n2_ n3_ n4_ n5_ n6_ n7_ n8_ n9_ n10_; clear hb hbox hg; have hnb20 := NB196_189.out; have hnc20 := NB189_196.out; have hnb21 := NB196_191.out; have hnc21 := NB191_196.out; have hcz22_0 : w19.cell? ⟨gb196, 0, none⟩ = some (.int .i64 0) := (qe BK196.out 0).trans rfl; have hcz22_1 : w19.cell? ⟨gb196, 1, none⟩ = some (.int .i64 0) := (qe BK196.out 1).trans rfl; have hcz22_2 : w19.cell? ⟨gb196, 2, none⟩ = some (.int .i64 0) := (qe BK196.out 2).trans rfl; have hcz22_3 : w19.cell? ⟨gb196, 3, none⟩ = some (.int .i64 0) := (qe BK196.out 3).trans rfl; have hcz22_4 : w19.cell? ⟨gb196, 4, none⟩ = some (.int .i64 0) := (qe BK196.out 4).trans rfl; have hcz22_5 : w19.cell? ⟨gb196, 5, none⟩ = some (.int .i64 0) := (qe BK196.out 5).trans rfl; have hfz22_0 := qd BK196.out 0; have hfz22_1 := qd BK196.out 1; have hfz22_2 := qd BK196.out 2; have hfz22_3 := qd BK196.out 3; have hfz22_4 := qd BK196.out 4; have hfz22_5 := qd BK196.out 5) | ((with_reducible refine gate_dst (N := 56) rfl ?_); refine Kd.R_lit (Kd.int .i64) _ 3 ?hg (N := 56) ?hd (xs := ([(rd_T84 l0_1 x6_1).f0, (rd_T84 l0_1 x6_1).f1, (rd_T84 l0_1 x6_1).f2, wrap64 (((rd_T84 l0_1 x6_1).f3) + 1000000000), wrap64 (((rd_T84 l0_1 x6_1).f4) + 1000000), wrap64 (((rd_T84 l0_1 x6_1).f5) + 1000000)] : List Int)) (inner := [.int .i64 ((rd_T84 l0_1 x6_1).f0), .int .i64 ((rd_T84 l0_1 x6_1).f1), .int .i64 ((rd_T84 l0_1 x6_1).f2), .int .i64 (wrap64 (((rd_T84 l0_1 x6_1).f3) + 1000000000)), .int .i64 (wrap64 (((rd_T84 l0_1 x6_1).f4) + 1000000)), .int .i64 (wrap64 (((rd_T84 l0_1 x6_1).f5) + 1000000))]) (ok := fun _ => True) (okp := fun _ => True) ?hr ?hp (fun _ hk => hk) trivial (Below.refl _ _) (Nat.le_refl _) (by simp) ?_; (case hd => rfl); (case hg => rfl); (case hr => first | (go_simp; done) | (go_simp; rfl)); (case hp => exact (Reps.one (show Kd.M (Kd.int .i64) _ _ _ ((rd_T84 l0_1 x6_1).f0) [.int .i64 ((rd_T84 l0_1 x6_1).f0)] from rfl) (Reps.one (show Kd.M (Kd.int .i64) _ _ _ ((rd_T84 l0_1 x6_1).f1) [.int .i64 ((rd_T84 l0_1 x6_1).f1)] from rfl) (Reps.one (show Kd.M (Kd.int .i64) _ _ _ ((rd_T84 l0_1 x6_1).f2) [.int .i64 ((rd_T84 l0_1 x6_1).f2)] from rfl) (Reps.one (show Kd.M (Kd.int .i64) _ _ _ (wrap64 (((rd_T84 l0_1 x6_1).f3) + 1000000000)) [.int .i64 (wrap64 (((rd_T84 l0_1 x6_1).f3) + 1000000000))] from rfl) (Reps.one (show Kd.M (Kd.int .i64) _ _ _ (wrap64 (((rd_T84 l0_1 x6_1).f4) + 1000000)) [.int .i64 (wrap64 (((rd_T84 l0_1 x6_1).f4) + 1000000))] from rfl) (Reps.one (show Kd.M (Kd.int .i64) _ _ _ (wrap64 (((rd_T84 l0_1 x6_1).f5) + 1000000)) [.int .i64 (wrap64 (((rd_T84 l0_1 x6_1).f5) + 1000000))] from rfl) (Reps.none _ _)))))))); intro v198 w23 ho24 hb hg_ hnew_; clear hg_ hnew_; (first | rw [← Ny197.out] at ho24 | (simp only [Int.reduceToNat] at ho24; rw [← Ny197.out] at ho24)); have n0_ := Aside0.mk (Kd.R_elder' (by (with_reducible repeat (first | apply qk | apply ql | apply qm)); exact (Kd.R_mono (Kd.R_far (p := ⟨gb196, 5, none⟩) (Kd.R_far (p := ⟨gb196, 4, none⟩) (Kd.R_far (p := ⟨gb196, 3, none⟩) (Kd.R_far (p := ⟨gb196, 2, none⟩) (Kd.R_far (p := ⟨gb196, 1, none⟩) (Kd.R_far (p := ⟨gb196, 0, none⟩) (Kd.R_types HO_5.out BK196.out (by decide)) (fun _ hk => hk.2) (.int .i64 ((rd_T84 l0_1 x6_1).f0))) (fun _ hk => hk.2) (.int .i64 ((rd_T84 l0_1 x6_1).f1))) (fun _ hk => hk.2) (.int .i64 ((rd_T84 l0_1 x6_1).f2))) (fun _ hk => hk.2) (.int .i64 ((rd_T84 l0_1 x6_1).f3))) (fun _ hk => hk.2) (.int .i64 ((rd_T84 l0_1 x6_1).f4))) (fun _ hk => hk.2) (.int .i64 ((rd_T84 l0_1 x6_1).f5))) (fun _ h_ => h_.1))) (Kd.R_base ho24) hb); have n1_ := Aside0.mk (Kd.R_lower (Kd.R_new' ho24 (Kd.R_lt (by (with_reducible repeat (first | apply qk | apply ql | apply qm)); exact (Kd.R_mono (Kd.R_far (p := ⟨gb196, 5, none⟩) (Kd.R_far (p := ⟨gb196, 4, none⟩) (Kd.R_far (p := ⟨gb196, 3, none⟩) (Kd.R_far (p := ⟨gb196, 2, none⟩) (Kd.R_far (p := ⟨gb196, 1, none⟩) (Kd.R_far (p := ⟨gb196, 0, none⟩) (Kd.R_types HO_5.out BK196.out (by decide)) (fun _ hk => hk.2) (.int .i64 ((rd_T84 l0_1 x6_1).f0))) (fun _ hk => hk.2) (.int .i64 ((rd_T84 l0_1 x6_1).f1))) (fun _ hk => hk.2) (.int .i64 ((rd_T84 l0_1 x6_1).f2))) (fun _ hk => hk.2) (.int .i64 ((rd_T84 l0_1 x6_1).f3))) (fun _ hk => hk.2) (.int .i64 ((rd_T84 l0_1 x6_1).f4))) (fun _ hk => hk.2) (.int .i64 ((rd_T84 l0_1 x6_1).f5))) (fun _ h_ => h_.1))))) (qj (by repeat (first | (with_reducible first | exact HB.out | apply qb | apply qa | apply qc | refine qf ?_ GE189.out | refine qf ?_ GE191.out | refine qf ?_ GE196.out) | exact HB.out)))); have n2_ := Aside0.mk (blk_below (g := gb189) (o := .cells #[.int .i64 a0_0, .slice (some ad195) l0_1.length c0_1, .int .i64 a0_2, .int .i64 a0_3, .int .i64 a0_4] 37 (0, 0)) (by (with_reducible repeat (first | refine qg ?_ _ | refine qi ?_ | refine qh ?_ _)); refine blk_far ?_ NB189_196.out _; (with_reducible repeat (first | refine qg ?_ _ | refine qi ?_ | refine qh ?_ _)); refine blk_far ?_ NB189_196.out _; (with_reducible repeat (first | refine qg ?_ _ | refine qi ?_ | refine qh ?_ _)); refine blk_far ?_ NB189_196.out _; (with_reducible repeat (first | refine qg ?_ _ | refine qi ?_ | refine qh ?_ _)); refine blk_far ?_ NB189_196.out _; (with_reducible repeat (first | refine qg ?_ _ | refine qi ?_ | refine qh ?_ _)); refine blk_far ?_ NB189_196.out _; (with_reducible repeat (first | refine qg ?_ _ | refine qi ?_ | refine qh ?_ _)); refine blk_far ?_ NB189_196.out _; (with_reducible repeat (first | refine qg ?_ _ | refine qi ?_ | refine qh ?_ _)); exact BK189.out) hb); have n3_ := Aside0.mk (blk_below (g := gb191) (o := .cells #[.slice (some ad195) l0_1.length c0_1, .int .i64 a0_2, .int .i64 a0_3, .int .i64 a0_4] 29 (0, 0)) (by (with_reducible repeat (first | refine qg ?_ _ | refine qi ?_ | refine qh ?_ _)); refine blk_far ?_ NB191_196.out _; (with_reducible repeat (first | refine qg ?_ _ | refine qi ?_ | refine qh ?_ _)); refine blk_far ?_ NB191_196.out _; (with_reducible repeat (first | refine qg ?_ _ | refine qi ?_ | refine qh ?_ _)); refine blk_far ?_ NB191_196.out _; (with_reducible repeat (first | refine qg ?_ _ | refine qi ?_ | refine qh ?_ _)); refine blk_far ?_ NB191_196.out _; (with_reducible repeat (first | refine qg ?_ _ | refine qi ?_ | refine qh ?_ _)); refine blk_far ?_ NB191_196.out _; (with_reducible repeat (first | refine qg ?_ _ | refine qi ?_ | refine qh ?_ _)); refine blk_far ?_ NB191_196.out _; (with_reducible repeat (first | refine qg ?_ _ | refine qi ?_ | refine qh ?_ _)); exact BK191.out) hb); have n4_ := Aside0.mk (blk_below (g := gb196) (o := .cells #[.int .i64 ((rd_T84 l0_1 x6_1).f0), .int .i64 ((rd_T84 l0_1 x6_1).f1), .int .i64 ((rd_T84 l0_1 x6_1).f2), .int .i64 ((rd_T84 l0_1 x6_1).f3), .int .i64 ((rd_T84 l0_1 x6_1).f4), .int .i64 ((rd_T84 l0_1 x6_1).f5)] 84 (0, 0)) (by (with_reducible repeat (first | refine qg ?_ _ | refine qi ?_ | refine qh ?_ _)); refine blk_put (cs := #[.int .i64 ((rd_T84 l0_1 x6_1).f0), .int .i64 ((rd_T84 l0_1 x6_1).f1), .int .i64 ((rd_T84 l0_1 x6_1).f2), .int .i64 ((rd_T84 l0_1 x6_1).f3), .int .i64 ((rd_T84 l0_1 x6_1).f4), .int .i64 0]) ?_ 5 _ rfl; (with_reducible repeat (first | refine qg ?_ _ | refine qi ?_ | refine qh ?_ _)); refine blk_put (cs := #[.int .i64 ((rd_T84 l0_1 x6_1).f0), .int .i64 ((rd_T84 l0_1 x6_1).f1), .int .i64 ((rd_T84 l0_1 x6_1).f2), .int .i64 ((rd_T84 l0_1 x6_1).f3), .int .i64 0, .int .i64 0]) ?_ 4 _ rfl; (with_reducible repeat (first | refine qg ?_ _ | refine qi ?_ | refine qh ?_ _)); refine blk_put (cs := #[.int .i64 ((rd_T84 l0_1 x6_1).f0), .int .i64 ((rd_T84 l0_1 x6_1).f1), .int .i64 ((rd_T84 l0_1 x6_1).f2), .int .i64 0, .int .i64 0, .int .i64 0]) ?_ 3 _ rfl; (with_reducible repeat (first | refine qg ?_ _ | refine qi ?_ | refine qh ?_ _)); refine blk_put (cs := #[.int .i64 ((rd_T84 l0_1 x6_1).f0), .int .i64 ((rd_T84 l0_1 x6_1).f1), .int .i64 0, .int .i64 0, .int .i64 0, .int .i64 0]) ?_ 2 _ rfl; (with_reducible repeat (first | refine qg ?_ _ | refine qi ?_ | refine qh ?_ _)); refine blk_put (cs := #[.int .i64 ((rd_T84 l0_1 x6_1).f0), .int .i64 0, .int .i64 0, .int .i64 0, .int .i64 0, .int .i64 0]) ?_ 1 _ rfl; (with_reducible repeat (first | refine qg ?_ _ | refine qi ?_ | refine qh ?_ _)); refine blk_put (cs := #[.int .i64 0, .int .i64 0, .int .i64 0, .int .i64 0, .int .i64 0, .int .i64 0]) ?_ 0 _ rfl; (with_reducible repeat (first | refine qg ?_ _ | refine qi ?_ | refine qh ?_ _)); exact BK196.out) hb); have n5_ := Aside0.mk (qn (by repeat (first | (with_reducible first | exact HB.out | apply qb | apply qa | apply qc | refine qf ?_ GE189.out | refine qf ?_ GE191.out | refine qf ?_ GE196.out) | exact HB.out)) hb); clear HO_5; clear BK189; clear BK191; clear BK196; clear HB; have HO_5 := n0_; have HO199 := n1_; have BK189 := n2_; have BK191 := n3_; have BK196 := n4_; have HB := n5_; clear n0_ n1_ n2_ n3_ n4_ n5_; clear hb ho24; obtain ⟨Ao26, co26, eo26⟩ := Kd.R_slice HO199.out; subst eo26) | ((with_reducible refine gate_builtin (b := .append) (xs := #[.tmp 40, .tmp 56]) rfl ?_); at_builtin; refine Kd.R_append_rows (Kd.int .i64) (w0 := w) w.heap.size rfl (.tmp 40) (.tmp 56) 92 3 (.int .i64 0) 8 rfl Try.underlying92 info3 rfl (by decide) (by omega) u5 x5_1 y197 _ _ _ (fun k_ => some k_ ≠ (.slice Ao26 y197.length co26 : Value).ownBlock) (fun _ => False) rfl rfl ?aO ?aR (fun _ _ h => h) (fun _ h => h.elim) ?aF ?aB ?aS ?aL ?_; (case aR => repeat (first | exact (Kd.R_reads' HO199.out).2.2 | (with_reducible refine Kd.C_alloc ?_ _) | (with_reducible refine Kd.C_drewN ?_ _) | (with_reducible refine Kd.C_drew ?_))); (case aB => exact (by repeat (first | (with_reducible first | exact HB.out | apply qb | apply qa | apply qc | refine qf ?_ GE189.out | refine qf ?_ GE191.out | refine qf ?_ GE196.out) | exact HB.out))); (case aF => exact (fun k_ hk => Kd.fresh' (Kd.R_lt (by (with_reducible repeat (first | apply qk | apply ql | apply qm)); exact HO199.out)) k_ hk)); (case aO => exact (by (with_reducible repeat (first | apply qk | apply ql | apply qm)); exact Kd.R_mono HO_5.out (fun _ hk => hk.2))); (case aS => exact (qj (by repeat (first | (with_reducible first | exact HB.out | apply qb | apply qa | apply qc | refine qf ?_ GE189.out | refine qf ?_ GE191.out | refine qf ?_ GE196.out) | exact HB.out)))); (case aL => have := LMc16.out; omega); intro v201 w25 ho hb hg hat; rw [← Ny200.out] at ho; have n0_ := Aside0.mk (blk_grown (g := gb189) (o := .cells #[.int .i64 a0_0, .slice (some ad195) l0_1.length c0_1, .int .i64 a0_2, .int .i64 a0_3, .int .i64 a0_4] 37 (0, 0)) (by (with_reducible repeat (first | refine qg ?_ _ | refine qi ?_ | refine qh ?_ _)); exact BK189.out) hg (Kd.R_ne HO_5.out BK189.out (by decide))); have n1_ := Aside0.mk (blk_grown (g := gb191) (o := .cells #[.slice (some ad195) l0_1.length c0_1, .int .i64 a0_2, .int .i64 a0_3, .int .i64 a0_4] 29 (0, 0)) (by (with_reducible repeat (first | refine qg ?_ _ | refine qi ?_ | refine qh ?_ _)); exact BK191.out) hg (Kd.R_ne HO_5.out BK191.out (by decide))); have n2_ := Aside0.mk (blk_grown (g := gb196) (o := .cells #[.int .i64 ((rd_T84 l0_1 x6_1).f0), .int .i64 ((rd_T84 l0_1 x6_1).f1), .int .i64 ((rd_T84 l0_1 x6_1).f2), .int .i64 ((rd_T84 l0_1 x6_1).f3), .int .i64 ((rd_T84 l0_1 x6_1).f4), .int .i64 ((rd_T84 l0_1 x6_1).f5)] 84 (0, 0)) (by (with_reducible repeat (first | refine qg ?_ _ | refine qi ?_ | refine qh ?_ _)); exact BK196.out) hg (Kd.R_ne HO_5.out BK196.out (by decide))); have n3_ := Aside0.mk (Kd.R_after (ok := (fun _ => True)) (by (with_reducible repeat (first | apply qk | apply ql | apply qm)); exact HO199.out) hg hat); have n4_ := Aside0.mk (hb); have n5_ := Aside0.mk (ho); clear BK189; clear BK191; clear BK196; clear HO199; clear HB; clear HO_5; have BK189 := n0_; have BK191 := n1_; have BK196 := n2_; have HO199 := n3_; have HB := n4_; have HO202 := n5_; clear n0_ n1_ n2_ n3_ n4_ n5_; clear ho hb hg hat))
       go_roundg k1
       case measure => have := HK1.out; omega
       case rel => exact ⟨(y200), (wrap64 (x6_1 + 1)), (by first | rfl | (simp; done) | (simp [*]; done)), H', ⟨by have := HK1.out; omega⟩, ⟨by (with_reducible repeat (first | apply qk | apply ql | apply qm)); exact Kd.R_mono HO202.out (fun _ hk => trivial)⟩, ⟨by (with_reducible repeat (first | refine qg ?_ _ | refine qi ?_ | refine qh ?_ _)); exact BK189.out⟩, ⟨by (with_reducible repeat (first | refine qg ?_ _ | refine qi ?_ | refine qh ?_ _)); exact BK191.out⟩, ⟨by repeat (first | (with_reducible first | exact HB.out | apply qb | apply qa | apply qc | refine qf ?_ GE189.out | refine qf ?_ GE191.out | refine qf ?_ GE196.out) | exact HB.out)⟩⟩
      ·
       rw [if_neg c16] at H
       exact absurd H (by simp)
     ·
      rw [if_neg c15] at H
      exact absurd H (by simp)
    ·
     rw [if_neg c14] at H
     have c14b0 : decide (x6_1 < (l0_1.length : Int)) = false := decide_eq_false c14
     clear c14
     obtain ⟨y203, hy203⟩ : ∃ y_ : List Int, y_ = (([] : List Int)) := ⟨_, rfl⟩
     replace H : (spec_PutSave.l1 k1 x5_1 y203 0) = some (r1, r2) := by first | (rw [hy203]; with_reducible exact H) | (have H2_ := (Option.bind_some _ _).symm.trans H; rw [hy203]; with_reducible exact H2_) | (have H2_ := (Option.bind_some _ _).symm.trans H; with_reducible exact H2_) | with_reducible exact H | (rw [hy203]; exact H) | exact H
     have Ny203 := Aside0.mk hy203
     clear hy203
     have H' := Aside0.mk H
     clear H
     have hnb27 := NB191_189.out
     have hnc27 := NB189_191.out
     have hcz28_0 : wr.cell? ⟨gb191, 0, none⟩ = some (.slice A0_1 l0_1.length c0_1) := (qe BK191.out 0).trans rfl
     have hcz28_1 : wr.cell? ⟨gb191, 1, none⟩ = some (.int .i64 a0_2) := (qe BK191.out 1).trans rfl
     have hcz28_2 : wr.cell? ⟨gb191, 2, none⟩ = some (.int .i64 a0_3) := (qe BK191.out 2).trans rfl
     have hcz28_3 : wr.cell? ⟨gb191, 3, none⟩ = some (.int .i64 a0_4) := (qe BK191.out 3).trans rfl
     have hfz28_0 := qd BK191.out 0
     have hfz28_1 := qd BK191.out 1
     have hfz28_2 := qd BK191.out 2
     have hfz28_3 := qd BK191.out 3
     go_wp2_with (first | ((with_reducible refine gate_dst (N := 58) rfl ?_); refine Kd.R_lit (Kd.int .u8) _ 5 ?hg (N := 58) ?hd (xs := ([] : List Int)) (inner := []) (ok := fun _ => True) (okp := fun _ => True) ?hr ?hp (fun _ hk => hk) trivial (Below.refl _ _) (Nat.le_refl _) (by simp) ?_; (case hd => rfl); (case hg => rfl); (case hr => first | (go_simp; done) | (go_simp; rfl)); (case hp => exact (Reps.none _ _)); intro v204 w29 ho30 hb hg_ hnew_; clear hg_ hnew_; (first | rw [← Ny203.out] at ho30 | (simp only [Int.reduceToNat] at ho30; rw [← Ny203.out] at ho30)); have n0_ := Aside0.mk (Kd.R_below (by (with_reducible repeat (first | apply qk | apply ql | apply qm)); exact HO_5.out) hb); have n1_ := Aside0.mk (Kd.R_lower ho30 (qj (by repeat (first | (with_reducible first | exact HB.out | apply qb | apply qa | apply qc | refine qf ?_ GE189.out | refine qf ?_ GE191.out) | exact HB.out)))); have n2_ := Aside0.mk (blk_below (g := gb189) (o := .cells #[.int .i64 a0_0, .slice A0_1 l0_1.length c0_1, .int .i64 a0_2, .int .i64 a0_3, .int .i64 a0_4] 37 (0, 0)) (by (with_reducible repeat (first | refine qg ?_ _ | refine qi ?_ | refine qh ?_ _)); exact BK189.out) hb); have n3_ := Aside0.mk (blk_below (g := gb191) (o := .cells #[.slice A0_1 l0_1.length c0_1, .int .i64 a0_2, .int .i64 a0_3, .int .i64 a0_4] 29 (0, 0)) (by (with_reducible repeat (first | refine qg ?_ _ | refine qi ?_ | refine qh ?_ _)); exact BK191.out) hb); have n4_ := Aside0.mk (qn (by repeat (first | (with_reducible first | exact HB.out | apply qb | apply qa | apply qc | refine qf ?_ GE189.out | refine qf ?_ GE191.out) | exact HB.out)) hb); clear HO_5; clear BK189; clear BK191; clear HB; have HO_5 := n0_; have HO205 := n1_; have BK189 := n2_; have BK191 := n3_; have HB := n4_; clear n0_ n1_ n2_ n3_ n4_; clear hb ho30))
     go_loopg [8, 9] k1 (fun kq v8 v9 w' => ∃ (x8_2 : List Int) (x9_2 : Int), v9 = .int .i64 x9_2 ∧ Aside0 (spec_PutSave.l1 kq x5_1 x8_2 x9_2 = some (r1, r2)) ∧ Aside0 (kq ≤ k1) ∧ Aside0 (Kd.R (Kd.int .i64) 3 w' w.heap.size (fun _ => True) u5 x5_1) ∧ Aside0 (Kd.R (Kd.int .u8) 5 w' w.heap.size (fun _ => True) v8 x8_2) ∧ Aside0 (w'.heap[gb189]? = some (.cells #[.int .i64 a0_0, (.slice A0_1 l0_1.length c0_1), .int .i64 a0_2, .int .i64 a0_3, .int .i64 a0_4] 37 (0, 0))) ∧ Aside0 (w'.heap[gb191]? = some (.cells #[(.slice A0_1 l0_1.length c0_1), .int .i64 a0_2, .int .i64 a0_3, .int .i64 a0_4] 29 (0, 0))) ∧ Aside0 (Below w.heap.size w w'))
     case atStart => exact ⟨(y203), (0), (by first | rfl | (simp; done) | (simp [*]; done)), H', ⟨Nat.le_refl _⟩, ⟨by (with_reducible repeat (first | apply qk | apply ql | apply qm)); exact HO_5.out⟩, ⟨by (with_reducible repeat (first | apply qk | apply ql | apply qm)); exact HO205.out⟩, ⟨by (with_reducible repeat (first | refine qg ?_ _ | refine qi ?_ | refine qh ?_ _)); exact BK189.out⟩, ⟨by (with_reducible repeat (first | refine qg ?_ _ | refine qi ?_ | refine qh ?_ _)); exact BK191.out⟩, ⟨by repeat (first | (with_reducible first | exact HB.out | apply qb | apply qa | apply qc | refine qf ?_ GE189.out | refine qf ?_ GE191.out) | exact HB.out)⟩⟩
     case round =>
      clear H'
      try clear c1
      try clear p1
      try clear q1
      try clear hx1
      try clear c2
      try clear p2
      try clear c3
      try clear p6
      try clear c9
      try clear c14
      try clear c14b0
      try clear c15
      try clear c15b0
      try clear c16
      try clear c17
      try clear p19
      try clear q19
      try clear hx19
      try clear c20
      try clear c21
      try clear c27
      try clear hcz10_0
      try clear hcz10_1
      try clear hcz10_2
      try clear hcz10_3
      try clear hcz11_0
      try clear hcz11_1
      try clear hcz11_2
      try clear hcz11_3
      try clear hcz11_4
      try clear hcz18_0
      try clear hcz18_1
      try clear hcz18_2
      try clear hcz18_3
      try clear hcz22_0
      try clear hcz22_1
      try clear hcz22_2
      try clear hcz22_3
      try clear hcz22_4
      try clear hcz22_5
      try clear hcz28_0
      try clear hcz28_1
      try clear hcz28_2
      try clear hcz28_3
      try clear hcz5_0
      try clear hcz5_1
      try clear hcz5_2
      try clear hcz5_3
      try clear hcz5_4
      try clear hcz7_0
      try clear hcz7_1
      try clear hcz7_2
      try clear hcz7_3
      try clear hcz7_4
      try clear hfz10_0
      try clear hfz10_1
      try clear hfz10_2
      try clear hfz10_3
      try clear hfz11_0
      try clear hfz11_1
      try clear hfz11_2
      try clear hfz11_3
      try clear hfz11_4
      try clear hfz18_0
      try clear hfz18_1
      try clear hfz18_2
      try clear hfz18_3
      try clear hfz22_0
      try clear hfz22_1
      try clear hfz22_2
      try clear hfz22_3
      try clear hfz22_4
      try clear hfz22_5
      try clear hfz28_0
      try clear hfz28_1
      try clear hfz28_2
      try clear hfz28_3
      try clear hfz5_0
      try clear hfz5_1
      try clear hfz5_2
      try clear hfz5_3
      try clear hfz5_4
      try clear hfz7_0
      try clear hfz7_1
      try clear hfz7_2
      try clear hfz7_3
      try clear hfz7_4
      try clear hx195_0
      try clear hx195_1
      try clear hx195_2
      try clear hx195_3
      try clear hx195_4
      try clear hx195_5
      try clear p195
      try clear p2
      try clear p6
      try clear q195
      obtain ⟨x8_2, x9_2, rfl, HA, HK2, HO_5, HO_8, BK189, BK191, HB⟩ := hrel
      cases gk with
      | zero => exact absurd HA.out (by simp [spec_PutSave.l1])
      | succ k2 =>
       have H := HA.out
       clear HA
       simp only [spec_PutSave.l1] at H
       by_cases c31 : x9_2 < (x5_1.length : Int)
       ·
        rw [if_pos c31] at H
        have c31b0 : decide (x9_2 < (x5_1.length : Int)) = true := decide_eq_true c31
        clear c31
        by_cases c32 : 0 ≤ x9_2
        ·
         rw [if_pos c32] at H
         have c32b0 : decide (0 ≤ x9_2) = true := decide_eq_true c32
         clear c32
         replace H := Option.bind_eq_some_iff.mp H
         obtain ⟨t207, A330, H⟩ := H
         replace H : ((spec_l01Join.f k2 x8_2 t207).bind fun t210 => (spec_PutSave.l1 k2 x5_1 t210 (wrap64 (x9_2 + 1)))) = some (r1, r2) := H
         have A33 := Aside0.mk A330
         clear A330
         replace H := Option.bind_eq_some_iff.mp H
         obtain ⟨t210, A340, H⟩ := H
         replace H : (spec_PutSave.l1 k2 x5_1 t210 (wrap64 (x9_2 + 1))) = some (r1, r2) := H
         have A34 := Aside0.mk A340
         clear A340
         have H' := Aside0.mk H
         clear H
         obtain ⟨Ao35, co35, eo35⟩ := Kd.R_slice HO_5.out
         subst eo35
         have p206 : 0 ≤ (x9_2 : Int) := of_decide_eq_true (by first | (with_reducible assumption) | assumption)
         have q206 : x9_2 < (x5_1.length : Int) := of_decide_eq_true (by first | (with_reducible assumption) | assumption)
         obtain ⟨ad206, e206, hx206_0⟩ := Kd.at_int (Kd.R_reads' HO_5.out).2.2 x9_2 p206 q206
         cases e206
         replace p206 := eq_true p206
         replace q206 := eq_true q206
         go_wp2_with (first | ((with_reducible refine qo (f := 77) rfl ?_); refine goesL_ (some 70) rfl rfl Try.func77 (by kernel_rfl) rfl #[.int .i64 (rd x5_1 x9_2), .int .i64 4] rfl (by (try simp only [List.map_toArray, List.map_cons, List.map_nil]); first | done | rfl | (simp only [List.length_drop, List.length_take]; rfl)) ?_; (with_reducible refine (spec_l02Wide.calls k2 (rd x5_1 x9_2) 4 t207 _ A33.out).mono ?_); rintro e w36 ⟨v208, rfl, ho0, hb⟩; refine ⟨_, rfl, ?_⟩; have n0_ := Aside0.mk (Kd.R_below (by (with_reducible repeat (first | apply qk | apply ql | apply qm)); exact HO_5.out) hb); have n1_ := Aside0.mk (Kd.R_elder' (by (with_reducible repeat (first | apply qk | apply ql | apply qm)); exact HO_8.out) (Kd.R_base ho0) hb); have n2_ := Aside0.mk (Kd.R_lower (Kd.R_new' ho0 (Kd.R_lt (by (with_reducible repeat (first | apply qk | apply ql | apply qm)); exact HO_8.out))) (qj (by repeat (first | (with_reducible first | exact HB.out | apply qb | apply qa | apply qc | refine qf ?_ GE189.out | refine qf ?_ GE191.out) | exact HB.out)))); have n3_ := Aside0.mk (blk_below (g := gb189) (o := .cells #[.int .i64 a0_0, .slice A0_1 l0_1.length c0_1, .int .i64 a0_2, .int .i64 a0_3, .int .i64 a0_4] 37 (0, 0)) (by (with_reducible repeat (first | refine qg ?_ _ | refine qi ?_ | refine qh ?_ _)); exact BK189.out) hb); have n4_ := Aside0.mk (blk_below (g := gb191) (o := .cells #[.slice A0_1 l0_1.length c0_1, .int .i64 a0_2, .int .i64 a0_3, .int .i64 a0_4] 29 (0, 0)) (by (with_reducible repeat (first | refine qg ?_ _ | refine qi ?_ | refine qh ?_ _)); exact BK191.out) hb); have n5_ := Aside0.mk (qn (by repeat (first | (with_reducible first | exact HB.out | apply qb | apply qa | apply qc | refine qf ?_ GE189.out | refine qf ?_ GE191.out) | exact HB.out)) hb); clear HO_5; clear HO_8; clear BK189; clear BK191; clear HB; have HO_5 := n0_; have HO_8 := n1_; have HO209 := n2_; have BK189 := n3_; have BK191 := n4_; have HB := n5_; clear n0_ n1_ n2_ n3_ n4_ n5_; (try clear hb); (try clear hb2); (try clear hk); (try clear hi); (try clear ho0); obtain ⟨Ao37, co37, eo37⟩ := Kd.R_slice HO_8.out; subst eo37; obtain ⟨Ao38, co38, eo38⟩ := Kd.R_slice HO209.out; subst eo38) | ((with_reducible refine qo (f := 76) rfl ?_); refine goesL_ (some 71) rfl rfl Try.func76 (by kernel_rfl) rfl #[.slice Ao37 x8_2.length co37, .slice Ao38 t207.length co38] rfl (by (try simp only [List.map_toArray, List.map_cons, List.map_nil]); first | done | rfl | (simp only [List.length_drop, List.length_take]; rfl)) ?_; (with_reducible refine (spec_l01Join.calls k2 _ _ x8_2 _ _ t207 t210 _ ?side1 ?side2 ?side3 ?side4 A34.out).mono ?_); (case side1 => repeat (first | exact (Kd.R_reads' HO_8.out).2.2 | (with_reducible refine Kd.C_alloc ?_ _) | (with_reducible refine Kd.C_drewN ?_ _) | (with_reducible refine Kd.C_drew ?_))); (case side2 => exact (Kd.R_reads' HO_8.out).2.1); (case side3 => repeat (first | exact (Kd.R_reads' HO209.out).2.2 | (with_reducible refine Kd.C_alloc ?_ _) | (with_reducible refine Kd.C_drewN ?_ _) | (with_reducible refine Kd.C_drew ?_))); (case side4 => exact (Kd.R_reads' HO209.out).2.1); rintro e w39 ⟨v211, rfl, ho0, hb⟩; refine ⟨_, rfl, ?_⟩; have n0_ := Aside0.mk (Kd.R_below (by (with_reducible repeat (first | apply qk | apply ql | apply qm)); exact HO_5.out) hb); have n1_ := Aside0.mk (Kd.R_elder' (by (with_reducible repeat (first | apply qk | apply ql | apply qm)); exact HO_8.out) (Kd.R_base ho0) hb); have n2_ := Aside0.mk (Kd.R_elder' (by (with_reducible repeat (first | apply qk | apply ql | apply qm)); exact HO209.out) (Kd.R_base ho0) hb); have n3_ := Aside0.mk (Kd.R_lower (Kd.R_new' (Kd.R_new' ho0 (Kd.R_lt (by (with_reducible repeat (first | apply qk | apply ql | apply qm)); exact HO_8.out))) (Kd.R_lt (by (with_reducible repeat (first | apply qk | apply ql | apply qm)); exact HO209.out))) (qj (by repeat (first | (with_reducible first | exact HB.out | apply qb | apply qa | apply qc | refine qf ?_ GE189.out | refine qf ?_ GE191.out) | exact HB.out)))); have n4_ := Aside0.mk (blk_below (g := gb189) (o := .cells #[.int .i64 a0_0, .slice A0_1 l0_1.length c0_1, .int .i64 a0_2, .int .i64 a0_3, .int .i64 a0_4] 37 (0, 0)) (by (with_reducible repeat (first | refine qg ?_ _ | refine qi ?_ | refine qh ?_ _)); exact BK189.out) hb); have n5_ := Aside0.mk (blk_below (g := gb191) (o := .cells #[.slice A0_1 l0_1.length c0_1, .int .i64 a0_2, .int .i64 a0_3, .int .i64 a0_4] 29 (0, 0)) (by (with_reducible repeat (first | refine qg ?_ _ | refine qi ?_ | refine qh ?_ _)); exact BK191.out) hb); have n6_ := Aside0.mk (qn (by repeat (first | (with_reducible first | exact HB.out | apply qb | apply qa | apply qc | refine qf ?_ GE189.out | refine qf ?_ GE191.out) | exact HB.out)) hb); clear HO_5; clear HO_8; clear HO209; clear BK189; clear BK191; clear HB; have HO_5 := n0_; have HO_8 := n1_; have HO209 := n2_; have HO212 := n3_; have BK189 := n4_; have BK191 := n5_; have HB := n6_; clear n0_ n1_ n2_ n3_ n4_ n5_ n6_; (try clear hb); (try clear hb2); (try clear hk); (try clear hi); (try clear ho0)))
         go_roundg k2
         case measure => have := HK1.out; have := HK2.out; omega
         case rel => exact ⟨(t210), (wrap64 (x9_2 + 1)), (by first | rfl | (simp; done) | (simp [*]; done)), H', ⟨by have := HK1.out; have := HK2.out; omega⟩, ⟨by (with_reducible repeat (first | apply qk | apply ql | apply qm)); exact HO_5.out⟩, ⟨by (with_reducible repeat (first | apply qk | apply ql | apply qm)); exact Kd.R_mono HO212.out (fun _ hk => trivial)⟩, ⟨by (with_reducible repeat (first | refine qg ?_ _ | refine qi ?_ | refine qh ?_ _)); exact BK189.out⟩, ⟨by (with_reducible repeat (first | refine qg ?_ _ | refine qi ?_ | refine qh ?_ _)); exact BK191.out⟩, ⟨by repeat (first | (with_reducible first | exact HB.out | apply qb | apply qa | apply qc | refine qf ?_ GE189.out | refine qf ?_ GE191.out) | exact HB.out)⟩⟩
        ·
         rw [if_neg c32] at H
         exact absurd H (by simp)
       ·
        rw [if_neg c31] at H
        have c31b0 : decide (x9_2 < (x5_1.length : Int)) = false := decide_eq_false c31
        clear c31
        replace H := Option.bind_eq_some_iff.mp H
        obtain ⟨t213, A400, H⟩ := H
        replace H : ((spec_l02Wide.f k2 t213 4).bind fun t214 => ((spec_l01Join.f k2 x8_2 t214).bind fun t217 => (some (t217, true)))) = some (r1, r2) := H
        have A40 := Aside0.mk A400
        clear A400
        replace H := Option.bind_eq_some_iff.mp H
        obtain ⟨t214, A410, H⟩ := H
        replace H : ((spec_l01Join.f k2 x8_2 t214).bind fun t217 => (some (t217, true))) = some (r1, r2) := H
        have A41 := Aside0.mk A410
        clear A410
        replace H := Option.bind_eq_some_iff.mp H
        obtain ⟨t217, A420, H⟩ := H
        replace H : (some (t217, true)) = some (r1, r2) := H
        have A42 := Aside0.mk A420
        clear A420
        simp only [Option.some.injEq, Prod.mk.injEq] at H
        obtain ⟨rfl, rfl⟩ := H
        obtain ⟨Ao43, co43, eo43⟩ := Kd.R_slice HO_5.out
        subst eo43
        obtain ⟨Ao44, co44, eo44⟩ := Kd.R_slice HO_8.out
        subst eo44
        go_wp2_with (first | ((with_reducible refine qo (f := 78) rfl ?_); refine goesL_ (some 74) rfl rfl Try.func78 (by kernel_rfl) rfl #[.slice Ao44 x8_2.length co44] rfl (by (try simp only [List.map_toArray, List.map_cons, List.map_nil]); first | done | rfl | (simp only [List.length_drop, List.length_take]; rfl)) ?_; (with_reducible refine (spec_Check.calls k2 _ _ x8_2 t213 _ ?side1 ?side2 A40.out).mono ?_); (case side1 => repeat (first | exact (Kd.R_reads' HO_8.out).2.2 | (with_reducible refine Kd.C_alloc ?_ _) | (with_reducible refine Kd.C_drewN ?_ _) | (with_reducible refine Kd.C_drew ?_))); (case side2 => exact (Kd.R_reads' HO_8.out).2.1); rintro e w' ⟨rfl, ⟨nd, rfl⟩⟩; refine ⟨_, rfl, ?_⟩) | ((with_reducible refine qo (f := 77) rfl ?_); refine goesL_ (some 75) rfl rfl Try.func77 (by kernel_rfl) rfl #[.int .i64 t213, .int .i64 4] rfl (by (try simp only [List.map_toArray, List.map_cons, List.map_nil]); first | done | rfl | (simp only [List.length_drop, List.length_take]; rfl)) ?_; (with_reducible refine (spec_l02Wide.calls k2 t213 4 t214 _ A41.out).mono ?_); rintro e w45 ⟨v215, rfl, ho0, hb⟩; refine ⟨_, rfl, ?_⟩; have n0_ := Aside0.mk (Kd.R_below (by (with_reducible repeat (first | apply qk | apply ql | apply qm)); exact HO_5.out) hb); have n1_ := Aside0.mk (Kd.R_elder' (by (with_reducible repeat (first | apply qk | apply ql | apply qm)); exact HO_8.out) (Kd.R_base ho0) hb); have n2_ := Aside0.mk (Kd.R_lower (Kd.R_new' ho0 (Kd.R_lt (by (with_reducible repeat (first | apply qk | apply ql | apply qm)); exact HO_8.out))) (qj (by repeat (first | (with_reducible first | exact HB.out | apply qb | apply qa | apply qc | refine qf ?_ GE189.out | refine qf ?_ GE191.out) | exact HB.out)))); have n3_ := Aside0.mk (blk_below (g := gb189) (o := .cells #[.int .i64 a0_0, .slice A0_1 l0_1.length c0_1, .int .i64 a0_2, .int .i64 a0_3, .int .i64 a0_4] 37 (0, 0)) (by (with_reducible repeat (first | refine qg ?_ _ | refine qi ?_ | refine qh ?_ _)); exact BK189.out) hb); have n4_ := Aside0.mk (blk_below (g := gb191) (o := .cells #[.slice A0_1 l0_1.length c0_1, .int .i64 a0_2, .int .i64 a0_3, .int .i64 a0_4] 29 (0, 0)) (by (with_reducible repeat (first | refine qg ?_ _ | refine qi ?_ | refine qh ?_ _)); exact BK191.out) hb); have n5_ := Aside0.mk (qn (by repeat (first | (with_reducible first | exact HB.out | apply qb | apply qa | apply qc | refine qf ?_ GE189.out | refine qf ?_ GE191.out) | exact HB.out)) hb); clear HO_5; clear HO_8; clear BK189; clear BK191; clear HB; have HO_5 := n0_; have HO_8 := n1_; have HO216 := n2_; have BK189 := n3_; have BK191 := n4_; have HB := n5_; clear n0_ n1_ n2_ n3_ n4_ n5_; (try clear hb); (try clear hb2); (try clear hk); (try clear hi); (try clear ho0); obtain ⟨Ao46, co46, eo46⟩ := Kd.R_slice HO216.out; subst eo46) | ((with_reducible refine qo (f := 76) rfl ?_); refine goesL_ (some 76) rfl rfl Try.func76 (by kernel_rfl) rfl #[.slice Ao44 x8_2.length co44, .slice Ao46 t214.length co46] rfl (by (try simp only [List.map_toArray, List.map_cons, List.map_nil]); first | done | rfl | (simp only [List.length_drop, List.length_take]; rfl)) ?_; (with_reducible refine (spec_l01Join.calls k2 _ _ x8_2 _ _ t214 t217 _ ?side1 ?side2 ?side3 ?side4 A42.out).mono ?_); (case side1 => repeat (first | exact (Kd.R_reads' HO_8.out).2.2 | (with_reducible refine Kd.C_alloc ?_ _) | (with_reducible refine Kd.C_drewN ?_ _) | (with_reducible refine Kd.C_drew ?_))); (case side2 => exact (Kd.R_reads' HO_8.out).2.1); (case side3 => repeat (first | exact (Kd.R_reads' HO216.out).2.2 | (with_reducible refine Kd.C_alloc ?_ _) | (with_reducible refine Kd.C_drewN ?_ _) | (with_reducible refine Kd.C_drew ?_))); (case side4 => exact (Kd.R_reads' HO216.out).2.1); rintro e w47 ⟨v218, rfl, ho0, hb⟩; refine ⟨_, rfl, ?_⟩; have n0_ := Aside0.mk (Kd.R_below (by (with_reducible repeat (first | apply qk | apply ql | apply qm)); exact HO_5.out) hb); have n1_ := Aside0.mk (Kd.R_elder' (by (with_reducible repeat (first | apply qk | apply ql | apply qm)); exact HO_8.out) (Kd.R_base ho0) hb); have n2_ := Aside0.mk (Kd.R_elder' (by (with_reducible repeat (first | apply qk | apply ql | apply qm)); exact HO216.out) (Kd.R_base ho0) hb); have n3_ := Aside0.mk (Kd.R_lower (Kd.R_new' (Kd.R_new' ho0 (Kd.R_lt (by (with_reducible repeat (first | apply qk | apply ql | apply qm)); exact HO_8.out))) (Kd.R_lt (by (with_reducible repeat (first | apply qk | apply ql | apply qm)); exact HO216.out))) (qj (by repeat (first | (with_reducible first | exact HB.out | apply qb | apply qa | apply qc | refine qf ?_ GE189.out | refine qf ?_ GE191.out) | exact HB.out)))); have n4_ := Aside0.mk (blk_below (g := gb189) (o := .cells #[.int .i64 a0_0, .slice A0_1 l0_1.length c0_1, .int .i64 a0_2, .int .i64 a0_3, .int .i64 a0_4] 37 (0, 0)) (by (with_reducible repeat (first | refine qg ?_ _ | refine qi ?_ | refine qh ?_ _)); exact BK189.out) hb); have n5_ := Aside0.mk (blk_below (g := gb191) (o := .cells #[.slice A0_1 l0_1.length c0_1, .int .i64 a0_2, .int .i64 a0_3, .int .i64 a0_4] 29 (0, 0)) (by (with_reducible repeat (first | refine qg ?_ _ | refine qi ?_ | refine qh ?_ _)); exact BK191.out) hb); have n6_ := Aside0.mk (qn (by repeat (first | (with_reducible first | exact HB.out | apply qb | apply qa | apply qc | refine qf ?_ GE189.out | refine qf ?_ GE191.out) | exact HB.out)) hb); clear HO_5; clear HO_8; clear HO216; clear BK189; clear BK191; clear HB; have HO_5 := n0_; have HO_8 := n1_; have HO216 := n2_; have HO219 := n3_; have BK189 := n4_; have BK191 := n5_; have HB := n6_; clear n0_ n1_ n2_ n3_ n4_ n5_ n6_; (try clear hb); (try clear hb2); (try clear hk); (try clear hi); (try clear ho0)))
        go_ret2
        exact ⟨_, by first | rfl | (simp [errW_none, errW_some] <;> rfl) | (simp [*, errW_none, errW_some] <;> rfl), by (with_reducible repeat (first | apply qk | apply ql | apply qm)); exact Kd.R_mono HO219.out (fun _ hk => trivial), by repeat (first | (with_reducible first | exact HB.out | apply qb | apply qa | apply qc | refine qf ?_ GE189.out | refine qf ?_ GE191.out) | exact HB.out)⟩
 ·
  replace c3 := Bool.eq_false_iff.mpr c3
  subst c3
  have H1 : (some (([] : List Int), false)) = some (r1, r2) := by rw [if_neg (show ¬ (false = true) by decide)] at H; exact H
  clear H
  have H := H1
  clear H1
  simp only [Option.some.injEq, Prod.mk.injEq] at H
  obtain ⟨rfl, rfl⟩ := H
  go_enter Try.func32, Try.ntmps32
  go_wp2_with (first | ((with_reducible refine gate_dst (N := 1) rfl ?_); refine box_event ?hg (N := 1) ?hd (cs := #[.int .i64 a0_0, .slice A0_1 l0_1.length c0_1, .int .i64 a0_2, .int .i64 a0_3, .int .i64 a0_4]) (t := 37) ?hr ?_; (case hd => rfl); (case hg => rfl); (case hr => first | (go_simp; done) | (go_simp; rfl)); intro gb189 hg w48 hbox hb; have n0_ := Aside0.mk (qn (by repeat (first | (with_reducible first | exact HB.out | apply qb | apply qa | apply qc) | exact HB.out)) hb); have n1_ := Aside0.mk (hbox); have n2_ := Aside0.mk ((by rw [hg]; exact (qj (by repeat (first | (with_reducible first | exact HB.out | apply qb | apply qa | apply qc) | exact HB.out))) : w.heap.size ≤ gb189)); have n3_ := Aside0.mk ((by rw [hg]; exact (qj (by repeat (first | (with_reducible first | exact HB.out | apply qb | apply qa | apply qc) | exact HB.out))) : w.heap.size ≤ gb189)); clear HB; have HB := n0_; have BK189 := n1_; have GW189 := n2_; have GE189 := n3_; clear n0_ n1_ n2_ n3_; clear hb hbox hg; have hcz49_0 : w48.cell? ⟨gb189, 0, none⟩ = some (.int .i64 a0_0) := (qe BK189.out 0).trans rfl; have hcz49_1 : w48.cell? ⟨gb189, 1, none⟩ = some (.slice A0_1 l0_1.length c0_1) := (qe BK189.out 1).trans rfl; have hcz49_2 : w48.cell? ⟨gb189, 2, none⟩ = some (.int .i64 a0_2) := (qe BK189.out 2).trans rfl; have hcz49_3 : w48.cell? ⟨gb189, 3, none⟩ = some (.int .i64 a0_3) := (qe BK189.out 3).trans rfl; have hcz49_4 : w48.cell? ⟨gb189, 4, none⟩ = some (.int .i64 a0_4) := (qe BK189.out 4).trans rfl; have hfz49_0 := qd BK189.out 0; have hfz49_1 := qd BK189.out 1; have hfz49_2 := qd BK189.out 2; have hfz49_3 := qd BK189.out 3; have hfz49_4 := qd BK189.out 4) | ((with_reducible refine qo (f := 21) rfl ?_); refine goesL_ (some 11) rfl rfl Try.func21 (by kernel_rfl) rfl #[.agg #[.int .i64 a0_0, .slice A0_1 l0_1.length c0_1, .int .i64 a0_2, .int .i64 a0_3, .int .i64 a0_4]] rfl (by (try simp only [List.map_toArray, List.map_cons, List.map_nil]); first | done | rfl | (simp only [List.length_drop, List.length_take]; rfl)) ?_; (with_reducible refine (spec_SaveOk.calls k a0_0 _ _ l0_1 a0_2 a0_3 a0_4 false _ ?side1 ?side2 A2.out).mono ?_); (case side1 => repeat (first | exact (Kd.C_below HR0_1.out HB.out) | (with_reducible refine Kd.C_alloc ?_ _) | (with_reducible refine Kd.C_drewN ?_ _) | (with_reducible refine Kd.C_drew ?_))); (case side2 => exact HC0_1.out); rintro e w50 ⟨rfl, hb⟩; refine ⟨_, rfl, ?_⟩; have n0_ := Aside0.mk (blk_below (g := gb189) (o := .cells #[.int .i64 a0_0, .slice A0_1 l0_1.length c0_1, .int .i64 a0_2, .int .i64 a0_3, .int .i64 a0_4] 37 (0, 0)) (by (with_reducible repeat (first | refine qg ?_ _ | refine qi ?_ | refine qh ?_ _)); exact BK189.out) hb); have n1_ := Aside0.mk (qn (by repeat (first | (with_reducible first | exact HB.out | apply qb | apply qa | apply qc | refine qf ?_ GE189.out) | exact HB.out)) hb); clear BK189; clear HB; have BK189 := n0_; have HB := n1_; clear n0_ n1_; (try clear hb); (try clear hb2); (try clear hk); (try clear hi)))
  go_ret2
  exact ⟨_, by first | rfl | (simp [errW_none, errW_some] <;> rfl) | (simp [*, errW_none, errW_some] <;> rfl), by first | exact Kd.R_nil _ _ _ _ _ | exact Kd.N_nil _ _ _ _ _ | exact Kd.V_nil _ _ _ _ _ | exact Kd.Q_nil _ _ _ _ _ | exact Kd.S_nil _ _ _ _ _, by repeat (first | (with_reducible first | exact HB.out | apply qb | apply qa | apply qc | refine qf ?_ GE189.out) | exact HB.out)⟩

/-! ### impl_within: function 70 -/
def impl_within.f (a0 : Int) (a1 : Int) (a2 : Int) : Option (Bool) := if a1 ≤ a0 then (some (decide (a0 ≤ a2))) else (some false)
set_option maxHeartbeats 8000000 in
set_option maxRecDepth 100000 in
theorem impl_within.calls (a0 : Int) (a1 : Int) (a2 : Int) (r : Bool) (w : World) (h : impl_within.f a0 a1 a2 = some r) :
  Calls Try.prog 70 #[.int .i64 a0, .int .i64 a1, .int .i64 a2] w fun e w' => e = .returned (.bool r) ∧ Drawn0 w w' := by
 have H : (if a1 ≤ a0 then (some (decide (a0 ≤ a2))) else (some false)) = some r := h
 clear h
 by_cases c4 : a1 ≤ a0
 ·
  rw [if_pos c4] at H
  have c4b0 : decide (a1 ≤ a0) = true := decide_eq_true c4
  clear c4
  obtain rfl := Option.some.inj H
  go_enter Try.func70, Try.ntmps70
  go_wp2
  go_ret
  exact ⟨by first | rfl | (simp; done) | (simp [*]; done), by repeat (first | exact Drawn0.refl _ | apply Drawn0.step)⟩
 ·
  rw [if_neg c4] at H
  have c4b0 : decide (a1 ≤ a0) = false := decide_eq_false c4
  clear c4
  obtain rfl := Option.some.inj H
  go_enter Try.func70, Try.ntmps70
  go_wp2
  go_ret
  exact ⟨by first | rfl | (simp; done) | (simp [*]; done), by repeat (first | exact Drawn0.refl _ | apply Drawn0.step)⟩

-- NOT PRINTED: function 145 (slices_IndexFunc_impl_Agg_impl_Agg)

-- NOT PRINTED: function 124 (slices_ContainsFunc_impl_Agg_impl_Agg)

/-! ### impl_isKey: function 129 -/
def impl_isKey.f (a0 : Int) : Option (Bool) := (impl_within.f a0 0 65535).bind fun t220 => (some t220)
set_option maxHeartbeats 8000000 in
set_option maxRecDepth 100000 in
theorem impl_isKey.calls (a0 : Int) (r : Bool) (w : World) (h : impl_isKey.f a0 = some r) :
  Calls Try.prog 129 #[.int .i64 a0] w fun e w' => e = .returned (.bool r) ∧ Drawn0 w w' := by
 have H : ((impl_within.f a0 0 65535).bind fun t220 => (some t220)) = some r := h
 clear h
 replace H := Option.bind_eq_some_iff.mp H
 obtain ⟨t220, A20, H⟩ := H
 replace H : (some t220) = some r := H
 have A2 := Aside0.mk A20
 clear A20
 obtain rfl := Option.some.inj H
 go_enter Try.func129, Try.ntmps129
 go_wp2_with (first | ((with_reducible refine qo (f := 70) rfl ?_); refine goesL_ (some 4) rfl rfl Try.func70 (by kernel_rfl) rfl #[.int .i64 a0, .int .i64 0, .int .i64 65535] rfl (by (try simp only [List.map_toArray, List.map_cons, List.map_nil]); first | done | rfl | (simp only [List.length_drop, List.length_take]; rfl)) ?_; (with_reducible refine (impl_within.calls a0 0 65535 t220 _ A2.out).mono ?_); rintro e w' ⟨rfl, ⟨nd, rfl⟩⟩; refine ⟨_, rfl, ?_⟩))
 go_ret
 exact ⟨by first | rfl | (simp; done) | (simp [*]; done), by repeat (first | exact Drawn0.refl _ | apply Drawn0.step)⟩

/-! ### impl_isTime: function 130 -/
def impl_isTime.f (a0 : Int) : Option (Bool) := (impl_within.f a0 0 1000000).bind fun t221 => (some t221)
set_option maxHeartbeats 8000000 in
set_option maxRecDepth 100000 in
theorem impl_isTime.calls (a0 : Int) (r : Bool) (w : World) (h : impl_isTime.f a0 = some r) :
  Calls Try.prog 130 #[.int .i64 a0] w fun e w' => e = .returned (.bool r) ∧ Drawn0 w w' := by
 have H : ((impl_within.f a0 0 1000000).bind fun t221 => (some t221)) = some r := h
 clear h
 replace H := Option.bind_eq_some_iff.mp H
 obtain ⟨t221, A20, H⟩ := H
 replace H : (some t221) = some r := H
 have A2 := Aside0.mk A20
 clear A20
 obtain rfl := Option.some.inj H
 go_enter Try.func130, Try.ntmps130
 go_wp2_with (first | ((with_reducible refine qo (f := 70) rfl ?_); refine goesL_ (some 4) rfl rfl Try.func70 (by kernel_rfl) rfl #[.int .i64 a0, .int .i64 0, .int .i64 1000000] rfl (by (try simp only [List.map_toArray, List.map_cons, List.map_nil]); first | done | rfl | (simp only [List.length_drop, List.length_take]; rfl)) ?_; (with_reducible refine (impl_within.calls a0 0 1000000 t221 _ A2.out).mono ?_); rintro e w' ⟨rfl, ⟨nd, rfl⟩⟩; refine ⟨_, rfl, ?_⟩))
 go_ret
 exact ⟨by first | rfl | (simp; done) | (simp [*]; done), by repeat (first | exact Drawn0.refl _ | apply Drawn0.step)⟩

/-! ### impl_isValue: function 131 -/
def impl_isValue.f (a0 : Int) : Option (Bool) := (impl_within.f a0 (-1000000) 1000000).bind fun t222 => (some t222)
set_option maxHeartbeats 8000000 in
set_option maxRecDepth 100000 in
theorem impl_isValue.calls (a0 : Int) (r : Bool) (w : World) (h : impl_isValue.f a0 = some r) :
  Calls Try.prog 131 #[.int .i64 a0] w fun e w' => e = .returned (.bool r) ∧ Drawn0 w w' := by
 have H : ((impl_within.f a0 (-1000000) 1000000).bind fun t222 => (some t222)) = some r := h
 clear h
 replace H := Option.bind_eq_some_iff.mp H
 obtain ⟨t222, A20, H⟩ := H
 replace H : (some t222) = some r := H
 have A2 := Aside0.mk A20
 clear A20
 obtain rfl := Option.some.inj H
 go_enter Try.func131, Try.ntmps131
 go_wp2_with (first | ((with_reducible refine qo (f := 70) rfl ?_); refine goesL_ (some 4) rfl rfl Try.func70 (by kernel_rfl) rfl #[.int .i64 a0, .int .i64 (-1000000), .int .i64 1000000] rfl (by (try simp only [List.map_toArray, List.map_cons, List.map_nil]); first | done | rfl | (simp only [List.length_drop, List.length_take]; rfl)) ?_; (with_reducible refine (impl_within.calls a0 (-1000000) 1000000 t222 _ A2.out).mono ?_); rintro e w' ⟨rfl, ⟨nd, rfl⟩⟩; refine ⟨_, rfl, ?_⟩))
 go_ret
 exact ⟨by first | rfl | (simp; done) | (simp [*]; done), by repeat (first | exact Drawn0.refl _ | apply Drawn0.step)⟩

/-! ### impl_isSum: function 146 -/
def impl_isSum.f (a0 : Int) : Option (Bool) := (impl_within.f a0 (-1000000000) 1000000000).bind fun t223 => (some t223)
set_option maxHeartbeats 8000000 in
set_option maxRecDepth 100000 in
theorem impl_isSum.calls (a0 : Int) (r : Bool) (w : World) (h : impl_isSum.f a0 = some r) :
  Calls Try.prog 146 #[.int .i64 a0] w fun e w' => e = .returned (.bool r) ∧ Drawn0 w w' := by
 have H : ((impl_within.f a0 (-1000000000) 1000000000).bind fun t223 => (some t223)) = some r := h
 clear h
 replace H := Option.bind_eq_some_iff.mp H
 obtain ⟨t223, A20, H⟩ := H
 replace H : (some t223) = some r := H
 have A2 := Aside0.mk A20
 clear A20
 obtain rfl := Option.some.inj H
 go_enter Try.func146, Try.ntmps146
 go_wp2_with (first | ((with_reducible refine qo (f := 70) rfl ?_); refine goesL_ (some 4) rfl rfl Try.func70 (by kernel_rfl) rfl #[.int .i64 a0, .int .i64 (-1000000000), .int .i64 1000000000] rfl (by (try simp only [List.map_toArray, List.map_cons, List.map_nil]); first | done | rfl | (simp only [List.length_drop, List.length_take]; rfl)) ?_; (with_reducible refine (impl_within.calls a0 (-1000000000) 1000000000 t223 _ A2.out).mono ?_); rintro e w' ⟨rfl, ⟨nd, rfl⟩⟩; refine ⟨_, rfl, ?_⟩))
 go_ret
 exact ⟨by first | rfl | (simp; done) | (simp [*]; done), by repeat (first | exact Drawn0.refl _ | apply Drawn0.step)⟩

/-! ### impl_AggOk: function 126 -/
def impl_AggOk.f (a0_0 : Int) (a0_1 : Int) (a0_2 : Int) (a0_3 : Int) (a0_4 : Int) (a0_5 : Int) : Option (Bool) := (impl_isTime.f a0_0).bind fun t225 => (if t225 = true then ((impl_isKey.f a0_1).bind fun t226 => (if t226 = true then ((impl_within.f a0_2 1 1000000000).bind fun t227 => (if t227 = true then ((impl_isSum.f a0_3).bind fun t228 => (if t228 = true then ((impl_isValue.f a0_4).bind fun t229 => (if t229 = true then ((impl_isValue.f a0_5).bind fun t230 => (if t230 = true then (some (decide (a0_4 ≤ a0_5))) else (some false))) else (some false))) else (some false))) else (some false))) else (some false))) else (some false))
set_option maxHeartbeats 8000000 in
set_option maxRecDepth 100000 in
theorem impl_AggOk.calls (a0_0 : Int) (a0_1 : Int) (a0_2 : Int) (a0_3 : Int) (a0_4 : Int) (a0_5 : Int) (r : Bool) (w : World) (h : impl_AggOk.f a0_0 a0_1 a0_2 a0_3 a0_4 a0_5 = some r) :
  Calls Try.prog 126 #[.agg #[.int .i64 a0_0, .int .i64 a0_1, .int .i64 a0_2, .int .i64 a0_3, .int .i64 a0_4, .int .i64 a0_5]] w fun e w' => e = .returned (.bool r) ∧ Below w.heap.size w w' := by
 have hu84 := Try.underlying84
 have HB := Aside0.mk (Below.refl w.heap.size w)
 have H : ((impl_isTime.f a0_0).bind fun t225 => (if t225 = true then ((impl_isKey.f a0_1).bind fun t226 => (if t226 = true then ((impl_within.f a0_2 1 1000000000).bind fun t227 => (if t227 = true then ((impl_isSum.f a0_3).bind fun t228 => (if t228 = true then ((impl_isValue.f a0_4).bind fun t229 => (if t229 = true then ((impl_isValue.f a0_5).bind fun t230 => (if t230 = true then (some (decide (a0_4 ≤ a0_5))) else (some false))) else (some false))) else (some false))) else (some false))) else (some false))) else (some false))) = some r := h
 clear h
 replace H := Option.bind_eq_some_iff.mp H
 obtain ⟨t225, A20, H⟩ := H
 replace H : (if t225 = true then ((impl_isKey.f a0_1).bind fun t226 => (if t226 = true then ((impl_within.f a0_2 1 1000000000).bind fun t227 => (if t227 = true then ((impl_isSum.f a0_3).bind fun t228 => (if t228 = true then ((impl_isValue.f a0_4).bind fun t229 => (if t229 = true then ((impl_isValue.f a0_5).bind fun t230 => (if t230 = true then (some (decide (a0_4 ≤ a0_5))) else (some false))) else (some false))) else (some false))) else (some false))) else (some false))) else (some false)) = some r := H
 have A2 := Aside0.mk A20
 clear A20
 by_cases c3 : t225 = true
 ·
  subst c3
  have H1 : ((impl_isKey.f a0_1).bind fun t226 => (if t226 = true then ((impl_within.f a0_2 1 1000000000).bind fun t227 => (if t227 = true then ((impl_isSum.f a0_3).bind fun t228 => (if t228 = true then ((impl_isValue.f a0_4).bind fun t229 => (if t229 = true then ((impl_isValue.f a0_5).bind fun t230 => (if t230 = true then (some (decide (a0_4 ≤ a0_5))) else (some false))) else (some false))) else (some false))) else (some false))) else (some false))) = some r := by rw [if_pos rfl] at H; exact H
  clear H
  have H := H1
  clear H1
  replace H := Option.bind_eq_some_iff.mp H
  obtain ⟨t226, A40, H⟩ := H
  replace H : (if t226 = true then ((impl_within.f a0_2 1 1000000000).bind fun t227 => (if t227 = true then ((impl_isSum.f a0_3).bind fun t228 => (if t228 = true then ((impl_isValue.f a0_4).bind fun t229 => (if t229 = true then ((impl_isValue.f a0_5).bind fun t230 => (if t230 = true then (some (decide (a0_4 ≤ a0_5))) else (some false))) else (some false))) else (some false))) else (some false))) else (some false)) = some r := H
  have A4 := Aside0.mk A40
  clear A40
  by_cases c5 : t226 = true
  ·
   subst c5
   have H1 : ((impl_within.f a0_2 1 1000000000).bind fun t227 => (if t227 = true then ((impl_isSum.f a0_3).bind fun t228 => (if t228 = true then ((impl_isValue.f a0_4).bind fun t229 => (if t229 = true then ((impl_isValue.f a0_5).bind fun t230 => (if t230 = true then (some (decide (a0_4 ≤ a0_5))) else (some false))) else (some false))) else (some false))) else (some false))) = some r := by rw [if_pos rfl] at H; exact H
   clear H
   have H := H1
   clear H1
   replace H := Option.bind_eq_some_iff.mp H
   obtain ⟨t227, A60, H⟩ := H
   replace H : (if t227 = true then ((impl_isSum.f a0_3).bind fun t228 => (if t228 = true then ((impl_isValue.f a0_4).bind fun t229 => (if t229 = true then ((impl_isValue.f a0_5).bind fun t230 => (if t230 = true then (some (decide (a0_4 ≤ a0_5))) else (some false))) else (some false))) else (some false))) else (some false)) = some r := H
   have A6 := Aside0.mk A60
   clear A60
   by_cases c7 : t227 = true
   ·
    subst c7
    have H1 : ((impl_isSum.f a0_3).bind fun t228 => (if t228 = true then ((impl_isValue.f a0_4).bind fun t229 => (if t229 = true then ((impl_isValue.f a0_5).bind fun t230 => (if t230 = true then (some (decide (a0_4 ≤ a0_5))) else (some false))) else (some false))) else (some false))) = some r := by rw [if_pos rfl] at H; exact H
    clear H
    have H := H1
    clear H1
    replace H := Option.bind_eq_some_iff.mp H
    obtain ⟨t228, A80, H⟩ := H
    replace H : (if t228 = true then ((impl_isValue.f a0_4).bind fun t229 => (if t229 = true then ((impl_isValue.f a0_5).bind fun t230 => (if t230 = true then (some (decide (a0_4 ≤ a0_5))) else (some false))) else (some false))) else (some false)) = some r := H
    have A8 := Aside0.mk A80
    clear A80
    by_cases c9 : t228 = true
    ·
     subst c9
     have H1 : ((impl_isValue.f a0_4).bind fun t229 => (if t229 = true then ((impl_isValue.f a0_5).bind fun t230 => (if t230 = true then (some (decide (a0_4 ≤ a0_5))) else (some false))) else (some false))) = some r := by rw [if_pos rfl] at H; exact H
     clear H
     have H := H1
     clear H1
     replace H := Option.bind_eq_some_iff.mp H
     obtain ⟨t229, A100, H⟩ := H
     replace H : (if t229 = true then ((impl_isValue.f a0_5).bind fun t230 => (if t230 = true then (some (decide (a0_4 ≤ a0_5))) else (some false))) else (some false)) = some r := H
     have A10 := Aside0.mk A100
     clear A100
     by_cases c11 : t229 = true
     ·
      subst c11
      have H1 : ((impl_isValue.f a0_5).bind fun t230 => (if t230 = true then (some (decide (a0_4 ≤ a0_5))) else (some false))) = some r := by rw [if_pos rfl] at H; exact H
      clear H
      have H := H1
      clear H1
      replace H := Option.bind_eq_some_iff.mp H
      obtain ⟨t230, A120, H⟩ := H
      replace H : (if t230 = true then (some (decide (a0_4 ≤ a0_5))) else (some false)) = some r := H
      have A12 := Aside0.mk A120
      clear A120
      by_cases c13 : t230 = true
      ·
       subst c13
       have H1 : (some (decide (a0_4 ≤ a0_5))) = some r := by rw [if_pos rfl] at H; exact H
       clear H
       have H := H1
       clear H1
       obtain rfl := Option.some.inj H
       go_enter Try.func126, Try.ntmps126
       go_wp2_with (first | ((with_reducible refine gate_dst (N := 1) rfl ?_); refine box_event ?hg (N := 1) ?hd (cs := #[.int .i64 a0_0, .int .i64 a0_1, .int .i64 a0_2, .int .i64 a0_3, .int .i64 a0_4, .int .i64 a0_5]) (t := 84) ?hr ?_; (case hd => rfl); (case hg => rfl); (case hr => first | (go_simp; done) | (go_simp; rfl)); intro gb224 hg w14 hbox hb; have n0_ := Aside0.mk (qn (by repeat (first | (with_reducible first | exact HB.out | apply qb | apply qa | apply qc) | exact HB.out)) hb); have n1_ := Aside0.mk (hbox); have n2_ := Aside0.mk ((by rw [hg]; exact (qj (by repeat (first | (with_reducible first | exact HB.out | apply qb | apply qa | apply qc) | exact HB.out))) : w.heap.size ≤ gb224)); have n3_ := Aside0.mk ((by rw [hg]; exact (qj (by repeat (first | (with_reducible first | exact HB.out | apply qb | apply qa | apply qc) | exact HB.out))) : w.heap.size ≤ gb224)); clear HB; have HB := n0_; have BK224 := n1_; have GW224 := n2_; have GE224 := n3_; clear n0_ n1_ n2_ n3_; clear hb hbox hg; have hcz15_0 : w14.cell? ⟨gb224, 0, none⟩ = some (.int .i64 a0_0) := (qe BK224.out 0).trans rfl; have hcz15_1 : w14.cell? ⟨gb224, 1, none⟩ = some (.int .i64 a0_1) := (qe BK224.out 1).trans rfl; have hcz15_2 : w14.cell? ⟨gb224, 2, none⟩ = some (.int .i64 a0_2) := (qe BK224.out 2).trans rfl; have hcz15_3 : w14.cell? ⟨gb224, 3, none⟩ = some (.int .i64 a0_3) := (qe BK224.out 3).trans rfl; have hcz15_4 : w14.cell? ⟨gb224, 4, none⟩ = some (.int .i64 a0_4) := (qe BK224.out 4).trans rfl; have hcz15_5 : w14.cell? ⟨gb224, 5, none⟩ = some (.int .i64 a0_5) := (qe BK224.out 5).trans rfl; have hfz15_0 := qd BK224.out 0; have hfz15_1 := qd BK224.out 1; have hfz15_2 := qd BK224.out 2; have hfz15_3 := qd BK224.out 3; have hfz15_4 := qd BK224.out 4; have hfz15_5 := qd BK224.out 5) | ((with_reducible refine qo (f := 130) rfl ?_); refine goesL_ (some 5) rfl rfl Try.func130 (by kernel_rfl) rfl #[.int .i64 a0_0] rfl (by (try simp only [List.map_toArray, List.map_cons, List.map_nil]); first | done | rfl | (simp only [List.length_drop, List.length_take]; rfl)) ?_; (with_reducible refine (impl_isTime.calls a0_0 true _ A2.out).mono ?_); rintro e w' ⟨rfl, ⟨nd, rfl⟩⟩; refine ⟨_, rfl, ?_⟩) | (go_at_call 129; (with_reducible refine (impl_isKey.calls a0_1 true _ A4.out).mono ?_); rintro e w' ⟨rfl, ⟨nd, rfl⟩⟩) | (go_at_call 70; (with_reducible refine (impl_within.calls a0_2 1 1000000000 true _ A6.out).mono ?_); rintro e w' ⟨rfl, ⟨nd, rfl⟩⟩) | (go_at_call 146; (with_reducible refine (impl_isSum.calls a0_3 true _ A8.out).mono ?_); rintro e w' ⟨rfl, ⟨nd, rfl⟩⟩) | (go_at_call 131; (with_reducible refine (impl_isValue.calls a0_4 true _ A10.out).mono ?_); rintro e w' ⟨rfl, ⟨nd, rfl⟩⟩) | (go_at_call 131; (with_reducible refine (impl_isValue.calls a0_5 true _ A12.out).mono ?_); rintro e w' ⟨rfl, ⟨nd, rfl⟩⟩))
       go_ret
       exact ⟨by first | rfl | (simp [errW_none, errW_some] <;> rfl) | (simp [*, errW_none, errW_some] <;> rfl), by repeat (first | (with_reducible first | exact HB.out | apply qb | apply qa | apply qc | refine qf ?_ GE224.out) | exact HB.out)⟩
      ·
       replace c13 := Bool.eq_false_iff.mpr c13
       subst c13
       have H1 : (some false) = some r := by rw [if_neg (show ¬ (false = true) by decide)] at H; exact H
       clear H
       have H := H1
       clear H1
       obtain rfl := Option.some.inj H
       go_enter Try.func126, Try.ntmps126
       go_wp2_with (first | ((with_reducible refine gate_dst (N := 1) rfl ?_); refine box_event ?hg (N := 1) ?hd (cs := #[.int .i64 a0_0, .int .i64 a0_1, .int .i64 a0_2, .int .i64 a0_3, .int .i64 a0_4, .int .i64 a0_5]) (t := 84) ?hr ?_; (case hd => rfl); (case hg => rfl); (case hr => first | (go_simp; done) | (go_simp; rfl)); intro gb224 hg w16 hbox hb; have n0_ := Aside0.mk (qn (by repeat (first | (with_reducible first | exact HB.out | apply qb | apply qa | apply qc) | exact HB.out)) hb); have n1_ := Aside0.mk (hbox); have n2_ := Aside0.mk ((by rw [hg]; exact (qj (by repeat (first | (with_reducible first | exact HB.out | apply qb | apply qa | apply qc) | exact HB.out))) : w.heap.size ≤ gb224)); have n3_ := Aside0.mk ((by rw [hg]; exact (qj (by repeat (first | (with_reducible first | exact HB.out | apply qb | apply qa | apply qc) | exact HB.out))) : w.heap.size ≤ gb224)); clear HB; have HB := n0_; have BK224 := n1_; have GW224 := n2_; have GE224 := n3_; clear n0_ n1_ n2_ n3_; clear hb hbox hg; have hcz17_0 : w16.cell? ⟨gb224, 0, none⟩ = some (.int .i64 a0_0) := (qe BK224.out 0).trans rfl; have hcz17_1 : w16.cell? ⟨gb224, 1, none⟩ = some (.int .i64 a0_1) := (qe BK224.out 1).trans rfl; have hcz17_2 : w16.cell? ⟨gb224, 2, none⟩ = some (.int .i64 a0_2) := (qe BK224.out 2).trans rfl; have hcz17_3 : w16.cell? ⟨gb224, 3, none⟩ = some (.int .i64 a0_3) := (qe BK224.out 3).trans rfl; have hcz17_4 : w16.cell? ⟨gb224, 4, none⟩ = some (.int .i64 a0_4) := (qe BK224.out 4).trans rfl; have hcz17_5 : w16.cell? ⟨gb224, 5, none⟩ = some (.int .i64 a0_5) := (qe BK224.out 5).trans rfl; have hfz17_0 := qd BK224.out 0; have hfz17_1 := qd BK224.out 1; have hfz17_2 := qd BK224.out 2; have hfz17_3 := qd BK224.out 3; have hfz17_4 := qd BK224.out 4; have hfz17_5 := qd BK224.out 5) | ((with_reducible refine qo (f := 130) rfl ?_); refine goesL_ (some 5) rfl rfl Try.func130 (by kernel_rfl) rfl #[.int .i64 a0_0] rfl (by (try simp only [List.map_toArray, List.map_cons, List.map_nil]); first | done | rfl | (simp only [List.length_drop, List.length_take]; rfl)) ?_; (with_reducible refine (impl_isTime.calls a0_0 true _ A2.out).mono ?_); rintro e w' ⟨rfl, ⟨nd, rfl⟩⟩; refine ⟨_, rfl, ?_⟩) | (go_at_call 129; (with_reducible refine (impl_isKey.calls a0_1 true _ A4.out).mono ?_); rintro e w' ⟨rfl, ⟨nd, rfl⟩⟩) | (go_at_call 70; (with_reducible refine (impl_within.calls a0_2 1 1000000000 true _ A6.out).mono ?_); rintro e w' ⟨rfl, ⟨nd, rfl⟩⟩) | (go_at_call 146; (with_reducible refine (impl_isSum.calls a0_3 true _ A8.out).mono ?_); rintro e w' ⟨rfl, ⟨nd, rfl⟩⟩) | (go_at_call 131; (with_reducible refine (impl_isValue.calls a0_4 true _ A10.out).mono ?_); rintro e w' ⟨rfl, ⟨nd, rfl⟩⟩) | (go_at_call 131; (with_reducible refine (impl_isValue.calls a0_5 false _ A12.out).mono ?_); rintro e w' ⟨rfl, ⟨nd, rfl⟩⟩))
       go_ret
       exact ⟨by first | rfl | (simp [errW_none, errW_some] <;> rfl) | (simp [*, errW_none, errW_some] <;> rfl), by repeat (first | (with_reducible first | exact HB.out | apply qb | apply qa | apply qc | refine qf ?_ GE224.out) | exact HB.out)⟩
     ·
      replace c11 := Bool.eq_false_iff.mpr c11
      subst c11
      have H1 : (some false) = some r := by rw [if_neg (show ¬ (false = true) by decide)] at H; exact H
      clear H
      have H := H1
      clear H1
      obtain rfl := Option.some.inj H
      go_enter Try.func126, Try.ntmps126
      go_wp2_with (first | ((with_reducible refine gate_dst (N := 1) rfl ?_); refine box_event ?hg (N := 1) ?hd (cs := #[.int .i64 a0_0, .int .i64 a0_1, .int .i64 a0_2, .int .i64 a0_3, .int .i64 a0_4, .int .i64 a0_5]) (t := 84) ?hr ?_; (case hd => rfl); (case hg => rfl); (case hr => first | (go_simp; done) | (go_simp; rfl)); intro gb224 hg w18 hbox hb; have n0_ := Aside0.mk (qn (by repeat (first | (with_reducible first | exact HB.out | apply qb | apply qa | apply qc) | exact HB.out)) hb); have n1_ := Aside0.mk (hbox); have n2_ := Aside0.mk ((by rw [hg]; exact (qj (by repeat (first | (with_reducible first | exact HB.out | apply qb | apply qa | apply qc) | exact HB.out))) : w.heap.size ≤ gb224)); have n3_ := Aside0.mk ((by rw [hg]; exact (qj (by repeat (first | (with_reducible first | exact HB.out | apply qb | apply qa | apply qc) | exact HB.out))) : w.heap.size ≤ gb224)); clear HB; have HB := n0_; have BK224 := n1_; have GW224 := n2_; have GE224 := n3_; clear n0_ n1_ n2_ n3_; clear hb hbox hg; have hcz19_0 : w18.cell? ⟨gb224, 0, none⟩ = some (.int .i64 a0_0) := (qe BK224.out 0).trans rfl; have hcz19_1 : w18.cell? ⟨gb224, 1, none⟩ = some (.int .i64 a0_1) := (qe BK224.out 1).trans rfl; have hcz19_2 : w18.cell? ⟨gb224, 2, none⟩ = some (.int .i64 a0_2) := (qe BK224.out 2).trans rfl; have hcz19_3 : w18.cell? ⟨gb224, 3, none⟩ = some (.int .i64 a0_3) := (qe BK224.out 3).trans rfl; have hcz19_4 : w18.cell? ⟨gb224, 4, none⟩ = some (.int .i64 a0_4) := (qe BK224.out 4).trans rfl; have hcz19_5 : w18.cell? ⟨gb224, 5, none⟩ = some (.int .i64 a0_5) := (qe BK224.out 5).trans rfl; have hfz19_0 := qd BK224.out 0; have hfz19_1 := qd BK224.out 1; have hfz19_2 := qd BK224.out 2; have hfz19_3 := qd BK224.out 3; have hfz19_4 := qd BK224.out 4; have hfz19_5 := qd BK224.out 5) | ((with_reducible refine qo (f := 130) rfl ?_); refine goesL_ (some 5) rfl rfl Try.func130 (by kernel_rfl) rfl #[.int .i64 a0_0] rfl (by (try simp only [List.map_toArray, List.map_cons, List.map_nil]); first | done | rfl | (simp only [List.length_drop, List.length_take]; rfl)) ?_; (with_reducible refine (impl_isTime.calls a0_0 true _ A2.out).mono ?_); rintro e w' ⟨rfl, ⟨nd, rfl⟩⟩; refine ⟨_, rfl, ?_⟩) | (go_at_call 129; (with_reducible refine (impl_isKey.calls a0_1 true _ A4.out).mono ?_); rintro e w' ⟨rfl, ⟨nd, rfl⟩⟩) | (go_at_call 70; (with_reducible refine (impl_within.calls a0_2 1 1000000000 true _ A6.out).mono ?_); rintro e w' ⟨rfl, ⟨nd, rfl⟩⟩) | (go_at_call 146; (with_reducible refine (impl_isSum.calls a0_3 true _ A8.out).mono ?_); rintro e w' ⟨rfl, ⟨nd, rfl⟩⟩) | (go_at_call 131; (with_reducible refine (impl_isValue.calls a0_4 false _ A10.out).mono ?_); rintro e w' ⟨rfl, ⟨nd, rfl⟩⟩))
      go_ret
      exact ⟨by first | rfl | (simp [errW_none, errW_some] <;> rfl) | (simp [*, errW_none, errW_some] <;> rfl), by repeat (first | (with_reducible first | exact HB.out | apply qb | apply qa | apply qc | refine qf ?_ GE224.out) | exact HB.out)⟩
    ·
     replace c9 := Bool.eq_false_iff.mpr c9
     subst c9
     have H1 : (some false) = some r := by rw [if_neg (show ¬ (false = true) by decide)] at H; exact H
     clear H
     have H := H1
     clear H1
     obtain rfl := Option.some.inj H
     go_enter Try.func126, Try.ntmps126
     go_wp2_with (first | ((with_reducible refine gate_dst (N := 1) rfl ?_); refine box_event ?hg (N := 1) ?hd (cs := #[.int .i64 a0_0, .int .i64 a0_1, .int .i64 a0_2, .int .i64 a0_3, .int .i64 a0_4, .int .i64 a0_5]) (t := 84) ?hr ?_; (case hd => rfl); (case hg => rfl); (case hr => first | (go_simp; done) | (go_simp; rfl)); intro gb224 hg w20 hbox hb; have n0_ := Aside0.mk (qn (by repeat (first | (with_reducible first | exact HB.out | apply qb | apply qa | apply qc) | exact HB.out)) hb); have n1_ := Aside0.mk (hbox); have n2_ := Aside0.mk ((by rw [hg]; exact (qj (by repeat (first | (with_reducible first | exact HB.out | apply qb | apply qa | apply qc) | exact HB.out))) : w.heap.size ≤ gb224)); have n3_ := Aside0.mk ((by rw [hg]; exact (qj (by repeat (first | (with_reducible first | exact HB.out | apply qb | apply qa | apply qc) | exact HB.out))) : w.heap.size ≤ gb224)); clear HB; have HB := n0_; have BK224 := n1_; have GW224 := n2_; have GE224 := n3_; clear n0_ n1_ n2_ n3_; clear hb hbox hg; have hcz21_0 : w20.cell? ⟨gb224, 0, none⟩ = some (.int .i64 a0_0) := (qe BK224.out 0).trans rfl; have hcz21_1 : w20.cell? ⟨gb224, 1, none⟩ = some (.int .i64 a0_1) := (qe BK224.out 1).trans rfl; have hcz21_2 : w20.cell? ⟨gb224, 2, none⟩ = some (.int .i64 a0_2) := (qe BK224.out 2).trans rfl; have hcz21_3 : w20.cell? ⟨gb224, 3, none⟩ = some (.int .i64 a0_3) := (qe BK224.out 3).trans rfl; have hcz21_4 : w20.cell? ⟨gb224, 4, none⟩ = some (.int .i64 a0_4) := (qe BK224.out 4).trans rfl; have hcz21_5 : w20.cell? ⟨gb224, 5, none⟩ = some (.int .i64 a0_5) := (qe BK224.out 5).trans rfl; have hfz21_0 := qd BK224.out 0; have hfz21_1 := qd BK224.out 1; have hfz21_2 := qd BK224.out 2; have hfz21_3 := qd BK224.out 3; have hfz21_4 := qd BK224.out 4; have hfz21_5 := qd BK224.out 5) | ((with_reducible refine qo (f := 130) rfl ?_); refine goesL_ (some 5) rfl rfl Try.func130 (by kernel_rfl) rfl #[.int .i64 a0_0] rfl (by (try simp only [List.map_toArray, List.map_cons, List.map_nil]); first | done | rfl | (simp only [List.length_drop, List.length_take]; rfl)) ?_; (with_reducible refine (impl_isTime.calls a0_0 true _ A2.out).mono ?_); rintro e w' ⟨rfl, ⟨nd, rfl⟩⟩; refine ⟨_, rfl, ?_⟩) | (go_at_call 129; (with_reducible refine (impl_isKey.calls a0_1 true _ A4.out).mono ?_); rintro e w' ⟨rfl, ⟨nd, rfl⟩⟩) | (go_at_call 70; (with_reducible refine (impl_within.calls a0_2 1 1000000000 true _ A6.out).mono ?_); rintro e w' ⟨rfl, ⟨nd, rfl⟩⟩) | (go_at_call 146; (with_reducible refine (impl_isSum.calls a0_3 false _ A8.out).mono ?_); rintro e w' ⟨rfl, ⟨nd, rfl⟩⟩))
     go_ret
     exact ⟨by first | rfl | (simp [errW_none, errW_some] <;> rfl) | (simp [*, errW_none, errW_some] <;> rfl), by repeat (first | (with_reducible first | exact HB.out | apply qb | apply qa | apply qc | refine qf ?_ GE224.out) | exact HB.out)⟩
   ·
    replace c7 := Bool.eq_false_iff.mpr c7
    subst c7
    have H1 : (some false) = some r := by rw [if_neg (show ¬ (false = true) by decide)] at H; exact H
    clear H
    have H := H1
    clear H1
    obtain rfl := Option.some.inj H
    go_enter Try.func126, Try.ntmps126
    go_wp2_with (first | ((with_reducible refine gate_dst (N := 1) rfl ?_); refine box_event ?hg (N := 1) ?hd (cs := #[.int .i64 a0_0, .int .i64 a0_1, .int .i64 a0_2, .int .i64 a0_3, .int .i64 a0_4, .int .i64 a0_5]) (t := 84) ?hr ?_; (case hd => rfl); (case hg => rfl); (case hr => first | (go_simp; done) | (go_simp; rfl)); intro gb224 hg w22 hbox hb; have n0_ := Aside0.mk (qn (by repeat (first | (with_reducible first | exact HB.out | apply qb | apply qa | apply qc) | exact HB.out)) hb); have n1_ := Aside0.mk (hbox); have n2_ := Aside0.mk ((by rw [hg]; exact (qj (by repeat (first | (with_reducible first | exact HB.out | apply qb | apply qa | apply qc) | exact HB.out))) : w.heap.size ≤ gb224)); have n3_ := Aside0.mk ((by rw [hg]; exact (qj (by repeat (first | (with_reducible first | exact HB.out | apply qb | apply qa | apply qc) | exact HB.out))) : w.heap.size ≤ gb224)); clear HB; have HB := n0_; have BK224 := n1_; have GW224 := n2_; have GE224 := n3_; clear n0_ n1_ n2_ n3_; clear hb hbox hg; have hcz23_0 : w22.cell? ⟨gb224, 0, none⟩ = some (.int .i64 a0_0) := (qe BK224.out 0).trans rfl; have hcz23_1 : w22.cell? ⟨gb224, 1, none⟩ = some (.int .i64 a0_1) := (qe BK224.out 1).trans rfl; have hcz23_2 : w22.cell? ⟨gb224, 2, none⟩ = some (.int .i64 a0_2) := (qe BK224.out 2).trans rfl; have hcz23_3 : w22.cell? ⟨gb224, 3, none⟩ = some (.int .i64 a0_3) := (qe BK224.out 3).trans rfl; have hcz23_4 : w22.cell? ⟨gb224, 4, none⟩ = some (.int .i64 a0_4) := (qe BK224.out 4).trans rfl; have hcz23_5 : w22.cell? ⟨gb224, 5, none⟩ = some (.int .i64 a0_5) := (qe BK224.out 5).trans rfl; have hfz23_0 := qd BK224.out 0; have hfz23_1 := qd BK224.out 1; have hfz23_2 := qd BK224.out 2; have hfz23_3 := qd BK224.out 3; have hfz23_4 := qd BK224.out 4; have hfz23_5 := qd BK224.out 5) | ((with_reducible refine qo (f := 130) rfl ?_); refine goesL_ (some 5) rfl rfl Try.func130 (by kernel_rfl) rfl #[.int .i64 a0_0] rfl (by (try simp only [List.map_toArray, List.map_cons, List.map_nil]); first | done | rfl | (simp only [List.length_drop, List.length_take]; rfl)) ?_; (with_reducible refine (impl_isTime.calls a0_0 true _ A2.out).mono ?_); rintro e w' ⟨rfl, ⟨nd, rfl⟩⟩; refine ⟨_, rfl, ?_⟩) | (go_at_call 129; (with_reducible refine (impl_isKey.calls a0_1 true _ A4.out).mono ?_); rintro e w' ⟨rfl, ⟨nd, rfl⟩⟩) | (go_at_call 70; (with_reducible refine (impl_within.calls a0_2 1 1000000000 false _ A6.out).mono ?_); rintro e w' ⟨rfl, ⟨nd, rfl⟩⟩))
    go_ret
    exact ⟨by first | rfl | (simp [errW_none, errW_some] <;> rfl) | (simp [*, errW_none, errW_some] <;> rfl), by repeat (first | (with_reducible first | exact HB.out | apply qb | apply qa | apply qc | refine qf ?_ GE224.out) | exact HB.out)⟩
  ·
   replace c5 := Bool.eq_false_iff.mpr c5
   subst c5
   have H1 : (some false) = some r := by rw [if_neg (show ¬ (false = true) by decide)] at H; exact H
   clear H
   have H := H1
   clear H1
   obtain rfl := Option.some.inj H
   go_enter Try.func126, Try.ntmps126
   go_wp2_with (first | ((with_reducible refine gate_dst (N := 1) rfl ?_); refine box_event ?hg (N := 1) ?hd (cs := #[.int .i64 a0_0, .int .i64 a0_1, .int .i64 a0_2, .int .i64 a0_3, .int .i64 a0_4, .int .i64 a0_5]) (t := 84) ?hr ?_; (case hd => rfl); (case hg => rfl); (case hr => first | (go_simp; done) | (go_simp; rfl)); intro gb224 hg w24 hbox hb; have n0_ := Aside0.mk (qn (by repeat (first | (with_reducible first | exact HB.out | apply qb | apply qa | apply qc) | exact HB.out)) hb); have n1_ := Aside0.mk (hbox); have n2_ := Aside0.mk ((by rw [hg]; exact (qj (by repeat (first | (with_reducible first | exact HB.out | apply qb | apply qa | apply qc) | exact HB.out))) : w.heap.size ≤ gb224)); have n3_ := Aside0.mk ((by rw [hg]; exact (qj (by repeat (first | (with_reducible first | exact HB.out | apply qb | apply qa | apply qc) | exact HB.out))) : w.heap.size ≤ gb224)); clear HB; have HB := n0_; have BK224 := n1_; have GW224 := n2_; have GE224 := n3_; clear n0_ n1_ n2_ n3_; clear hb hbox hg; have hcz25_0 : w24.cell? ⟨gb224, 0, none⟩ = some (.int .i64 a0_0) := (qe BK224.out 0).trans rfl; have hcz25_1 : w24.cell? ⟨gb224, 1, none⟩ = some (.int .i64 a0_1) := (qe BK224.out 1).trans rfl; have hcz25_2 : w24.cell? ⟨gb224, 2, none⟩ = some (.int .i64 a0_2) := (qe BK224.out 2).trans rfl; have hcz25_3 : w24.cell? ⟨gb224, 3, none⟩ = some (.int .i64 a0_3) := (qe BK224.out 3).trans rfl; have hcz25_4 : w24.cell? ⟨gb224, 4, none⟩ = some (.int .i64 a0_4) := (qe BK224.out 4).trans rfl; have hcz25_5 : w24.cell? ⟨gb224, 5, none⟩ = some (.int .i64 a0_5) := (qe BK224.out 5).trans rfl; have hfz25_0 := qd BK224.out 0; have hfz25_1 := qd BK224.out 1; have hfz25_2 := qd BK224.out 2; have hfz25_3 := qd BK224.out 3; have hfz25_4 := qd BK224.out 4; have hfz25_5 := qd BK224.out 5) | ((with_reducible refine qo (f := 130) rfl ?_); refine goesL_ (some 5) rfl rfl Try.func130 (by kernel_rfl) rfl #[.int .i64 a0_0] rfl (by (try simp only [List.map_toArray, List.map_cons, List.map_nil]); first | done | rfl | (simp only [List.length_drop, List.length_take]; rfl)) ?_; (with_reducible refine (impl_isTime.calls a0_0 true _ A2.out).mono ?_); rintro e w' ⟨rfl, ⟨nd, rfl⟩⟩; refine ⟨_, rfl, ?_⟩) | (go_at_call 129; (with_reducible refine (impl_isKey.calls a0_1 false _ A4.out).mono ?_); rintro e w' ⟨rfl, ⟨nd, rfl⟩⟩))
   go_ret
   exact ⟨by first | rfl | (simp [errW_none, errW_some] <;> rfl) | (simp [*, errW_none, errW_some] <;> rfl), by repeat (first | (with_reducible first | exact HB.out | apply qb | apply qa | apply qc | refine qf ?_ GE224.out) | exact HB.out)⟩
 ·
  replace c3 := Bool.eq_false_iff.mpr c3
  subst c3
  have H1 : (some false) = some r := by rw [if_neg (show ¬ (false = true) by decide)] at H; exact H
  clear H
  have H := H1
  clear H1
  obtain rfl := Option.some.inj H
  go_enter Try.func126, Try.ntmps126
  go_wp2_with (first | ((with_reducible refine gate_dst (N := 1) rfl ?_); refine box_event ?hg (N := 1) ?hd (cs := #[.int .i64 a0_0, .int .i64 a0_1, .int .i64 a0_2, .int .i64 a0_3, .int .i64 a0_4, .int .i64 a0_5]) (t := 84) ?hr ?_; (case hd => rfl); (case hg => rfl); (case hr => first | (go_simp; done) | (go_simp; rfl)); intro gb224 hg w26 hbox hb; have n0_ := Aside0.mk (qn (by repeat (first | (with_reducible first | exact HB.out | apply qb | apply qa | apply qc) | exact HB.out)) hb); have n1_ := Aside0.mk (hbox); have n2_ := Aside0.mk ((by rw [hg]; exact (qj (by repeat (first | (with_reducible first | exact HB.out | apply qb | apply qa | apply qc) | exact HB.out))) : w.heap.size ≤ gb224)); have n3_ := Aside0.mk ((by rw [hg]; exact (qj (by repeat (first | (with_reducible first | exact HB.out | apply qb | apply qa | apply qc) | exact HB.out))) : w.heap.size ≤ gb224)); clear HB; have HB := n0_; have BK224 := n1_; have GW224 := n2_; have GE224 := n3_; clear n0_ n1_ n2_ n3_; clear hb hbox hg; have hcz27_0 : w26.cell? ⟨gb224, 0, none⟩ = some (.int .i64 a0_0) := (qe BK224.out 0).trans rfl; have hcz27_1 : w26.cell? ⟨gb224, 1, none⟩ = some (.int .i64 a0_1) := (qe BK224.out 1).trans rfl; have hcz27_2 : w26.cell? ⟨gb224, 2, none⟩ = some (.int .i64 a0_2) := (qe BK224.out 2).trans rfl; have hcz27_3 : w26.cell? ⟨gb224, 3, none⟩ = some (.int .i64 a0_3) := (qe BK224.out 3).trans rfl; have hcz27_4 : w26.cell? ⟨gb224, 4, none⟩ = some (.int .i64 a0_4) := (qe BK224.out 4).trans rfl; have hcz27_5 : w26.cell? ⟨gb224, 5, none⟩ = some (.int .i64 a0_5) := (qe BK224.out 5).trans rfl; have hfz27_0 := qd BK224.out 0; have hfz27_1 := qd BK224.out 1; have hfz27_2 := qd BK224.out 2; have hfz27_3 := qd BK224.out 3; have hfz27_4 := qd BK224.out 4; have hfz27_5 := qd BK224.out 5) | ((with_reducible refine qo (f := 130) rfl ?_); refine goesL_ (some 5) rfl rfl Try.func130 (by kernel_rfl) rfl #[.int .i64 a0_0] rfl (by (try simp only [List.map_toArray, List.map_cons, List.map_nil]); first | done | rfl | (simp only [List.length_drop, List.length_take]; rfl)) ?_; (with_reducible refine (impl_isTime.calls a0_0 false _ A2.out).mono ?_); rintro e w' ⟨rfl, ⟨nd, rfl⟩⟩; refine ⟨_, rfl, ?_⟩))
  go_ret
  exact ⟨by first | rfl | (simp [errW_none, errW_some] <;> rfl) | (simp [*, errW_none, errW_some] <;> rfl), by repeat (first | (with_reducible first | exact HB.out | apply qb | apply qa | apply qc | refine qf ?_ GE224.out) | exact HB.out)⟩

/-! ### impl_areAggs_1: function 125 -/
def impl_areAggs_1.f (a0_0 : Int) (a0_1 : Int) (a0_2 : Int) (a0_3 : Int) (a0_4 : Int) (a0_5 : Int) : Option (Bool) := (impl_AggOk.f a0_0 a0_1 a0_2 a0_3 a0_4 a0_5).bind fun t232 => (some (!t232))
set_option maxHeartbeats 8000000 in
set_option maxRecDepth 100000 in
theorem impl_areAggs_1.calls (a0_0 : Int) (a0_1 : Int) (a0_2 : Int) (a0_3 : Int) (a0_4 : Int) (a0_5 : Int) (r : Bool) (w : World) (h : impl_areAggs_1.f a0_0 a0_1 a0_2 a0_3 a0_4 a0_5 = some r) :
  Calls Try.prog 125 #[.agg #[.int .i64 a0_0, .int .i64 a0_1, .int .i64 a0_2, .int .i64 a0_3, .int .i64 a0_4, .int .i64 a0_5]] w fun e w' => e = .returned (.bool r) ∧ Below w.heap.size w w' := by
 have hu84 := Try.underlying84
 have HB := Aside0.mk (Below.refl w.heap.size w)
 have H : ((impl_AggOk.f a0_0 a0_1 a0_2 a0_3 a0_4 a0_5).bind fun t232 => (some (!t232))) = some r := h
 clear h
 replace H := Option.bind_eq_some_iff.mp H
 obtain ⟨t232, A20, H⟩ := H
 replace H : (some (!t232)) = some r := H
 have A2 := Aside0.mk A20
 clear A20
 obtain rfl := Option.some.inj H
 go_enter Try.func125, Try.ntmps125
 go_wp2_with (first | ((with_reducible refine gate_dst (N := 1) rfl ?_); refine box_event ?hg (N := 1) ?hd (cs := #[.int .i64 a0_0, .int .i64 a0_1, .int .i64 a0_2, .int .i64 a0_3, .int .i64 a0_4, .int .i64 a0_5]) (t := 84) ?hr ?_; (case hd => rfl); (case hg => rfl); (case hr => first | (go_simp; done) | (go_simp; rfl)); intro gb231 hg w3 hbox hb; have n0_ := Aside0.mk (qn (by repeat (first | (with_reducible first | exact HB.out | apply qb | apply qa | apply qc) | exact HB.out)) hb); have n1_ := Aside0.mk (hbox); have n2_ := Aside0.mk ((by rw [hg]; exact (qj (by repeat (first | (with_reducible first | exact HB.out | apply qb | apply qa | apply qc) | exact HB.out))) : w.heap.size ≤ gb231)); have n3_ := Aside0.mk ((by rw [hg]; exact (qj (by repeat (first | (with_reducible first | exact HB.out | apply qb | apply qa | apply qc) | exact HB.out))) : w.heap.size ≤ gb231)); clear HB; have HB := n0_; have BK231 := n1_; have GW231 := n2_; have GE231 := n3_; clear n0_ n1_ n2_ n3_; clear hb hbox hg; have hcz4_0 : w3.cell? ⟨gb231, 0, none⟩ = some (.int .i64 a0_0) := (qe BK231.out 0).trans rfl; have hcz4_1 : w3.cell? ⟨gb231, 1, none⟩ = some (.int .i64 a0_1) := (qe BK231.out 1).trans rfl; have hcz4_2 : w3.cell? ⟨gb231, 2, none⟩ = some (.int .i64 a0_2) := (qe BK231.out 2).trans rfl; have hcz4_3 : w3.cell? ⟨gb231, 3, none⟩ = some (.int .i64 a0_3) := (qe BK231.out 3).trans rfl; have hcz4_4 : w3.cell? ⟨gb231, 4, none⟩ = some (.int .i64 a0_4) := (qe BK231.out 4).trans rfl; have hcz4_5 : w3.cell? ⟨gb231, 5, none⟩ = some (.int .i64 a0_5) := (qe BK231.out 5).trans rfl; have hfz4_0 := qd BK231.out 0; have hfz4_1 := qd BK231.out 1; have hfz4_2 := qd BK231.out 2; have hfz4_3 := qd BK231.out 3; have hfz4_4 := qd BK231.out 4; have hfz4_5 := qd BK231.out 5) | ((with_reducible refine qo (f := 126) rfl ?_); refine goesL_ (some 4) rfl rfl Try.func126 (by kernel_rfl) rfl #[.agg #[.int .i64 a0_0, .int .i64 a0_1, .int .i64 a0_2, .int .i64 a0_3, .int .i64 a0_4, .int .i64 a0_5]] rfl (by (try simp only [List.map_toArray, List.map_cons, List.map_nil]); first | done | rfl | (simp only [List.length_drop, List.length_take]; rfl)) ?_; (with_reducible refine (impl_AggOk.calls a0_0 a0_1 a0_2 a0_3 a0_4 a0_5 t232 _ A2.out).mono ?_); rintro e w5 ⟨rfl, hb⟩; refine ⟨_, rfl, ?_⟩; have n0_ := Aside0.mk (blk_below (g := gb231) (o := .cells #[.int .i64 a0_0, .int .i64 a0_1, .int .i64 a0_2, .int .i64 a0_3, .int .i64 a0_4, .int .i64 a0_5] 84 (0, 0)) (by (with_reducible repeat (first | refine qg ?_ _ | refine qi ?_ | refine qh ?_ _)); exact BK231.out) hb); have n1_ := Aside0.mk (qn (by repeat (first | (with_reducible first | exact HB.out | apply qb | apply qa | apply qc | refine qf ?_ GE231.out) | exact HB.out)) hb); clear BK231; clear HB; have BK231 := n0_; have HB := n1_; clear n0_ n1_; (try clear hb); (try clear hb2); (try clear hk); (try clear hi)))
 go_ret
 exact ⟨by first | rfl | (simp [errW_none, errW_some] <;> rfl) | (simp [*, errW_none, errW_some] <;> rfl), by repeat (first | (with_reducible first | exact HB.out | apply qb | apply qa | apply qc | refine qf ?_ GE231.out) | exact HB.out)⟩

/-! ### slices_IndexFunc_impl_Agg_impl_Agg_impl_areAggs_1: function 145 -/
def slices_IndexFunc_impl_Agg_impl_Agg_impl_areAggs_1.l0 : Nat → List (S84) → Int → Int → Option (Int)
 | 0, _, _, _ => none
 | k + 1, x0, x7, x8 => if x8 < x7 then (if 0 ≤ x8 then (if x8 < (x0.length : Int) then ((impl_areAggs_1.f ((rd_T84 x0 x8).f0) ((rd_T84 x0 x8).f1) ((rd_T84 x0 x8).f2) ((rd_T84 x0 x8).f3) ((rd_T84 x0 x8).f4) ((rd_T84 x0 x8).f5)).bind fun t234 => (if t234 = true then (some x8) else (slices_IndexFunc_impl_Agg_impl_Agg_impl_areAggs_1.l0 k x0 x7 (wrap64 (x8 + 1))))) else (none)) else (none)) else (some (-1))
def slices_IndexFunc_impl_Agg_impl_Agg_impl_areAggs_1.f (k : Nat) (l0 : List (S84)) (a1 : Unit) : Option (Int) := slices_IndexFunc_impl_Agg_impl_Agg_impl_areAggs_1.l0 k l0 (l0.length : Int) 0
theorem slices_IndexFunc_impl_Agg_impl_Agg_impl_areAggs_1.mono_l : ∀ k, (∀ y0 y1 y2, LeO (slices_IndexFunc_impl_Agg_impl_Agg_impl_areAggs_1.l0 k y0 y1 y2) (slices_IndexFunc_impl_Agg_impl_Agg_impl_areAggs_1.l0 (k + 1) y0 y1 y2))
 | 0 => fun _ _ _ r h => by simp [slices_IndexFunc_impl_Agg_impl_Agg_impl_areAggs_1.l0] at h
 | k + 1 => by
  have ih0 := slices_IndexFunc_impl_Agg_impl_Agg_impl_areAggs_1.mono_l k
  ·
   intro y0 y1 y2
   unfold slices_IndexFunc_impl_Agg_impl_Agg_impl_areAggs_1.l0
   repeat' first
   | (with_reducible exact ih0 _ _ _)
   | (with_reducible exact LeO.refl _)
   | (with_reducible exact LeO.none _)
   | (with_reducible refine LeO.ite ?_ ?_)
   | (with_reducible refine LeO.bind ?_ (fun _ => ?_))
   | exact ih0 _ _ _
   | exact LeO.none _
   | refine LeO.ite ?_ ?_
   | refine LeO.bind ?_ (fun _ => ?_)
theorem slices_IndexFunc_impl_Agg_impl_Agg_impl_areAggs_1.mono : ∀ a0 a1 k, LeO (slices_IndexFunc_impl_Agg_impl_Agg_impl_areAggs_1.f k a0 a1) (slices_IndexFunc_impl_Agg_impl_Agg_impl_areAggs_1.f (k + 1) a0 a1) := by
 intro a0 a1 k
 have ih0 := slices_IndexFunc_impl_Agg_impl_Agg_impl_areAggs_1.mono_l k
 unfold slices_IndexFunc_impl_Agg_impl_Agg_impl_areAggs_1.f
 repeat' first
   | (with_reducible exact ih0 _ _ _)
   | (with_reducible exact LeO.refl _)
   | (with_reducible exact LeO.none _)
   | (with_reducible refine LeO.ite ?_ ?_)
   | (with_reducible refine LeO.bind ?_ (fun _ => ?_))
   | exact ih0 _ _ _
   | exact LeO.none _
   | refine LeO.ite ?_ ?_
   | refine LeO.bind ?_ (fun _ => ?_)
set_option maxHeartbeats 8000000 in
set_option maxRecDepth 100000 in
theorem slices_IndexFunc_impl_Agg_impl_Agg_impl_areAggs_1.calls (k : Nat) (A0 : Option Addr) (c0 : Nat) (l0 : List (S84)) (a1 : Unit) (r : Int) (w : World) (hr0 : Kd.C k84 w A0 l0.length l0) (hc0 : l0.length ≤ c0) (h : slices_IndexFunc_impl_Agg_impl_Agg_impl_areAggs_1.f k l0 a1 = some r) :
  Calls Try.prog 145 #[.slice A0 l0.length c0, .func (.func 125) #[] #[]] w fun e w' => e = .returned (.int .i64 r) ∧ Below w.heap.size w w' := by
 have hu84 := Try.underlying84
 have HR0 := Aside0.mk hr0
 have HC0 := Aside0.mk hc0
 clear hr0 hc0
 have HB := Aside0.mk (Below.refl w.heap.size w)
 have H : (slices_IndexFunc_impl_Agg_impl_Agg_impl_areAggs_1.l0 k l0 (l0.length : Int) 0) = some r := h
 clear h
 have H' := Aside0.mk H
 clear H
 go_enter Try.func145, Try.ntmps145
 go_wp2
 go_loopg [8] k (fun kq v8 w' => ∃ (x8_1 : Int), v8 = .int .i64 x8_1 ∧ Aside0 (slices_IndexFunc_impl_Agg_impl_Agg_impl_areAggs_1.l0 kq l0 (l0.length : Int) x8_1 = some r) ∧ Aside0 (kq ≤ k) ∧ Aside0 (Below w.heap.size w w'))
 case atStart => exact ⟨(0), (by first | rfl | (simp; done) | (simp [*]; done)), H', ⟨Nat.le_refl _⟩, ⟨by repeat (first | (with_reducible first | exact HB.out | apply qb | apply qa | apply qc) | exact HB.out)⟩⟩
 case round =>
  clear H'
  try clear p2
  obtain ⟨x8_1, rfl, HA, HK1, HB⟩ := hrel
  cases gk with
  | zero => exact absurd HA.out (by simp [slices_IndexFunc_impl_Agg_impl_Agg_impl_areAggs_1.l0])
  | succ k1 =>
   have H := HA.out
   clear HA
   simp only [slices_IndexFunc_impl_Agg_impl_Agg_impl_areAggs_1.l0] at H
   by_cases c3 : x8_1 < (l0.length : Int)
   ·
    rw [if_pos c3] at H
    have c3b0 : decide (x8_1 < (l0.length : Int)) = true := decide_eq_true c3
    clear c3
    by_cases c4 : 0 ≤ x8_1
    ·
     rw [if_pos c4] at H
     have c4b0 : decide (0 ≤ x8_1) = true := decide_eq_true c4
     clear c4
     by_cases c5 : x8_1 < (l0.length : Int)
     ·
      rw [if_pos c5] at H
      have c5b0 : decide (x8_1 < (l0.length : Int)) = true := decide_eq_true c5
      clear c5
      replace H := Option.bind_eq_some_iff.mp H
      obtain ⟨t234, A60, H⟩ := H
      replace H : (if t234 = true then (some x8_1) else (slices_IndexFunc_impl_Agg_impl_Agg_impl_areAggs_1.l0 k1 l0 (l0.length : Int) (wrap64 (x8_1 + 1)))) = some r := H
      have A6 := Aside0.mk A60
      clear A60
      by_cases c7 : t234 = true
      ·
       subst c7
       have H1 : (some x8_1) = some r := by rw [if_pos rfl] at H; exact H
       clear H
       have H := H1
       clear H1
       obtain rfl := Option.some.inj H
       have p233 : 0 ≤ (x8_1 : Int) := of_decide_eq_true (by first | (with_reducible assumption) | assumption)
       have q233 : x8_1 < (l0.length : Int) := of_decide_eq_true (by first | (with_reducible assumption) | assumption)
       obtain ⟨ad233, e233, hx233_0, hx233_1, hx233_2, hx233_3, hx233_4, hx233_5⟩ := at_T84 HR0.out x8_1 p233 q233
       cases e233
       replace hx233_0 := (HB.out.cell (World.block_lt_of_cell? w _ hx233_0)).trans hx233_0
       replace hx233_1 := (HB.out.cell (World.block_lt_of_cell? w _ hx233_1)).trans hx233_1
       replace hx233_2 := (HB.out.cell (World.block_lt_of_cell? w _ hx233_2)).trans hx233_2
       replace hx233_3 := (HB.out.cell (World.block_lt_of_cell? w _ hx233_3)).trans hx233_3
       replace hx233_4 := (HB.out.cell (World.block_lt_of_cell? w _ hx233_4)).trans hx233_4
       replace hx233_5 := (HB.out.cell (World.block_lt_of_cell? w _ hx233_5)).trans hx233_5
       replace p233 := eq_true p233
       replace q233 := eq_true q233
       go_wp2_with (first | ((with_reducible refine gate_calleeV rfl ?_); refine goesLV_ (some 16) rfl rfl Try.func125 (by kernel_rfl) rfl #[.agg #[.int .i64 ((rd_T84 l0 x8_1).f0), .int .i64 ((rd_T84 l0 x8_1).f1), .int .i64 ((rd_T84 l0 x8_1).f2), .int .i64 ((rd_T84 l0 x8_1).f3), .int .i64 ((rd_T84 l0 x8_1).f4), .int .i64 ((rd_T84 l0 x8_1).f5)]] rfl (by (try simp only [List.map_toArray, List.map_cons, List.map_nil]); first | done | rfl | (simp only [List.length_drop, List.length_take]; rfl)) ?_; (with_reducible refine (impl_areAggs_1.calls ((rd_T84 l0 x8_1).f0) ((rd_T84 l0 x8_1).f1) ((rd_T84 l0 x8_1).f2) ((rd_T84 l0 x8_1).f3) ((rd_T84 l0 x8_1).f4) ((rd_T84 l0 x8_1).f5) true _ A6.out).mono ?_); rintro e w8 ⟨rfl, hb⟩; refine ⟨_, rfl, ?_⟩; have n0_ := Aside0.mk (qn (by repeat (first | (with_reducible first | exact HB.out | apply qb | apply qa | apply qc) | exact HB.out)) hb); clear HB; have HB := n0_; clear n0_; (try clear hb); (try clear hb2); (try clear hk); (try clear hi)))
       go_ret
       exact ⟨by first | rfl | (simp [errW_none, errW_some] <;> rfl) | (simp [*, errW_none, errW_some] <;> rfl), by repeat (first | (with_reducible first | exact HB.out | apply qb | apply qa | apply qc) | exact HB.out)⟩
      ·
       replace c7 := Bool.eq_false_iff.mpr c7
       subst c7
       have H1 : (slices_IndexFunc_impl_Agg_impl_Agg_impl_areAggs_1.l0 k1 l0 (l0.length : Int) (wrap64 (x8_1 + 1))) = some r := by rw [if_neg (show ¬ (false = true) by decide)] at H; exact H
       clear H
       have H := H1
       clear H1
       have H' := Aside0.mk H
       clear H
       have p233 : 0 ≤ (x8_1 : Int) := of_decide_eq_true (by first | (with_reducible assumption) | assumption)
       have q233 : x8_1 < (l0.length : Int) := of_decide_eq_true (by first | (with_reducible assumption) | assumption)
       obtain ⟨ad233, e233, hx233_0, hx233_1, hx233_2, hx233_3, hx233_4, hx233_5⟩ := at_T84 HR0.out x8_1 p233 q233
       cases e233
       replace hx233_0 := (HB.out.cell (World.block_lt_of_cell? w _ hx233_0)).trans hx233_0
       replace hx233_1 := (HB.out.cell (World.block_lt_of_cell? w _ hx233_1)).trans hx233_1
       replace hx233_2 := (HB.out.cell (World.block_lt_of_cell? w _ hx233_2)).trans hx233_2
       replace hx233_3 := (HB.out.cell (World.block_lt_of_cell? w _ hx233_3)).trans hx233_3
       replace hx233_4 := (HB.out.cell (World.block_lt_of_cell? w _ hx233_4)).trans hx233_4
       replace hx233_5 := (HB.out.cell (World.block_lt_of_cell? w _ hx233_5)).trans hx233_5
       replace p233 := eq_true p233
       replace q233 := eq_true q233
       go_wp2_with (first | ((with_reducible refine gate_calleeV rfl ?_); refine goesLV_ (some 16) rfl rfl Try.func125 (by kernel_rfl) rfl #[.agg #[.int .i64 ((rd_T84 l0 x8_1).f0), .int .i64 ((rd_T84 l0 x8_1).f1), .int .i64 ((rd_T84 l0 x8_1).f2), .int .i64 ((rd_T84 l0 x8_1).f3), .int .i64 ((rd_T84 l0 x8_1).f4), .int .i64 ((rd_T84 l0 x8_1).f5)]] rfl (by (try simp only [List.map_toArray, List.map_cons, List.map_nil]); first | done | rfl | (simp only [List.length_drop, List.length_take]; rfl)) ?_; (with_reducible refine (impl_areAggs_1.calls ((rd_T84 l0 x8_1).f0) ((rd_T84 l0 x8_1).f1) ((rd_T84 l0 x8_1).f2) ((rd_T84 l0 x8_1).f3) ((rd_T84 l0 x8_1).f4) ((rd_T84 l0 x8_1).f5) false _ A6.out).mono ?_); rintro e w9 ⟨rfl, hb⟩; refine ⟨_, rfl, ?_⟩; have n0_ := Aside0.mk (qn (by repeat (first | (with_reducible first | exact HB.out | apply qb | apply qa | apply qc) | exact HB.out)) hb); clear HB; have HB := n0_; clear n0_; (try clear hb); (try clear hb2); (try clear hk); (try clear hi)))
       go_roundg k1
       case measure => have := HK1.out; omega
       case rel => exact ⟨(wrap64 (x8_1 + 1)), (by first | rfl | (simp; done) | (simp [*]; done)), H', ⟨by have := HK1.out; omega⟩, ⟨by repeat (first | (with_reducible first | exact HB.out | apply qb | apply qa | apply qc) | exact HB.out)⟩⟩
     ·
      rw [if_neg c5] at H
      exact absurd H (by simp)
    ·
     rw [if_neg c4] at H
     exact absurd H (by simp)
   ·
    rw [if_neg c3] at H
    have c3b0 : decide (x8_1 < (l0.length : Int)) = false := decide_eq_false c3
    clear c3
    obtain rfl := Option.some.inj H
    go_wp2
    go_ret
    exact ⟨by first | rfl | (simp [errW_none, errW_some] <;> rfl) | (simp [*, errW_none, errW_some] <;> rfl), by repeat (first | (with_reducible first | exact HB.out | apply qb | apply qa | apply qc) | exact HB.out)⟩

/-! ### slices_ContainsFunc_impl_Agg_impl_Agg_impl_areAggs_1: function 124 -/
def slices_ContainsFunc_impl_Agg_impl_Agg_impl_areAggs_1.f (k : Nat) (l0 : List (S84)) (a1 : Unit) : Option (Bool) := (slices_IndexFunc_impl_Agg_impl_Agg_impl_areAggs_1.f k l0 a1).bind fun t235 => (some (decide (t235 ≥ 0)))
theorem slices_ContainsFunc_impl_Agg_impl_Agg_impl_areAggs_1.mono : ∀ a0 a1 k, LeO (slices_ContainsFunc_impl_Agg_impl_Agg_impl_areAggs_1.f k a0 a1) (slices_ContainsFunc_impl_Agg_impl_Agg_impl_areAggs_1.f (k + 1) a0 a1) := by
 intro a0 a1 k
 unfold slices_ContainsFunc_impl_Agg_impl_Agg_impl_areAggs_1.f
 repeat' first
   | (with_reducible exact slices_IndexFunc_impl_Agg_impl_Agg_impl_areAggs_1.mono _ _ _)
   | (with_reducible exact LeO.refl _)
   | (with_reducible exact LeO.none _)
   | (with_reducible refine LeO.ite ?_ ?_)
   | (with_reducible refine LeO.bind ?_ (fun _ => ?_))
   | exact slices_IndexFunc_impl_Agg_impl_Agg_impl_areAggs_1.mono _ _ _
   | exact LeO.none _
   | refine LeO.ite ?_ ?_
   | refine LeO.bind ?_ (fun _ => ?_)
set_option maxHeartbeats 8000000 in
set_option maxRecDepth 100000 in
theorem slices_ContainsFunc_impl_Agg_impl_Agg_impl_areAggs_1.calls (k : Nat) (A0 : Option Addr) (c0 : Nat) (l0 : List (S84)) (a1 : Unit) (r : Bool) (w : World) (hr0 : Kd.C k84 w A0 l0.length l0) (hc0 : l0.length ≤ c0) (h : slices_ContainsFunc_impl_Agg_impl_Agg_impl_areAggs_1.f k l0 a1 = some r) :
  Calls Try.prog 124 #[.slice A0 l0.length c0, .func (.func 125) #[] #[]] w fun e w' => e = .returned (.bool r) ∧ Below w.heap.size w w' := by
 have HR0 := Aside0.mk hr0
 have HC0 := Aside0.mk hc0
 clear hr0 hc0
 have HB := Aside0.mk (Below.refl w.heap.size w)
 have H : ((slices_IndexFunc_impl_Agg_impl_Agg_impl_areAggs_1.f k l0 a1).bind fun t235 => (some (decide (t235 ≥ 0)))) = some r := h
 clear h
 replace H := Option.bind_eq_some_iff.mp H
 obtain ⟨t235, A30, H⟩ := H
 replace H : (some (decide (t235 ≥ 0))) = some r := H
 have A3 := Aside0.mk A30
 clear A30
 obtain rfl := Option.some.inj H
 go_enter Try.func124, Try.ntmps124
 go_wp2_with (first | ((with_reducible refine qo (f := 145) rfl ?_); refine goesL_ (some 7) rfl rfl Try.func145 (by kernel_rfl) rfl #[.slice A0 l0.length c0, .func (.func 125) #[] #[]] rfl (by (try simp only [List.map_toArray, List.map_cons, List.map_nil]); first | done | rfl | (simp only [List.length_drop, List.length_take]; rfl)) ?_; (with_reducible refine (slices_IndexFunc_impl_Agg_impl_Agg_impl_areAggs_1.calls k _ _ l0 a1 t235 _ ?side1 ?side2 A3.out).mono ?_); (case side1 => repeat (first | exact HR0.out | (with_reducible refine Kd.C_alloc ?_ _) | (with_reducible refine Kd.C_drewN ?_ _) | (with_reducible refine Kd.C_drew ?_))); (case side2 => exact HC0.out); rintro e w4 ⟨rfl, hb⟩; refine ⟨_, rfl, ?_⟩; have n0_ := Aside0.mk (qn (by repeat (first | (with_reducible first | exact HB.out | apply qb | apply qa | apply qc) | exact HB.out)) hb); clear HB; have HB := n0_; clear n0_; (try clear hb); (try clear hb2); (try clear hk); (try clear hi)))
 go_ret
 exact ⟨by first | rfl | (simp [errW_none, errW_some] <;> rfl) | (simp [*, errW_none, errW_some] <;> rfl), by repeat (first | (with_reducible first | exact HB.out | apply qb | apply qa | apply qc) | exact HB.out)⟩

/-! ### impl_areAggs: function 104 -/
def impl_areAggs.f (k : Nat) (l0 : List (S84)) : Option (Bool) := (slices_ContainsFunc_impl_Agg_impl_Agg_impl_areAggs_1.f k l0 ()).bind fun t236 => (some (!t236))
theorem impl_areAggs.mono : ∀ a0 k, LeO (impl_areAggs.f k a0) (impl_areAggs.f (k + 1) a0) := by
 intro a0 k
 unfold impl_areAggs.f
 repeat' first
   | (with_reducible exact slices_ContainsFunc_impl_Agg_impl_Agg_impl_areAggs_1.mono _ _ _)
   | (with_reducible exact LeO.refl _)
   | (with_reducible exact LeO.none _)
   | (with_reducible refine LeO.ite ?_ ?_)
   | (with_reducible refine LeO.bind ?_ (fun _ => ?_))
   | exact slices_ContainsFunc_impl_Agg_impl_Agg_impl_areAggs_1.mono _ _ _
   | exact LeO.none _
   | refine LeO.ite ?_ ?_
   | refine LeO.bind ?_ (fun _ => ?_)
set_option maxHeartbeats 8000000 in
set_option maxRecDepth 100000 in
theorem impl_areAggs.calls (k : Nat) (A0 : Option Addr) (c0 : Nat) (l0 : List (S84)) (r : Bool) (w : World) (hr0 : Kd.C k84 w A0 l0.length l0) (hc0 : l0.length ≤ c0) (h : impl_areAggs.f k l0 = some r) :
  Calls Try.prog 104 #[.slice A0 l0.length c0] w fun e w' => e = .returned (.bool r) ∧ Below w.heap.size w w' := by
 have HR0 := Aside0.mk hr0
 have HC0 := Aside0.mk hc0
 clear hr0 hc0
 have HB := Aside0.mk (Below.refl w.heap.size w)
 have H : ((slices_ContainsFunc_impl_Agg_impl_Agg_impl_areAggs_1.f k l0 ()).bind fun t236 => (some (!t236))) = some r := h
 clear h
 replace H := Option.bind_eq_some_iff.mp H
 obtain ⟨t236, A20, H⟩ := H
 replace H : (some (!t236)) = some r := H
 have A2 := Aside0.mk A20
 clear A20
 obtain rfl := Option.some.inj H
 go_enter Try.func104, Try.ntmps104
 go_wp2_with (first | ((with_reducible refine qo (f := 124) rfl ?_); refine goesL_ (some 4) rfl rfl Try.func124 (by kernel_rfl) rfl #[.slice A0 l0.length c0, .func (.func 125) #[] #[]] rfl (by (try simp only [List.map_toArray, List.map_cons, List.map_nil]); first | done | rfl | (simp only [List.length_drop, List.length_take]; rfl)) ?_; (with_reducible refine (slices_ContainsFunc_impl_Agg_impl_Agg_impl_areAggs_1.calls k _ _ l0 () t236 _ ?side1 ?side2 A2.out).mono ?_); (case side1 => repeat (first | exact HR0.out | (with_reducible refine Kd.C_alloc ?_ _) | (with_reducible refine Kd.C_drewN ?_ _) | (with_reducible refine Kd.C_drew ?_))); (case side2 => exact HC0.out); rintro e w3 ⟨rfl, hb⟩; refine ⟨_, rfl, ?_⟩; have n0_ := Aside0.mk (qn (by repeat (first | (with_reducible first | exact HB.out | apply qb | apply qa | apply qc) | exact HB.out)) hb); clear HB; have HB := n0_; clear n0_; (try clear hb); (try clear hb2); (try clear hk); (try clear hi)))
 go_ret
 exact ⟨by first | rfl | (simp [errW_none, errW_some] <;> rfl) | (simp [*, errW_none, errW_some] <;> rfl), by repeat (first | (with_reducible first | exact HB.out | apply qb | apply qa | apply qc) | exact HB.out)⟩

end Go.Proofs.Ytengkenhmnpbeaa.PFnExactPutSave

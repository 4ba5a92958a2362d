-- Written by this session's program myprint.py over the kit's print and its own texts; Lean checks it.
-- made smaller: short names, half the indentation
import Derived.Test.YtengkenhmnpbeaaPFnExactPutSavex0
import Derived.Test.YtengkenhmnpbeaaPFnExactPutSavex1
import Derived.Test.YtengkenhmnpbeaaPFnExactPutSavex2
import Derived.Test.YtengkenhmnpbeaaPFnExactPutSavex5
import Derived.Test.YtengkenhmnpbeaaPFnExactPutSavex7
import Derived.Test.YtengkenhmnpbeaaPFnExactPutSavex8
namespace Go.Proofs.Ytengkenhmnpbeaa.PFnExactPutSave
open Go.RowKit Go.Proofs.YtengkenhmnpbeaaW.PrintWords Go.Proofs.YtengkenhmnpbeaaW.PrintLast Go.Proofs.YtengkenhmnpbeaaW.PrintMore
open Go.Proofs.YtengkenhmnpbeaaW.PrintWords renaming pw_below_drewN → qa, blk_cell → qb, below_set → qc, below_drew1 → qd, below_alloc → qe, blk_drewN → qi, blk_alloc → qj, blk_drew → qk, blk_frozen → ql, gate_callee → qp
open Go.Proofs.YtengkenhmnpbeaaW.PrintWords.Kd renaming R_alloc → qf, R_drewN → qg, R_drew → qh, C_alloc → qm, C_drewN → qn, C_drew → qo, R_mono → qq, R_below → qr, R_slice → qs, R_far → qt
attribute [local go_sem] max2_int min2_int max_two min_two max_three min_three max_four min_four   -- for this text's walks alone
set_option linter.unusedVariables false
set_option linter.unusedSimpArgs false

/-! ### laws_FnExactPutSave: function 6 -/
mutual
def laws_FnExactPutSave.j0 : Nat → List Int → Bool → List Int → Bool → Bool → Int → List (S116) → Int → Int → Int → Int → List (S84) → Int → Int → Int → Option (Bool)
 | 0, _, _, _, _, _, _, _, _, _, _, _, _, _, _, _ => none
 | k + 1, x4, x5, x7, x8, x40, x308000, x308001, x308002, x308003, x308004, x328000, x328001, x328002, x328003, x328004 => if x40 = true then (some false) else ((laws_toSave.f k x308000 x308001 x308002 x308003 x308004).bind fun bt333 => ((laws_eqSave.f k x328000 x328001 x328002 x328003 x328004 bt333.1 bt333.2.1 bt333.2.2.1 bt333.2.2.2.1 bt333.2.2.2.2).bind fun t340 => (if t340 = true then ((laws_markSave.f k x328000 x328001 x328002 x328003 x328004 1).bind fun bt341 => (if bt341.1 < 0 then (laws_FnExactPutSave.j1 k x4 x5 x7 true x308000 x308001 x308002 x308003 x308004) else ((laws_eqByteS.f k x7 x4).bind fun t343 => (if t343 = true then (laws_FnExactPutSave.j1 k x4 x5 x7 (x8 != x5) x308000 x308001 x308002 x308003 x308004) else (laws_FnExactPutSave.j1 k x4 x5 x7 true x308000 x308001 x308002 x308003 x308004))))) else (some false))))
def laws_FnExactPutSave.j1 : Nat → List Int → Bool → List Int → Bool → Int → List (S116) → Int → Int → Int → Option (Bool)
 | 0, _, _, _, _, _, _, _, _, _ => none
 | k + 1, x4, x5, x7, x61, x308000, x308001, x308002, x308003, x308004 => if x61 = true then (some false) else ((laws_markByteS.f k x7 1).bind fun bt344 => ((laws_heldByteS.f k bt344.2 1).bind fun t346 => (if t346 < 0 then (some false) else (if t346 = bt344.1 then ((laws_toSave.f k x308000 x308001 x308002 x308003 x308004).bind fun bt347 => ((impl_PutSave.f k bt347.1 bt347.2.1 bt347.2.2.1 bt347.2.2.2.1 bt347.2.2.2.2).bind fun bt354 => ((laws_eqByteS.f k bt354.1 x4).bind fun t358 => (if t358 = true then (laws_FnExactPutSave.j2 k bt344.2 bt344.1 (bt354.2 != x5)) else (laws_FnExactPutSave.j2 k bt344.2 bt344.1 true))))) else (some false)))))
def laws_FnExactPutSave.j2 : Nat → List Int → Int → Bool → Option (Bool)
 | 0, _, _, _ => none
 | k + 1, x7, x10, x87 => if x87 = true then (some false) else ((laws_heldByteS.f k x7 1).bind fun t359 => (if t359 < 0 then (some false) else (if t359 = x10 then (some true) else (some false))))
end
def laws_FnExactPutSave.f (k : Nat) (a0_0 : Int) (l0_1 : List (S116)) (a0_2 : Int) (a0_3 : Int) (a0_4 : Int) : Option (Bool) := (laws_szSave.f a0_0 l0_1 a0_2 a0_3 a0_4 1048576).bind fun t308 => (if t308 < 0 then (some true) else ((laws_toSave.f k a0_0 l0_1 a0_2 a0_3 a0_4).bind fun bt309 => ((spec_PutSave.f k bt309.1 bt309.2.1 bt309.2.2.1 bt309.2.2.2.1 bt309.2.2.2.2).bind fun bt316 => ((laws_toSave.f k a0_0 l0_1 a0_2 a0_3 a0_4).bind fun bt320 => ((impl_PutSave.f k bt320.1 bt320.2.1 bt320.2.2.1 bt320.2.2.2.1 bt320.2.2.2.2).bind fun bt328 => ((laws_eqByteS.f k bt328.1 bt316.1).bind fun t332 => (if t332 = true then (laws_FnExactPutSave.j0 k bt316.1 bt316.2 bt328.1 bt328.2 (bt328.2 != bt316.2) a0_0 l0_1 a0_2 a0_3 a0_4 bt320.1 bt320.2.1 bt320.2.2.1 bt320.2.2.2.1 bt320.2.2.2.2) else (laws_FnExactPutSave.j0 k bt316.1 bt316.2 bt328.1 bt328.2 true a0_0 l0_1 a0_2 a0_3 a0_4 bt320.1 bt320.2.1 bt320.2.2.1 bt320.2.2.2.1 bt320.2.2.2.2))))))))
theorem laws_FnExactPutSave.mono_l : ∀ k, (∀ y0 y1 y2 y3 y4 y5 y6 y7 y8 y9 y10 y11 y12 y13 y14, LeO (laws_FnExactPutSave.j0 k y0 y1 y2 y3 y4 y5 y6 y7 y8 y9 y10 y11 y12 y13 y14) (laws_FnExactPutSave.j0 (k + 1) y0 y1 y2 y3 y4 y5 y6 y7 y8 y9 y10 y11 y12 y13 y14)) ∧ (∀ y0 y1 y2 y3 y4 y5 y6 y7 y8, LeO (laws_FnExactPutSave.j1 k y0 y1 y2 y3 y4 y5 y6 y7 y8) (laws_FnExactPutSave.j1 (k + 1) y0 y1 y2 y3 y4 y5 y6 y7 y8)) ∧ (∀ y0 y1 y2, LeO (laws_FnExactPutSave.j2 k y0 y1 y2) (laws_FnExactPutSave.j2 (k + 1) y0 y1 y2))
 | 0 => ⟨fun _ _ _ _ _ _ _ _ _ _ _ _ _ _ _ r h => by simp [laws_FnExactPutSave.j0] at h, fun _ _ _ _ _ _ _ _ _ r h => by simp [laws_FnExactPutSave.j1] at h, fun _ _ _ r h => by simp [laws_FnExactPutSave.j2] at h⟩
 | k + 1 => by
  obtain ⟨ih0, ih1, ih2⟩ := laws_FnExactPutSave.mono_l k
  refine ⟨?_, ?_, ?_⟩
  ·
   intro y0 y1 y2 y3 y4 y5 y6 y7 y8 y9 y10 y11 y12 y13 y14
   unfold laws_FnExactPutSave.j0
   repeat' first
   | (with_reducible exact ih0 _ _ _ _ _ _ _ _ _ _ _ _ _ _ _)
   | (with_reducible exact ih1 _ _ _ _ _ _ _ _ _)
   | (with_reducible exact ih2 _ _ _)
   | (with_reducible exact impl_PutSave.mono _ _ _ _ _ _)
   | (with_reducible exact laws_eqByteS.mono _ _ _)
   | (with_reducible exact laws_eqSave.mono _ _ _ _ _ _ _ _ _ _ _)
   | (with_reducible exact laws_heldByteS.mono _ _ _)
   | (with_reducible exact laws_markByteS.mono _ _ _)
   | (with_reducible exact laws_markSave.mono _ _ _ _ _ _ _)
   | (with_reducible exact laws_toSave.mono _ _ _ _ _ _)
   | (with_reducible exact spec_PutSave.mono _ _ _ _ _ _)
   | (with_reducible exact LeO.refl _)
   | (with_reducible exact LeO.none _)
   | (with_reducible refine LeO.ite ?_ ?_)
   | (with_reducible refine LeO.bind ?_ (fun _ => ?_))
   | exact ih0 _ _ _ _ _ _ _ _ _ _ _ _ _ _ _
   | exact ih1 _ _ _ _ _ _ _ _ _
   | exact ih2 _ _ _
   | exact impl_PutSave.mono _ _ _ _ _ _
   | exact laws_eqByteS.mono _ _ _
   | exact laws_eqSave.mono _ _ _ _ _ _ _ _ _ _ _
   | exact laws_heldByteS.mono _ _ _
   | exact laws_markByteS.mono _ _ _
   | exact laws_markSave.mono _ _ _ _ _ _ _
   | exact laws_toSave.mono _ _ _ _ _ _
   | exact spec_PutSave.mono _ _ _ _ _ _
   | exact LeO.none _
   | refine LeO.ite ?_ ?_
   | refine LeO.bind ?_ (fun _ => ?_)
  ·
   intro y0 y1 y2 y3 y4 y5 y6 y7 y8
   unfold laws_FnExactPutSave.j1
   repeat' first
   | (with_reducible exact ih0 _ _ _ _ _ _ _ _ _ _ _ _ _ _ _)
   | (with_reducible exact ih1 _ _ _ _ _ _ _ _ _)
   | (with_reducible exact ih2 _ _ _)
   | (with_reducible exact impl_PutSave.mono _ _ _ _ _ _)
   | (with_reducible exact laws_eqByteS.mono _ _ _)
   | (with_reducible exact laws_eqSave.mono _ _ _ _ _ _ _ _ _ _ _)
   | (with_reducible exact laws_heldByteS.mono _ _ _)
   | (with_reducible exact laws_markByteS.mono _ _ _)
   | (with_reducible exact laws_markSave.mono _ _ _ _ _ _ _)
   | (with_reducible exact laws_toSave.mono _ _ _ _ _ _)
   | (with_reducible exact spec_PutSave.mono _ _ _ _ _ _)
   | (with_reducible exact LeO.refl _)
   | (with_reducible exact LeO.none _)
   | (with_reducible refine LeO.ite ?_ ?_)
   | (with_reducible refine LeO.bind ?_ (fun _ => ?_))
   | exact ih0 _ _ _ _ _ _ _ _ _ _ _ _ _ _ _
   | exact ih1 _ _ _ _ _ _ _ _ _
   | exact ih2 _ _ _
   | exact impl_PutSave.mono _ _ _ _ _ _
   | exact laws_eqByteS.mono _ _ _
   | exact laws_eqSave.mono _ _ _ _ _ _ _ _ _ _ _
   | exact laws_heldByteS.mono _ _ _
   | exact laws_markByteS.mono _ _ _
   | exact laws_markSave.mono _ _ _ _ _ _ _
   | exact laws_toSave.mono _ _ _ _ _ _
   | exact spec_PutSave.mono _ _ _ _ _ _
   | exact LeO.none _
   | refine LeO.ite ?_ ?_
   | refine LeO.bind ?_ (fun _ => ?_)
  ·
   intro y0 y1 y2
   unfold laws_FnExactPutSave.j2
   repeat' first
   | (with_reducible exact ih0 _ _ _ _ _ _ _ _ _ _ _ _ _ _ _)
   | (with_reducible exact ih1 _ _ _ _ _ _ _ _ _)
   | (with_reducible exact ih2 _ _ _)
   | (with_reducible exact impl_PutSave.mono _ _ _ _ _ _)
   | (with_reducible exact laws_eqByteS.mono _ _ _)
   | (with_reducible exact laws_eqSave.mono _ _ _ _ _ _ _ _ _ _ _)
   | (with_reducible exact laws_heldByteS.mono _ _ _)
   | (with_reducible exact laws_markByteS.mono _ _ _)
   | (with_reducible exact laws_markSave.mono _ _ _ _ _ _ _)
   | (with_reducible exact laws_toSave.mono _ _ _ _ _ _)
   | (with_reducible exact spec_PutSave.mono _ _ _ _ _ _)
   | (with_reducible exact LeO.refl _)
   | (with_reducible exact LeO.none _)
   | (with_reducible refine LeO.ite ?_ ?_)
   | (with_reducible refine LeO.bind ?_ (fun _ => ?_))
   | exact ih0 _ _ _ _ _ _ _ _ _ _ _ _ _ _ _
   | exact ih1 _ _ _ _ _ _ _ _ _
   | exact ih2 _ _ _
   | exact impl_PutSave.mono _ _ _ _ _ _
   | exact laws_eqByteS.mono _ _ _
   | exact laws_eqSave.mono _ _ _ _ _ _ _ _ _ _ _
   | exact laws_heldByteS.mono _ _ _
   | exact laws_markByteS.mono _ _ _
   | exact laws_markSave.mono _ _ _ _ _ _ _
   | exact laws_toSave.mono _ _ _ _ _ _
   | exact spec_PutSave.mono _ _ _ _ _ _
   | exact LeO.none _
   | refine LeO.ite ?_ ?_
   | refine LeO.bind ?_ (fun _ => ?_)
theorem laws_FnExactPutSave.mono : ∀ a0 a1 a2 a3 a4 k, LeO (laws_FnExactPutSave.f k a0 a1 a2 a3 a4) (laws_FnExactPutSave.f (k + 1) a0 a1 a2 a3 a4) := by
 intro a0 a1 a2 a3 a4 k
 obtain ⟨ih0, ih1, ih2⟩ := laws_FnExactPutSave.mono_l k
 unfold laws_FnExactPutSave.f
 repeat' first
   | (with_reducible exact ih0 _ _ _ _ _ _ _ _ _ _ _ _ _ _ _)
   | (with_reducible exact ih1 _ _ _ _ _ _ _ _ _)
   | (with_reducible exact ih2 _ _ _)
   | (with_reducible exact impl_PutSave.mono _ _ _ _ _ _)
   | (with_reducible exact laws_eqByteS.mono _ _ _)
   | (with_reducible exact laws_eqSave.mono _ _ _ _ _ _ _ _ _ _ _)
   | (with_reducible exact laws_heldByteS.mono _ _ _)
   | (with_reducible exact laws_markByteS.mono _ _ _)
   | (with_reducible exact laws_markSave.mono _ _ _ _ _ _ _)
   | (with_reducible exact laws_toSave.mono _ _ _ _ _ _)
   | (with_reducible exact spec_PutSave.mono _ _ _ _ _ _)
   | (with_reducible exact LeO.refl _)
   | (with_reducible exact LeO.none _)
   | (with_reducible refine LeO.ite ?_ ?_)
   | (with_reducible refine LeO.bind ?_ (fun _ => ?_))
   | exact ih0 _ _ _ _ _ _ _ _ _ _ _ _ _ _ _
   | exact ih1 _ _ _ _ _ _ _ _ _
   | exact ih2 _ _ _
   | exact impl_PutSave.mono _ _ _ _ _ _
   | exact laws_eqByteS.mono _ _ _
   | exact laws_eqSave.mono _ _ _ _ _ _ _ _ _ _ _
   | exact laws_heldByteS.mono _ _ _
   | exact laws_markByteS.mono _ _ _
   | exact laws_markSave.mono _ _ _ _ _ _ _
   | exact laws_toSave.mono _ _ _ _ _ _
   | exact spec_PutSave.mono _ _ _ _ _ _
   | exact LeO.none _
   | refine LeO.ite ?_ ?_
   | refine LeO.bind ?_ (fun _ => ?_)
set_option maxHeartbeats 8000000 in
set_option maxRecDepth 100000 in
theorem laws_FnExactPutSave.calls (k : Nat) (a0_0 : Int) (A0_1 : Option Addr) (c0_1 : Nat) (l0_1 : List (S116)) (a0_2 : Int) (a0_3 : Int) (a0_4 : Int) (r : Bool) (w : World) (hr0_1 : Kd.C k116 w A0_1 l0_1.length l0_1) (hc0_1 : l0_1.length ≤ c0_1) (h : laws_FnExactPutSave.f k a0_0 l0_1 a0_2 a0_3 a0_4 = some r) :
  Calls Try.prog 6 #[.agg #[.int .i64 a0_0, .slice A0_1 l0_1.length c0_1, .int .i64 a0_2, .int .i64 a0_3, .int .i64 a0_4]] w fun e w' => e = .returned (.bool r) ∧ Below w.heap.size w w' := by
 have hu33 := Try.underlying33
 have hu37 := Try.underlying37
 have HR0_1 := Aside0.mk hr0_1
 have HC0_1 := Aside0.mk hc0_1
 clear hr0_1 hc0_1
 have HB := Aside0.mk (Below.refl w.heap.size w)
 have H : ((laws_szSave.f a0_0 l0_1 a0_2 a0_3 a0_4 1048576).bind fun t308 => (if t308 < 0 then (some true) else ((laws_toSave.f k a0_0 l0_1 a0_2 a0_3 a0_4).bind fun bt309 => ((spec_PutSave.f k bt309.1 bt309.2.1 bt309.2.2.1 bt309.2.2.2.1 bt309.2.2.2.2).bind fun bt316 => ((laws_toSave.f k a0_0 l0_1 a0_2 a0_3 a0_4).bind fun bt320 => ((impl_PutSave.f k bt320.1 bt320.2.1 bt320.2.2.1 bt320.2.2.2.1 bt320.2.2.2.2).bind fun bt328 => ((laws_eqByteS.f k bt328.1 bt316.1).bind fun t332 => (if t332 = true then (laws_FnExactPutSave.j0 k bt316.1 bt316.2 bt328.1 bt328.2 (bt328.2 != bt316.2) a0_0 l0_1 a0_2 a0_3 a0_4 bt320.1 bt320.2.1 bt320.2.2.1 bt320.2.2.2.1 bt320.2.2.2.2) else (laws_FnExactPutSave.j0 k bt316.1 bt316.2 bt328.1 bt328.2 true a0_0 l0_1 a0_2 a0_3 a0_4 bt320.1 bt320.2.1 bt320.2.2.1 bt320.2.2.2.1 bt320.2.2.2.2))))))))) = some r := h
 clear h
 replace H := Option.bind_eq_some_iff.mp H
 obtain ⟨t308, A20, H⟩ := H
 replace H : (if t308 < 0 then (some true) else ((laws_toSave.f k a0_0 l0_1 a0_2 a0_3 a0_4).bind fun bt309 => ((spec_PutSave.f k bt309.1 bt309.2.1 bt309.2.2.1 bt309.2.2.2.1 bt309.2.2.2.2).bind fun bt316 => ((laws_toSave.f k a0_0 l0_1 a0_2 a0_3 a0_4).bind fun bt320 => ((impl_PutSave.f k bt320.1 bt320.2.1 bt320.2.2.1 bt320.2.2.2.1 bt320.2.2.2.2).bind fun bt328 => ((laws_eqByteS.f k bt328.1 bt316.1).bind fun t332 => (if t332 = true then (laws_FnExactPutSave.j0 k bt316.1 bt316.2 bt328.1 bt328.2 (bt328.2 != bt316.2) a0_0 l0_1 a0_2 a0_3 a0_4 bt320.1 bt320.2.1 bt320.2.2.1 bt320.2.2.2.1 bt320.2.2.2.2) else (laws_FnExactPutSave.j0 k bt316.1 bt316.2 bt328.1 bt328.2 true a0_0 l0_1 a0_2 a0_3 a0_4 bt320.1 bt320.2.1 bt320.2.2.1 bt320.2.2.2.1 bt320.2.2.2.2)))))))) = some r := H
 have A2 := Aside0.mk A20
 clear A20
 by_cases c3 : t308 < 0
 ·
  rw [if_pos c3] at H
  have c3b0 : decide (t308 < 0) = true := decide_eq_true c3
  clear c3
  obtain rfl := Option.some.inj H
  go_enter Try.func6, Try.ntmps6
  go_wp2_with (first | ((with_reducible refine gate_dst (N := 1) rfl ?_); refine box_event ?hg (N := 1) ?hd (cs := #[.int .i64 a0_0, .slice A0_1 l0_1.length c0_1, .int .i64 a0_2, .int .i64 a0_3, .int .i64 a0_4]) (t := 33) ?hr ?_; (case hd => rfl); (case hg => rfl); (case hr => first | (go_simp; done) | (go_simp; rfl)); intro gb307 hg w4 hbox hb; have n0_ := Aside0.mk (below_step (by repeat (first | (with_reducible first | exact HB.out | apply qe | apply qa | apply qd) | exact HB.out)) hb); have n1_ := Aside0.mk (hbox); have n2_ := Aside0.mk ((by rw [hg]; exact (below_size (by repeat (first | (with_reducible first | exact HB.out | apply qe | apply qa | apply qd) | exact HB.out))) : w.heap.size ≤ gb307)); have n3_ := Aside0.mk ((by rw [hg]; exact (below_size (by repeat (first | (with_reducible first | exact HB.out | apply qe | apply qa | apply qd) | exact HB.out))) : w.heap.size ≤ gb307)); clear HB; have HB := n0_; have BK307 := n1_; have GW307 := n2_; have GE307 := n3_; clear n0_ n1_ n2_ n3_; clear hb hbox hg; have hcz5_0 : w4.cell? ⟨gb307, 0, none⟩ = some (.int .i64 a0_0) := (qb BK307.out 0).trans rfl; have hcz5_1 : w4.cell? ⟨gb307, 1, none⟩ = some (.slice A0_1 l0_1.length c0_1) := (qb BK307.out 1).trans rfl; have hcz5_2 : w4.cell? ⟨gb307, 2, none⟩ = some (.int .i64 a0_2) := (qb BK307.out 2).trans rfl; have hcz5_3 : w4.cell? ⟨gb307, 3, none⟩ = some (.int .i64 a0_3) := (qb BK307.out 3).trans rfl; have hcz5_4 : w4.cell? ⟨gb307, 4, none⟩ = some (.int .i64 a0_4) := (qb BK307.out 4).trans rfl; have hfz5_0 := ql BK307.out 0; have hfz5_1 := ql BK307.out 1; have hfz5_2 := ql BK307.out 2; have hfz5_3 := ql BK307.out 3; have hfz5_4 := ql BK307.out 4) | ((with_reducible refine qp (f := 20) rfl ?_); refine goesL_ (some 16) rfl rfl Try.func20 (by kernel_rfl) rfl #[.agg #[.int .i64 a0_0, .slice A0_1 l0_1.length c0_1, .int .i64 a0_2, .int .i64 a0_3, .int .i64 a0_4], .int .i64 1048576] rfl (by (try simp only [List.map_toArray, List.map_cons, List.map_nil]); first | done | rfl | (simp only [List.length_drop, List.length_take]; rfl)) ?_; (with_reducible refine (laws_szSave.calls a0_0 _ _ l0_1 a0_2 a0_3 a0_4 1048576 t308 _ ?side1 ?side2 A2.out).mono ?_); (case side1 => repeat (first | exact (Kd.C_below HR0_1.out HB.out) | (with_reducible refine qm ?_ _) | (with_reducible refine qn ?_ _) | (with_reducible refine qo ?_))); (case side2 => exact HC0_1.out); rintro e w6 ⟨rfl, hb⟩; refine ⟨_, rfl, ?_⟩; have n0_ := Aside0.mk (blk_below (g := gb307) (o := .cells #[.int .i64 a0_0, .slice A0_1 l0_1.length c0_1, .int .i64 a0_2, .int .i64 a0_3, .int .i64 a0_4] 33 (0, 0)) (by (with_reducible repeat (first | refine qi ?_ _ | refine qk ?_ | refine qj ?_ _)); exact BK307.out) hb); have n1_ := Aside0.mk (below_step (by repeat (first | (with_reducible first | exact HB.out | apply qe | apply qa | apply qd | refine qc ?_ GE307.out) | exact HB.out)) hb); clear BK307; clear HB; have BK307 := n0_; have HB := n1_; clear n0_ n1_; (try clear hb); (try clear hb2); (try clear hk); (try clear hi)))
  go_ret
  exact ⟨by first | rfl | (simp [errW_none, errW_some] <;> rfl) | (simp [*, errW_none, errW_some] <;> rfl), by repeat (first | (with_reducible first | exact HB.out | apply qe | apply qa | apply qd | refine qc ?_ GE307.out) | exact HB.out)⟩
 ·
  rw [if_neg c3] at H
  have c3b0 : decide (t308 < 0) = false := decide_eq_false c3
  clear c3
  replace H := Option.bind_eq_some_iff.mp H
  obtain ⟨⟨t309, t310, t313, t314, t315⟩, A70, H⟩ := H
  replace H : ((spec_PutSave.f k t309 t310 t313 t314 t315).bind fun bt316 => ((laws_toSave.f k a0_0 l0_1 a0_2 a0_3 a0_4).bind fun bt320 => ((impl_PutSave.f k bt320.1 bt320.2.1 bt320.2.2.1 bt320.2.2.2.1 bt320.2.2.2.2).bind fun bt328 => ((laws_eqByteS.f k bt328.1 bt316.1).bind fun t332 => (if t332 = true then (laws_FnExactPutSave.j0 k bt316.1 bt316.2 bt328.1 bt328.2 (bt328.2 != bt316.2) a0_0 l0_1 a0_2 a0_3 a0_4 bt320.1 bt320.2.1 bt320.2.2.1 bt320.2.2.2.1 bt320.2.2.2.2) else (laws_FnExactPutSave.j0 k bt316.1 bt316.2 bt328.1 bt328.2 true a0_0 l0_1 a0_2 a0_3 a0_4 bt320.1 bt320.2.1 bt320.2.2.1 bt320.2.2.2.1 bt320.2.2.2.2)))))) = some r := H
  have A7 := Aside0.mk A70
  clear A70
  replace H := Option.bind_eq_some_iff.mp H
  obtain ⟨⟨t316, t319⟩, A80, H⟩ := H
  replace H : ((laws_toSave.f k a0_0 l0_1 a0_2 a0_3 a0_4).bind fun bt320 => ((impl_PutSave.f k bt320.1 bt320.2.1 bt320.2.2.1 bt320.2.2.2.1 bt320.2.2.2.2).bind fun bt328 => ((laws_eqByteS.f k bt328.1 t316).bind fun t332 => (if t332 = true then (laws_FnExactPutSave.j0 k t316 t319 bt328.1 bt328.2 (bt328.2 != t319) a0_0 l0_1 a0_2 a0_3 a0_4 bt320.1 bt320.2.1 bt320.2.2.1 bt320.2.2.2.1 bt320.2.2.2.2) else (laws_FnExactPutSave.j0 k t316 t319 bt328.1 bt328.2 true a0_0 l0_1 a0_2 a0_3 a0_4 bt320.1 bt320.2.1 bt320.2.2.1 bt320.2.2.2.1 bt320.2.2.2.2))))) = some r := H
  have A8 := Aside0.mk A80
  clear A80
  replace H := Option.bind_eq_some_iff.mp H
  obtain ⟨⟨t320, t321, t324, t325, t326⟩, A90, H⟩ := H
  replace H : ((impl_PutSave.f k t320 t321 t324 t325 t326).bind fun bt328 => ((laws_eqByteS.f k bt328.1 t316).bind fun t332 => (if t332 = true then (laws_FnExactPutSave.j0 k t316 t319 bt328.1 bt328.2 (bt328.2 != t319) a0_0 l0_1 a0_2 a0_3 a0_4 t320 t321 t324 t325 t326) else (laws_FnExactPutSave.j0 k t316 t319 bt328.1 bt328.2 true a0_0 l0_1 a0_2 a0_3 a0_4 t320 t321 t324 t325 t326)))) = some r := H
  have A9 := Aside0.mk A90
  clear A90
  replace H := Option.bind_eq_some_iff.mp H
  obtain ⟨⟨t328, t331⟩, A100, H⟩ := H
  replace H : ((laws_eqByteS.f k t328 t316).bind fun t332 => (if t332 = true then (laws_FnExactPutSave.j0 k t316 t319 t328 t331 (t331 != t319) a0_0 l0_1 a0_2 a0_3 a0_4 t320 t321 t324 t325 t326) else (laws_FnExactPutSave.j0 k t316 t319 t328 t331 true a0_0 l0_1 a0_2 a0_3 a0_4 t320 t321 t324 t325 t326))) = some r := H
  have A10 := Aside0.mk A100
  clear A100
  have HC11 := Aside0.mk H
  clear H
  go_enter Try.func6, Try.ntmps6
  go_upto_region 8 with (first | ((with_reducible refine gate_dst (N := 1) rfl ?_); refine box_event ?hg (N := 1) ?hd (cs := #[.int .i64 a0_0, .slice A0_1 l0_1.length c0_1, .int .i64 a0_2, .int .i64 a0_3, .int .i64 a0_4]) (t := 33) ?hr ?_; (case hd => rfl); (case hg => rfl); (case hr => first | (go_simp; done) | (go_simp; rfl)); intro gb307 hg w12 hbox hb; have n0_ := Aside0.mk (below_step (by repeat (first | (with_reducible first | exact HB.out | apply qe | apply qa | apply qd) | exact HB.out)) hb); have n1_ := Aside0.mk (hbox); have n2_ := Aside0.mk ((by rw [hg]; exact (below_size (by repeat (first | (with_reducible first | exact HB.out | apply qe | apply qa | apply qd) | exact HB.out))) : w.heap.size ≤ gb307)); have n3_ := Aside0.mk ((by rw [hg]; exact (below_size (by repeat (first | (with_reducible first | exact HB.out | apply qe | apply qa | apply qd) | exact HB.out))) : w.heap.size ≤ gb307)); clear HB; have HB := n0_; have BK307 := n1_; have GW307 := n2_; have GE307 := n3_; clear n0_ n1_ n2_ n3_; clear hb hbox hg; have hcz13_0 : w12.cell? ⟨gb307, 0, none⟩ = some (.int .i64 a0_0) := (qb BK307.out 0).trans rfl; have hcz13_1 : w12.cell? ⟨gb307, 1, none⟩ = some (.slice A0_1 l0_1.length c0_1) := (qb BK307.out 1).trans rfl; have hcz13_2 : w12.cell? ⟨gb307, 2, none⟩ = some (.int .i64 a0_2) := (qb BK307.out 2).trans rfl; have hcz13_3 : w12.cell? ⟨gb307, 3, none⟩ = some (.int .i64 a0_3) := (qb BK307.out 3).trans rfl; have hcz13_4 : w12.cell? ⟨gb307, 4, none⟩ = some (.int .i64 a0_4) := (qb BK307.out 4).trans rfl; have hfz13_0 := ql BK307.out 0; have hfz13_1 := ql BK307.out 1; have hfz13_2 := ql BK307.out 2; have hfz13_3 := ql BK307.out 3; have hfz13_4 := ql BK307.out 4) | ((with_reducible refine qp (f := 20) rfl ?_); refine goesL_ (some 16) rfl rfl Try.func20 (by kernel_rfl) rfl #[.agg #[.int .i64 a0_0, .slice A0_1 l0_1.length c0_1, .int .i64 a0_2, .int .i64 a0_3, .int .i64 a0_4], .int .i64 1048576] rfl (by (try simp only [List.map_toArray, List.map_cons, List.map_nil]); first | done | rfl | (simp only [List.length_drop, List.length_take]; rfl)) ?_; (with_reducible refine (laws_szSave.calls a0_0 _ _ l0_1 a0_2 a0_3 a0_4 1048576 t308 _ ?side1 ?side2 A2.out).mono ?_); (case side1 => repeat (first | exact (Kd.C_below HR0_1.out HB.out) | (with_reducible refine qm ?_ _) | (with_reducible refine qn ?_ _) | (with_reducible refine qo ?_))); (case side2 => exact HC0_1.out); rintro e w14 ⟨rfl, hb⟩; refine ⟨_, rfl, ?_⟩; have n0_ := Aside0.mk (blk_below (g := gb307) (o := .cells #[.int .i64 a0_0, .slice A0_1 l0_1.length c0_1, .int .i64 a0_2, .int .i64 a0_3, .int .i64 a0_4] 33 (0, 0)) (by (with_reducible repeat (first | refine qi ?_ _ | refine qk ?_ | refine qj ?_ _)); exact BK307.out) hb); have n1_ := Aside0.mk (below_step (by repeat (first | (with_reducible first | exact HB.out | apply qe | apply qa | apply qd | refine qc ?_ GE307.out) | exact HB.out)) hb); clear BK307; clear HB; have BK307 := n0_; have HB := n1_; clear n0_ n1_; (try clear hb); (try clear hb2); (try clear hk); (try clear hi); have hcz15_0 : w14.cell? ⟨gb307, 0, none⟩ = some (.int .i64 a0_0) := (qb BK307.out 0).trans rfl; have hcz15_1 : w14.cell? ⟨gb307, 1, none⟩ = some (.slice A0_1 l0_1.length c0_1) := (qb BK307.out 1).trans rfl; have hcz15_2 : w14.cell? ⟨gb307, 2, none⟩ = some (.int .i64 a0_2) := (qb BK307.out 2).trans rfl; have hcz15_3 : w14.cell? ⟨gb307, 3, none⟩ = some (.int .i64 a0_3) := (qb BK307.out 3).trans rfl; have hcz15_4 : w14.cell? ⟨gb307, 4, none⟩ = some (.int .i64 a0_4) := (qb BK307.out 4).trans rfl; have hfz15_0 := ql BK307.out 0; have hfz15_1 := ql BK307.out 1; have hfz15_2 := ql BK307.out 2; have hfz15_3 := ql BK307.out 3; have hfz15_4 := ql BK307.out 4) | ((with_reducible refine qp (f := 22) rfl ?_); refine goesL_ (some 21) rfl rfl Try.func22 (by kernel_rfl) rfl #[.agg #[.int .i64 a0_0, .slice A0_1 l0_1.length c0_1, .int .i64 a0_2, .int .i64 a0_3, .int .i64 a0_4]] rfl (by (try simp only [List.map_toArray, List.map_cons, List.map_nil]); first | done | rfl | (simp only [List.length_drop, List.length_take]; rfl)) ?_; (with_reducible refine (laws_toSave.calls k a0_0 _ _ l0_1 a0_2 a0_3 a0_4 t309 t310 t313 t314 t315 _ ?side1 ?side2 A7.out).mono ?_); (case side1 => repeat (first | exact (Kd.C_below HR0_1.out HB.out) | (with_reducible refine qm ?_ _) | (with_reducible refine qn ?_ _) | (with_reducible refine qo ?_))); (case side2 => exact HC0_1.out); rintro e w16 ⟨v311, rfl, ho0, hb⟩; refine ⟨_, rfl, ?_⟩; have n0_ := Aside0.mk (Kd.R_lower ho0 (below_size (by repeat (first | (with_reducible first | exact HB.out | apply qe | apply qa | apply qd | refine qc ?_ GE307.out) | exact HB.out)))); have n1_ := Aside0.mk (blk_below (g := gb307) (o := .cells #[.int .i64 a0_0, .slice A0_1 l0_1.length c0_1, .int .i64 a0_2, .int .i64 a0_3, .int .i64 a0_4] 33 (0, 0)) (by (with_reducible repeat (first | refine qi ?_ _ | refine qk ?_ | refine qj ?_ _)); exact BK307.out) hb); have n2_ := Aside0.mk (below_step (by repeat (first | (with_reducible first | exact HB.out | apply qe | apply qa | apply qd | refine qc ?_ GE307.out) | exact HB.out)) hb); clear BK307; clear HB; have HO312 := n0_; have BK307 := n1_; have HB := n2_; clear n0_ n1_ n2_; (try clear hb); (try clear hb2); (try clear hk); (try clear hi); (try clear ho0); obtain ⟨Ao17, co17, eo17⟩ := qs HO312.out; subst eo17) | ((with_reducible refine qp (f := 32) rfl ?_); refine goesL_ (some 22) rfl rfl Try.func32 (by kernel_rfl) rfl #[.agg #[.int .i64 t309, .slice Ao17 t310.length co17, .int .i64 t313, .int .i64 t314, .int .i64 t315]] rfl (by (try simp only [List.map_toArray, List.map_cons, List.map_nil]); first | done | rfl | (simp only [List.length_drop, List.length_take]; rfl)) ?_; (with_reducible refine (spec_PutSave.calls k t309 _ _ t310 t313 t314 t315 t316 t319 _ ?side1 ?side2 A8.out).mono ?_); (case side1 => repeat (first | exact (Kd.R_reads' HO312.out).2.2 | (with_reducible refine qm ?_ _) | (with_reducible refine qn ?_ _) | (with_reducible refine qo ?_))); (case side2 => exact (Kd.R_reads' HO312.out).2.1); rintro e w18 ⟨v317, rfl, ho0, hb⟩; refine ⟨_, rfl, ?_⟩; have n0_ := Aside0.mk (qr (by (with_reducible repeat (first | apply qf | apply qg | apply qh)); exact HO312.out) hb); have n1_ := Aside0.mk (Kd.R_lower ho0 (below_size (by repeat (first | (with_reducible first | exact HB.out | apply qe | apply qa | apply qd | refine qc ?_ GE307.out) | exact HB.out)))); have n2_ := Aside0.mk (blk_below (g := gb307) (o := .cells #[.int .i64 a0_0, .slice A0_1 l0_1.length c0_1, .int .i64 a0_2, .int .i64 a0_3, .int .i64 a0_4] 33 (0, 0)) (by (with_reducible repeat (first | refine qi ?_ _ | refine qk ?_ | refine qj ?_ _)); exact BK307.out) hb); have n3_ := Aside0.mk (below_step (by repeat (first | (with_reducible first | exact HB.out | apply qe | apply qa | apply qd | refine qc ?_ GE307.out) | exact HB.out)) hb); clear HO312; clear BK307; clear HB; have HO312 := n0_; have HO318 := n1_; have BK307 := n2_; have HB := n3_; clear n0_ n1_ n2_ n3_; (try clear hb); (try clear hb2); (try clear hk); (try clear hi); (try clear ho0); have hcz19_0 : w18.cell? ⟨gb307, 0, none⟩ = some (.int .i64 a0_0) := (qb BK307.out 0).trans rfl; have hcz19_1 : w18.cell? ⟨gb307, 1, none⟩ = some (.slice A0_1 l0_1.length c0_1) := (qb BK307.out 1).trans rfl; have hcz19_2 : w18.cell? ⟨gb307, 2, none⟩ = some (.int .i64 a0_2) := (qb BK307.out 2).trans rfl; have hcz19_3 : w18.cell? ⟨gb307, 3, none⟩ = some (.int .i64 a0_3) := (qb BK307.out 3).trans rfl; have hcz19_4 : w18.cell? ⟨gb307, 4, none⟩ = some (.int .i64 a0_4) := (qb BK307.out 4).trans rfl; have hfz19_0 := ql BK307.out 0; have hfz19_1 := ql BK307.out 1; have hfz19_2 := ql BK307.out 2; have hfz19_3 := ql BK307.out 3; have hfz19_4 := ql BK307.out 4) | ((with_reducible refine qp (f := 22) rfl ?_); refine goesL_ (some 26) rfl rfl Try.func22 (by kernel_rfl) rfl #[.agg #[.int .i64 a0_0, .slice A0_1 l0_1.length c0_1, .int .i64 a0_2, .int .i64 a0_3, .int .i64 a0_4]] rfl (by (try simp only [List.map_toArray, List.map_cons, List.map_nil]); first | done | rfl | (simp only [List.length_drop, List.length_take]; rfl)) ?_; (with_reducible refine (laws_toSave.calls k a0_0 _ _ l0_1 a0_2 a0_3 a0_4 t320 t321 t324 t325 t326 _ ?side1 ?side2 A9.out).mono ?_); (case side1 => repeat (first | exact (Kd.C_below HR0_1.out HB.out) | (with_reducible refine qm ?_ _) | (with_reducible refine qn ?_ _) | (with_reducible refine qo ?_))); (case side2 => exact HC0_1.out); rintro e w20 ⟨v322, rfl, ho0, hb⟩; refine ⟨_, rfl, ?_⟩; have n0_ := Aside0.mk (Kd.R_elder' (by (with_reducible repeat (first | apply qf | apply qg | apply qh)); exact HO312.out) (Kd.R_base ho0) hb); have n1_ := Aside0.mk (qr (by (with_reducible repeat (first | apply qf | apply qg | apply qh)); exact HO318.out) hb); have n2_ := Aside0.mk (Kd.R_lower (Kd.R_new' ho0 (Kd.R_lt (by (with_reducible repeat (first | apply qf | apply qg | apply qh)); exact HO312.out))) (below_size (by repeat (first | (with_reducible first | exact HB.out | apply qe | apply qa | apply qd | refine qc ?_ GE307.out) | exact HB.out)))); have n3_ := Aside0.mk (blk_below (g := gb307) (o := .cells #[.int .i64 a0_0, .slice A0_1 l0_1.length c0_1, .int .i64 a0_2, .int .i64 a0_3, .int .i64 a0_4] 33 (0, 0)) (by (with_reducible repeat (first | refine qi ?_ _ | refine qk ?_ | refine qj ?_ _)); exact BK307.out) hb); have n4_ := Aside0.mk (below_step (by repeat (first | (with_reducible first | exact HB.out | apply qe | apply qa | apply qd | refine qc ?_ GE307.out) | exact HB.out)) hb); clear HO312; clear HO318; clear BK307; clear HB; have HO312 := n0_; have HO318 := n1_; have HO323 := n2_; have BK307 := n3_; have HB := n4_; clear n0_ n1_ n2_ n3_ n4_; (try clear hb); (try clear hb2); (try clear hk); (try clear hi); (try clear ho0)) | ((with_reducible refine gate_dst (N := 6) rfl ?_); refine box_event ?hg (N := 6) ?hd (cs := #[.int .i64 0, .slice none 0 0, .int .i64 0, .int .i64 0, .int .i64 0]) (t := 37) ?hr ?_; (case hd => rfl); (case hg => rfl); (case hr => first | (go_simp; done) | (go_simp; rfl)); intro gb327 hg w21 hbox hb; have n0_ := Aside0.mk (qr (by (with_reducible repeat (first | apply qf | apply qg | apply qh)); exact HO312.out) hb); have n1_ := Aside0.mk (qr (by (with_reducible repeat (first | apply qf | apply qg | apply qh)); exact HO318.out) hb); have n2_ := Aside0.mk (qr (by (with_reducible repeat (first | apply qf | apply qg | apply qh)); exact HO323.out) hb); have n3_ := Aside0.mk (blk_below (g := gb307) (o := .cells #[.int .i64 a0_0, .slice A0_1 l0_1.length c0_1, .int .i64 a0_2, .int .i64 a0_3, .int .i64 a0_4] 33 (0, 0)) (by (with_reducible repeat (first | refine qi ?_ _ | refine qk ?_ | refine qj ?_ _)); exact BK307.out) hb); have n4_ := Aside0.mk (below_step (by repeat (first | (with_reducible first | exact HB.out | apply qe | apply qa | apply qd | refine qc ?_ GE307.out) | exact HB.out)) hb); have n5_ := Aside0.mk (hbox); have n6_ := Aside0.mk ((by rw [hg]; exact (below_size (by repeat (first | (with_reducible first | exact HB.out | apply qe | apply qa | apply qd | refine qc ?_ GE307.out) | exact HB.out))) : w.heap.size ≤ gb327)); have n7_ := Aside0.mk ((by rw [hg]; exact (below_size (by repeat (first | (with_reducible first | exact HB.out | apply qe | apply qa | apply qd | refine qc ?_ GE307.out) | exact HB.out))) : w.heap.size ≤ gb327)); have n8_ := Aside0.mk ((by rw [hg]; exact Nat.ne_of_lt (blk_lt (g := gb307) (o := .cells #[.int .i64 a0_0, .slice A0_1 l0_1.length c0_1, .int .i64 a0_2, .int .i64 a0_3, .int .i64 a0_4] 33 (0, 0)) (by (with_reducible repeat (first | refine qi ?_ _ | refine qk ?_ | refine qj ?_ _)); exact BK307.out)) : gb307 ≠ gb327)); have n9_ := Aside0.mk ((by rw [hg]; exact Nat.ne_of_gt (blk_lt (g := gb307) (o := .cells #[.int .i64 a0_0, .slice A0_1 l0_1.length c0_1, .int .i64 a0_2, .int .i64 a0_3, .int .i64 a0_4] 33 (0, 0)) (by (with_reducible repeat (first | refine qi ?_ _ | refine qk ?_ | refine qj ?_ _)); exact BK307.out)) : gb327 ≠ gb307)); clear HO312; clear HO318; clear HO323; clear BK307; clear HB; have HO312 := n0_; have HO318 := n1_; have HO323 := n2_; have BK307 := n3_; have HB := n4_; have BK327 := n5_; have GW327 := n6_; have GE327 := n7_; have NB307_327 := n8_; have NB327_307 := n9_; clear n0_ n1_ n2_ n3_ n4_ n5_ n6_ n7_ n8_ n9_; clear hb hbox hg; have hnb22 := NB327_307.out; have hnc22 := NB307_327.out; have hcz23_0 : w21.cell? ⟨gb327, 0, none⟩ = some (.int .i64 0) := (qb BK327.out 0).trans rfl; have hcz23_1 : w21.cell? ⟨gb327, 1, none⟩ = some (.slice none 0 0) := (qb BK327.out 1).trans rfl; have hcz23_2 : w21.cell? ⟨gb327, 2, none⟩ = some (.int .i64 0) := (qb BK327.out 2).trans rfl; have hcz23_3 : w21.cell? ⟨gb327, 3, none⟩ = some (.int .i64 0) := (qb BK327.out 3).trans rfl; have hcz23_4 : w21.cell? ⟨gb327, 4, none⟩ = some (.int .i64 0) := (qb BK327.out 4).trans rfl; have hfz23_0 := ql BK327.out 0; have hfz23_1 := ql BK327.out 1; have hfz23_2 := ql BK327.out 2; have hfz23_3 := ql BK327.out 3; have hfz23_4 := ql BK327.out 4; obtain ⟨Ao24, co24, eo24⟩ := qs HO323.out; subst eo24) | ((with_reducible refine qp (f := 33) rfl ?_); refine goesL_ (some 29) rfl rfl Try.func33 (by kernel_rfl) rfl #[.agg #[.int .i64 t320, .slice Ao24 t321.length co24, .int .i64 t324, .int .i64 t325, .int .i64 t326]] rfl (by (try simp only [List.map_toArray, List.map_cons, List.map_nil]); first | done | rfl | (simp only [List.length_drop, List.length_take]; rfl)) ?_; (with_reducible refine (impl_PutSave.calls k t320 _ _ t321 t324 t325 t326 t328 t331 _ ?side1 ?side2 A10.out).mono ?_); (case side1 => refine (Kd.R_reads' (e := 84) (base := w.heap.size) (ok := fun k_ => (True ∧ some k_ ≠ (.slice Ao17 t310.length co17 : Value).ownBlock)) (n := t321.length) (c := co24) ?_).2.2; exact (by (with_reducible repeat (first | apply qf | apply qg | apply qh)); exact (qq (qt (p := ⟨gb327, 4, none⟩) (qt (p := ⟨gb327, 3, none⟩) (qt (p := ⟨gb327, 2, none⟩) (qt (p := ⟨gb327, 1, none⟩) (qt (p := ⟨gb327, 0, none⟩) (Kd.R_types HO323.out BK327.out (by decide)) (fun _ hk => hk.2) (.int .i64 t320)) (fun _ hk => hk.2) (.slice Ao24 t321.length co24)) (fun _ hk => hk.2) (.int .i64 t324)) (fun _ hk => hk.2) (.int .i64 t325)) (fun _ hk => hk.2) (.int .i64 t326)) (fun _ h_ => h_.1)))); (case side2 => exact (Kd.R_reads' HO323.out).2.1); rintro e w25 ⟨v329, rfl, ho0, hb⟩; refine ⟨_, rfl, ?_⟩; have n0_ := Aside0.mk (qr (by (with_reducible repeat (first | apply qf | apply qg | apply qh)); exact (qq (qt (p := ⟨gb327, 4, none⟩) (qt (p := ⟨gb327, 3, none⟩) (qt (p := ⟨gb327, 2, none⟩) (qt (p := ⟨gb327, 1, none⟩) (qt (p := ⟨gb327, 0, none⟩) (Kd.R_types HO312.out BK327.out (by decide)) (fun _ hk => hk.2) (.int .i64 t320)) (fun _ hk => hk.2) (.slice Ao24 t321.length co24)) (fun _ hk => hk.2) (.int .i64 t324)) (fun _ hk => hk.2) (.int .i64 t325)) (fun _ hk => hk.2) (.int .i64 t326)) (fun _ h_ => h_.1))) hb); have n1_ := Aside0.mk (Kd.R_elder' (by (with_reducible repeat (first | apply qf | apply qg | apply qh)); exact (qq (qt (p := ⟨gb327, 4, none⟩) (qt (p := ⟨gb327, 3, none⟩) (qt (p := ⟨gb327, 2, none⟩) (qt (p := ⟨gb327, 1, none⟩) (qt (p := ⟨gb327, 0, none⟩) (Kd.R_types HO318.out BK327.out (by decide)) (fun _ hk => hk.2) (.int .i64 t320)) (fun _ hk => hk.2) (.slice Ao24 t321.length co24)) (fun _ hk => hk.2) (.int .i64 t324)) (fun _ hk => hk.2) (.int .i64 t325)) (fun _ hk => hk.2) (.int .i64 t326)) (fun _ h_ => h_.1))) (Kd.R_base ho0) hb); have n2_ := Aside0.mk (qr (by (with_reducible repeat (first | apply qf | apply qg | apply qh)); exact (qq (qt (p := ⟨gb327, 4, none⟩) (qt (p := ⟨gb327, 3, none⟩) (qt (p := ⟨gb327, 2, none⟩) (qt (p := ⟨gb327, 1, none⟩) (qt (p := ⟨gb327, 0, none⟩) (Kd.R_types HO323.out BK327.out (by decide)) (fun _ hk => hk.2) (.int .i64 t320)) (fun _ hk => hk.2) (.slice Ao24 t321.length co24)) (fun _ hk => hk.2) (.int .i64 t324)) (fun _ hk => hk.2) (.int .i64 t325)) (fun _ hk => hk.2) (.int .i64 t326)) (fun _ h_ => h_.1))) hb); have n3_ := Aside0.mk (Kd.R_lower (Kd.R_new' ho0 (Kd.R_lt (by (with_reducible repeat (first | apply qf | apply qg | apply qh)); exact (qq (qt (p := ⟨gb327, 4, none⟩) (qt (p := ⟨gb327, 3, none⟩) (qt (p := ⟨gb327, 2, none⟩) (qt (p := ⟨gb327, 1, none⟩) (qt (p := ⟨gb327, 0, none⟩) (Kd.R_types HO318.out BK327.out (by decide)) (fun _ hk => hk.2) (.int .i64 t320)) (fun _ hk => hk.2) (.slice Ao24 t321.length co24)) (fun _ hk => hk.2) (.int .i64 t324)) (fun _ hk => hk.2) (.int .i64 t325)) (fun _ hk => hk.2) (.int .i64 t326)) (fun _ h_ => h_.1))))) (below_size (by repeat (first | (with_reducible first | exact HB.out | apply qe | apply qa | apply qd | refine qc ?_ GE307.out | refine qc ?_ GE327.out) | exact HB.out)))); have n4_ := Aside0.mk (blk_below (g := gb307) (o := .cells #[.int .i64 a0_0, .slice A0_1 l0_1.length c0_1, .int .i64 a0_2, .int .i64 a0_3, .int .i64 a0_4] 33 (0, 0)) (by (with_reducible repeat (first | refine qi ?_ _ | refine qk ?_ | refine qj ?_ _)); refine blk_far ?_ NB307_327.out _; (with_reducible repeat (first | refine qi ?_ _ | refine qk ?_ | refine qj ?_ _)); refine blk_far ?_ NB307_327.out _; (with_reducible repeat (first | refine qi ?_ _ | refine qk ?_ | refine qj ?_ _)); refine blk_far ?_ NB307_327.out _; (with_reducible repeat (first | refine qi ?_ _ | refine qk ?_ | refine qj ?_ _)); refine blk_far ?_ NB307_327.out _; (with_reducible repeat (first | refine qi ?_ _ | refine qk ?_ | refine qj ?_ _)); refine blk_far ?_ NB307_327.out _; (with_reducible repeat (first | refine qi ?_ _ | refine qk ?_ | refine qj ?_ _)); exact BK307.out) hb); have n5_ := Aside0.mk (blk_below (g := gb327) (o := .cells #[.int .i64 t320, .slice Ao24 t321.length co24, .int .i64 t324, .int .i64 t325, .int .i64 t326] 37 (0, 0)) (by (with_reducible repeat (first | refine qi ?_ _ | refine qk ?_ | refine qj ?_ _)); refine blk_put (cs := #[.int .i64 t320, .slice Ao24 t321.length co24, .int .i64 t324, .int .i64 t325, .int .i64 0]) ?_ 4 _ rfl; (with_reducible repeat (first | refine qi ?_ _ | refine qk ?_ | refine qj ?_ _)); refine blk_put (cs := #[.int .i64 t320, .slice Ao24 t321.length co24, .int .i64 t324, .int .i64 0, .int .i64 0]) ?_ 3 _ rfl; (with_reducible repeat (first | refine qi ?_ _ | refine qk ?_ | refine qj ?_ _)); refine blk_put (cs := #[.int .i64 t320, .slice Ao24 t321.length co24, .int .i64 0, .int .i64 0, .int .i64 0]) ?_ 2 _ rfl; (with_reducible repeat (first | refine qi ?_ _ | refine qk ?_ | refine qj ?_ _)); refine blk_put (cs := #[.int .i64 t320, .slice none 0 0, .int .i64 0, .int .i64 0, .int .i64 0]) ?_ 1 _ rfl; (with_reducible repeat (first | refine qi ?_ _ | refine qk ?_ | refine qj ?_ _)); refine blk_put (cs := #[.int .i64 0, .slice none 0 0, .int .i64 0, .int .i64 0, .int .i64 0]) ?_ 0 _ rfl; (with_reducible repeat (first | refine qi ?_ _ | refine qk ?_ | refine qj ?_ _)); exact BK327.out) hb); have n6_ := Aside0.mk (below_step (by repeat (first | (with_reducible first | exact HB.out | apply qe | apply qa | apply qd | refine qc ?_ GE307.out | refine qc ?_ GE327.out) | exact HB.out)) hb); clear HO312; clear HO318; clear HO323; clear BK307; clear BK327; clear HB; have HO312 := n0_; have HO318 := n1_; have HO323 := n2_; have HO330 := n3_; have BK307 := n4_; have BK327 := n5_; have HB := n6_; clear n0_ n1_ n2_ n3_ n4_ n5_ n6_; (try clear hb); (try clear hb2); (try clear hk); (try clear hi); (try clear ho0)))
  (try simp only [Act.put, List.setIfInBounds_toArray, List.set_cons_zero, List.set_cons_succ])
  go_cut [40] (fun v40 wc => ∃ (kq : Nat) (x40_10 : Bool), v40 = .bool x40_10 ∧ Aside0 (laws_FnExactPutSave.j0 kq t316 t319 t328 t331 x40_10 a0_0 l0_1 a0_2 a0_3 a0_4 t320 t321 t324 t325 t326 = some r) ∧ Aside0 (kq ≤ k) ∧ Aside0 (Kd.R (Kd.int .u8) 5 wc w.heap.size (fun k_ => some k_ ≠ (v329 : Value).ownBlock) v317 t316) ∧ Aside0 (Kd.R (Kd.int .u8) 5 wc w.heap.size (fun k_ => some k_ ≠ (v317 : Value).ownBlock) v329 t328) ∧ Aside0 (Kd.R k84 84 wc w.heap.size (fun _ => True) (.slice Ao24 t321.length co24) t321) ∧ Aside0 (wc.heap[gb307]? = some (.cells #[.int .i64 a0_0, (.slice A0_1 l0_1.length c0_1), .int .i64 a0_2, .int .i64 a0_3, .int .i64 a0_4] 33 (0, 0))) ∧ Aside0 (wc.heap[gb327]? = some (.cells #[.int .i64 t320, (.slice Ao24 t321.length co24), .int .i64 t324, .int .i64 t325, .int .i64 t326] 37 (0, 0))) ∧ Aside0 (Below w.heap.size w wc))
  case first =>
   have H := HC11.out
   clear HC11
   replace H := Option.bind_eq_some_iff.mp H
   obtain ⟨t332, A260, H⟩ := H
   replace H : (if t332 = true then (laws_FnExactPutSave.j0 k t316 t319 t328 t331 (t331 != t319) a0_0 l0_1 a0_2 a0_3 a0_4 t320 t321 t324 t325 t326) else (laws_FnExactPutSave.j0 k t316 t319 t328 t331 true a0_0 l0_1 a0_2 a0_3 a0_4 t320 t321 t324 t325 t326)) = some r := H
   have A26 := Aside0.mk A260
   clear A260
   by_cases c27 : t332 = true
   ·
    subst c27
    have H1 : (laws_FnExactPutSave.j0 k t316 t319 t328 t331 (t331 != t319) a0_0 l0_1 a0_2 a0_3 a0_4 t320 t321 t324 t325 t326) = some r := by rw [if_pos rfl] at H; exact H
    clear H
    have H := H1
    clear H1
    have H' := Aside0.mk H
    clear H
    obtain ⟨Ao28, co28, eo28⟩ := qs HO330.out
    subst eo28
    obtain ⟨Ao29, co29, eo29⟩ := qs HO318.out
    subst eo29
    go_wp2_with (first | ((with_reducible refine qp (f := 34) rfl ?_); refine goesL_ (some 34) rfl rfl Try.func34 (by kernel_rfl) rfl #[.slice Ao28 t328.length co28, .slice Ao29 t316.length co29] rfl (by (try simp only [List.map_toArray, List.map_cons, List.map_nil]); first | done | rfl | (simp only [List.length_drop, List.length_take]; rfl)) ?_; (with_reducible refine (laws_eqByteS.calls k _ _ t328 _ _ t316 true _ ?side1 ?side2 ?side3 ?side4 A26.out).mono ?_); (case side1 => repeat (first | exact (Kd.R_reads' HO330.out).2.2 | (with_reducible refine qm ?_ _) | (with_reducible refine qn ?_ _) | (with_reducible refine qo ?_))); (case side2 => exact (Kd.R_reads' HO330.out).2.1); (case side3 => repeat (first | exact (Kd.R_reads' HO318.out).2.2 | (with_reducible refine qm ?_ _) | (with_reducible refine qn ?_ _) | (with_reducible refine qo ?_))); (case side4 => exact (Kd.R_reads' HO318.out).2.1); rintro e w' ⟨rfl, ⟨nd, rfl⟩⟩; refine ⟨_, rfl, ?_⟩))
    go_meet
    case rel => exact ⟨_, ((t331 != t319)), (by first | rfl | (simp; done) | (simp [*]; done)), H', ⟨by first | omega | exact Nat.le_refl _⟩, ⟨by (with_reducible repeat (first | apply qf | apply qg | apply qh)); exact qq HO318.out (fun _ hk => hk.2)⟩, ⟨by (with_reducible repeat (first | apply qf | apply qg | apply qh)); exact qq HO330.out (fun _ hk => hk.2)⟩, ⟨by (with_reducible repeat (first | apply qf | apply qg | apply qh)); exact qq HO323.out (fun _ hk => trivial)⟩, ⟨by (with_reducible repeat (first | refine qi ?_ _ | refine qk ?_ | refine qj ?_ _)); exact BK307.out⟩, ⟨by (with_reducible repeat (first | refine qi ?_ _ | refine qk ?_ | refine qj ?_ _)); exact BK327.out⟩, ⟨by repeat (first | (with_reducible first | exact HB.out | apply qe | apply qa | apply qd | refine qc ?_ GE307.out | refine qc ?_ GE327.out) | exact HB.out)⟩⟩
   ·
    replace c27 := Bool.eq_false_iff.mpr c27
    subst c27
    have H1 : (laws_FnExactPutSave.j0 k t316 t319 t328 t331 true a0_0 l0_1 a0_2 a0_3 a0_4 t320 t321 t324 t325 t326) = some r := by rw [if_neg (show ¬ (false = true) by decide)] at H; exact H
    clear H
    have H := H1
    clear H1
    have H' := Aside0.mk H
    clear H
    obtain ⟨Ao30, co30, eo30⟩ := qs HO330.out
    subst eo30
    obtain ⟨Ao31, co31, eo31⟩ := qs HO318.out
    subst eo31
    go_wp2_with (first | ((with_reducible refine qp (f := 34) rfl ?_); refine goesL_ (some 34) rfl rfl Try.func34 (by kernel_rfl) rfl #[.slice Ao30 t328.length co30, .slice Ao31 t316.length co31] rfl (by (try simp only [List.map_toArray, List.map_cons, List.map_nil]); first | done | rfl | (simp only [List.length_drop, List.length_take]; rfl)) ?_; (with_reducible refine (laws_eqByteS.calls k _ _ t328 _ _ t316 false _ ?side1 ?side2 ?side3 ?side4 A26.out).mono ?_); (case side1 => repeat (first | exact (Kd.R_reads' HO330.out).2.2 | (with_reducible refine qm ?_ _) | (with_reducible refine qn ?_ _) | (with_reducible refine qo ?_))); (case side2 => exact (Kd.R_reads' HO330.out).2.1); (case side3 => repeat (first | exact (Kd.R_reads' HO318.out).2.2 | (with_reducible refine qm ?_ _) | (with_reducible refine qn ?_ _) | (with_reducible refine qo ?_))); (case side4 => exact (Kd.R_reads' HO318.out).2.1); rintro e w' ⟨rfl, ⟨nd, rfl⟩⟩; refine ⟨_, rfl, ?_⟩))
    go_meet
    case rel => exact ⟨_, (true), (by first | rfl | (simp; done) | (simp [*]; done)), H', ⟨by first | omega | exact Nat.le_refl _⟩, ⟨by (with_reducible repeat (first | apply qf | apply qg | apply qh)); exact qq HO318.out (fun _ hk => hk.2)⟩, ⟨by (with_reducible repeat (first | apply qf | apply qg | apply qh)); exact qq HO330.out (fun _ hk => hk.2)⟩, ⟨by (with_reducible repeat (first | apply qf | apply qg | apply qh)); exact qq HO323.out (fun _ hk => trivial)⟩, ⟨by (with_reducible repeat (first | refine qi ?_ _ | refine qk ?_ | refine qj ?_ _)); exact BK307.out⟩, ⟨by (with_reducible repeat (first | refine qi ?_ _ | refine qk ?_ | refine qj ?_ _)); exact BK327.out⟩, ⟨by repeat (first | (with_reducible first | exact HB.out | apply qe | apply qa | apply qd | refine qc ?_ GE307.out | refine qc ?_ GE327.out) | exact HB.out)⟩⟩
  case rest =>
   clear HC11
   try clear c2
   try clear p2
   try clear c3
   try clear c3b0
   try clear c6
   try clear c20
   try clear c22
   try clear c27
   try clear hcz13_0
   try clear hcz13_1
   try clear hcz13_2
   try clear hcz13_3
   try clear hcz13_4
   try clear hcz15_0
   try clear hcz15_1
   try clear hcz15_2
   try clear hcz15_3
   try clear hcz15_4
   try clear hcz19_0
   try clear hcz19_1
   try clear hcz19_2
   try clear hcz19_3
   try clear hcz19_4
   try clear hcz23_0
   try clear hcz23_1
   try clear hcz23_2
   try clear hcz23_3
   try clear hcz23_4
   try clear hcz5_0
   try clear hcz5_1
   try clear hcz5_2
   try clear hcz5_3
   try clear hcz5_4
   try clear hfz13_0
   try clear hfz13_1
   try clear hfz13_2
   try clear hfz13_3
   try clear hfz13_4
   try clear hfz15_0
   try clear hfz15_1
   try clear hfz15_2
   try clear hfz15_3
   try clear hfz15_4
   try clear hfz19_0
   try clear hfz19_1
   try clear hfz19_2
   try clear hfz19_3
   try clear hfz19_4
   try clear hfz23_0
   try clear hfz23_1
   try clear hfz23_2
   try clear hfz23_3
   try clear hfz23_4
   try clear hfz5_0
   try clear hfz5_1
   try clear hfz5_2
   try clear hfz5_3
   try clear hfz5_4
   obtain ⟨kq, x40_10, rfl, HA, HJ10, HO_4, HO_7, HO_328001, BK307, BK327, HB⟩ := hcut
   cases kq with
   | zero => exact absurd HA.out (by simp [laws_FnExactPutSave.j0])
   | succ kj10 =>
    have H := HA.out
    clear HA
    simp only [laws_FnExactPutSave.j0] at H
    by_cases c32 : x40_10 = true
    ·
     subst c32
     have H1 : (some false) = some r := by rw [if_pos rfl] at H; exact H
     clear H
     have H := H1
     clear H1
     obtain rfl := Option.some.inj H
     go_wp2
     go_ret
     exact ⟨by first | rfl | (simp [errW_none, errW_some] <;> rfl) | (simp [*, errW_none, errW_some] <;> rfl), by repeat (first | (with_reducible first | exact HB.out | apply qe | apply qa | apply qd | refine qc ?_ GE307.out | refine qc ?_ GE327.out) | exact HB.out)⟩
    ·
     replace c32 := Bool.eq_false_iff.mpr c32
     subst c32
     have H1 : ((laws_toSave.f kj10 a0_0 l0_1 a0_2 a0_3 a0_4).bind fun bt333 => ((laws_eqSave.f kj10 t320 t321 t324 t325 t326 bt333.1 bt333.2.1 bt333.2.2.1 bt333.2.2.2.1 bt333.2.2.2.2).bind fun t340 => (if t340 = true then ((laws_markSave.f kj10 t320 t321 t324 t325 t326 1).bind fun bt341 => (if bt341.1 < 0 then (laws_FnExactPutSave.j1 kj10 t316 t319 t328 true a0_0 l0_1 a0_2 a0_3 a0_4) else ((laws_eqByteS.f kj10 t328 t316).bind fun t343 => (if t343 = true then (laws_FnExactPutSave.j1 kj10 t316 t319 t328 (t331 != t319) a0_0 l0_1 a0_2 a0_3 a0_4) else (laws_FnExactPutSave.j1 kj10 t316 t319 t328 true a0_0 l0_1 a0_2 a0_3 a0_4))))) else (some false)))) = some r := by rw [if_neg (show ¬ (false = true) by decide)] at H; exact H
     clear H
     have H := H1
     clear H1
     replace H := Option.bind_eq_some_iff.mp H
     obtain ⟨⟨t333, t334, t337, t338, t339⟩, A330, H⟩ := H
     replace H : ((laws_eqSave.f kj10 t320 t321 t324 t325 t326 t333 t334 t337 t338 t339).bind fun t340 => (if t340 = true then ((laws_markSave.f kj10 t320 t321 t324 t325 t326 1).bind fun bt341 => (if bt341.1 < 0 then (laws_FnExactPutSave.j1 kj10 t316 t319 t328 true a0_0 l0_1 a0_2 a0_3 a0_4) else ((laws_eqByteS.f kj10 t328 t316).bind fun t343 => (if t343 = true then (laws_FnExactPutSave.j1 kj10 t316 t319 t328 (t331 != t319) a0_0 l0_1 a0_2 a0_3 a0_4) else (laws_FnExactPutSave.j1 kj10 t316 t319 t328 true a0_0 l0_1 a0_2 a0_3 a0_4))))) else (some false))) = some r := H
     have A33 := Aside0.mk A330
     clear A330
     replace H := Option.bind_eq_some_iff.mp H
     obtain ⟨t340, A340, H⟩ := H
     replace H : (if t340 = true then ((laws_markSave.f kj10 t320 t321 t324 t325 t326 1).bind fun bt341 => (if bt341.1 < 0 then (laws_FnExactPutSave.j1 kj10 t316 t319 t328 true a0_0 l0_1 a0_2 a0_3 a0_4) else ((laws_eqByteS.f kj10 t328 t316).bind fun t343 => (if t343 = true then (laws_FnExactPutSave.j1 kj10 t316 t319 t328 (t331 != t319) a0_0 l0_1 a0_2 a0_3 a0_4) else (laws_FnExactPutSave.j1 kj10 t316 t319 t328 true a0_0 l0_1 a0_2 a0_3 a0_4))))) else (some false)) = some r := H
     have A34 := Aside0.mk A340
     clear A340
     by_cases c35 : t340 = true
     ·
      subst c35
      have H1 : ((laws_markSave.f kj10 t320 t321 t324 t325 t326 1).bind fun bt341 => (if bt341.1 < 0 then (laws_FnExactPutSave.j1 kj10 t316 t319 t328 true a0_0 l0_1 a0_2 a0_3 a0_4) else ((laws_eqByteS.f kj10 t328 t316).bind fun t343 => (if t343 = true then (laws_FnExactPutSave.j1 kj10 t316 t319 t328 (t331 != t319) a0_0 l0_1 a0_2 a0_3 a0_4) else (laws_FnExactPutSave.j1 kj10 t316 t319 t328 true a0_0 l0_1 a0_2 a0_3 a0_4))))) = some r := by rw [if_pos rfl] at H; exact H
      clear H
      have H := H1
      clear H1
      replace H := Option.bind_eq_some_iff.mp H
      obtain ⟨⟨t341, t342⟩, A360, H⟩ := H
      replace H : (if t341 < 0 then (laws_FnExactPutSave.j1 kj10 t316 t319 t328 true a0_0 l0_1 a0_2 a0_3 a0_4) else ((laws_eqByteS.f kj10 t328 t316).bind fun t343 => (if t343 = true then (laws_FnExactPutSave.j1 kj10 t316 t319 t328 (t331 != t319) a0_0 l0_1 a0_2 a0_3 a0_4) else (laws_FnExactPutSave.j1 kj10 t316 t319 t328 true a0_0 l0_1 a0_2 a0_3 a0_4)))) = some r := H
      have A36 := Aside0.mk A360
      clear A360
      have HC37 := Aside0.mk H
      clear H
      try go_wp2
      have n0_ := Aside0.mk (qh HO_4.out)
      have n1_ := Aside0.mk (qh HO_7.out)
      have n2_ := Aside0.mk (qh HO_328001.out)
      have n3_ := Aside0.mk (qk BK307.out)
      have n4_ := Aside0.mk (qk BK327.out)
      have n5_ := Aside0.mk (qd HB.out)
      clear HO_4
      clear HO_7
      clear HO_328001
      clear BK307
      clear BK327
      clear HB
      have HO_4 := n0_
      have HO_7 := n1_
      have HO_328001 := n2_
      have BK307 := n3_
      have BK327 := n4_
      have HB := n5_
      clear n0_ n1_ n2_ n3_ n4_ n5_
      refine start_ (n := 5) (S := fun w' => w'.cell? ⟨gb327, 0, none⟩ = some (.int .i64 t320) ∧ w'.cell? ⟨gb327, 1, none⟩ = some (.slice Ao24 t321.length co24) ∧ w'.cell? ⟨gb327, 2, none⟩ = some (.int .i64 t324) ∧ w'.cell? ⟨gb327, 3, none⟩ = some (.int .i64 t325) ∧ w'.cell? ⟨gb327, 4, none⟩ = some (.int .i64 t326) ∧ w'.cell? ⟨gb307, 0, none⟩ = some (.int .i64 a0_0) ∧ w'.cell? ⟨gb307, 1, none⟩ = some (.slice A0_1 l0_1.length c0_1) ∧ w'.cell? ⟨gb307, 2, none⟩ = some (.int .i64 a0_2) ∧ w'.cell? ⟨gb307, 3, none⟩ = some (.int .i64 a0_3) ∧ w'.cell? ⟨gb307, 4, none⟩ = some (.int .i64 a0_4)) (ds := []) #[false, false, false, false, false] (by kernel_rfl) rfl rfl ⟨(qb BK327.out 0).trans rfl, (qb BK327.out 1).trans rfl, (qb BK327.out 2).trans rfl, (qb BK327.out 3).trans rfl, (qb BK327.out 4).trans rfl, (qb BK307.out 0).trans rfl, (qb BK307.out 1).trans rfl, (qb BK307.out 2).trans rfl, (qb BK307.out 3).trans rfl, (qb BK307.out 4).trans rfl⟩ (fun hHeld => ?_)
      generalize wc.drew = w38 at HO_4 HO_7 HO_328001 BK307 BK327 HB hHeld ⊢
      refine take_ (i := 0) (N := some 41) (v := ?_) (a' := ?_) #[true, false, false, false, false] rfl rfl (by kernel_rfl) (fun _ _ _ h => h) (Or.inl ⟨by rfl, ?_⟩) hHeld ?_ ?_
      rotate_left
      ·
       rintro w' ⟨s0, s1, s2, s3, s4, s5, s6, s7, s8, s9⟩
       go_simp
       with_reducible rfl
      rotate_left
      ·
       simp only [Act.put, List.setIfInBounds_toArray, List.set_cons_zero, List.set_cons_succ, i64_w, i32_w]
       rfl
      refine take_ (i := 1) (N := some 42) (v := ?_) (a' := ?_) #[true, true, false, false, false] rfl rfl (by kernel_rfl) (fun _ _ _ h => h) (Or.inl ⟨by rfl, ?_⟩) hHeld ?_ ?_
      rotate_left
      ·
       rintro w' ⟨s0, s1, s2, s3, s4, s5, s6, s7, s8, s9⟩
       go_simp
       with_reducible rfl
      rotate_left
      ·
       simp only [Act.put, List.setIfInBounds_toArray, List.set_cons_zero, List.set_cons_succ, i64_w, i32_w]
       rfl
      refine one_ (i := 2) (N := some 43) #[true, true, true, false, false] rfl rfl (by kernel_rfl) (by decide) (fun K hK => ?_)
      refine goes_ Try.func22 (by kernel_rfl) rfl #[.agg #[.int .i64 a0_0, .slice A0_1 l0_1.length c0_1, .int .i64 a0_2, .int .i64 a0_3, .int .i64 a0_4]] (by rfl) rfl rfl (by (try simp only [List.map_toArray, List.map_cons, List.map_nil]); first | done | rfl | (simp only [List.length_drop, List.length_take]; rfl)) ?_
      with_reducible refine (laws_toSave.calls kj10 a0_0 _ _ l0_1 a0_2 a0_3 a0_4 t333 t334 t337 t338 t339 _ ?side1 ?side2 A33.out).mono ?_
      (case side1 => repeat (first | exact (Kd.C_below HR0_1.out HB.out) | (with_reducible refine qm ?_ _) | (with_reducible refine qn ?_ _) | (with_reducible refine qo ?_)))
      (case side2 => exact HC0_1.out)
      rintro e w39 ⟨v335, rfl, ho0, hb⟩
      refine ⟨_, rfl, ?_⟩
      have n0_ := Aside0.mk (qr (by (with_reducible repeat (first | apply qf | apply qg | apply qh)); exact HO_4.out) hb)
      have n1_ := Aside0.mk (qr (by (with_reducible repeat (first | apply qf | apply qg | apply qh)); exact HO_7.out) hb)
      have n2_ := Aside0.mk (Kd.R_elder' (by (with_reducible repeat (first | apply qf | apply qg | apply qh)); exact HO_328001.out) (Kd.R_base ho0) hb)
      have n3_ := Aside0.mk (Kd.R_lower (Kd.R_new' ho0 (Kd.R_lt (by (with_reducible repeat (first | apply qf | apply qg | apply qh)); exact HO_328001.out))) (below_size (by repeat (first | (with_reducible first | exact HB.out | apply qe | apply qa | apply qd | refine qc ?_ GE307.out | refine qc ?_ GE327.out) | exact HB.out))))
      have n4_ := Aside0.mk (blk_below (g := gb307) (o := .cells #[.int .i64 a0_0, .slice A0_1 l0_1.length c0_1, .int .i64 a0_2, .int .i64 a0_3, .int .i64 a0_4] 33 (0, 0)) (by (with_reducible repeat (first | refine qi ?_ _ | refine qk ?_ | refine qj ?_ _)); exact BK307.out) hb)
      have n5_ := Aside0.mk (blk_below (g := gb327) (o := .cells #[.int .i64 t320, .slice Ao24 t321.length co24, .int .i64 t324, .int .i64 t325, .int .i64 t326] 37 (0, 0)) (by (with_reducible repeat (first | refine qi ?_ _ | refine qk ?_ | refine qj ?_ _)); exact BK327.out) hb)
      have n6_ := Aside0.mk (below_step (by repeat (first | (with_reducible first | exact HB.out | apply qe | apply qa | apply qd | refine qc ?_ GE307.out | refine qc ?_ GE327.out) | exact HB.out)) hb)
      clear HO_4
      clear HO_7
      clear HO_328001
      clear BK307
      clear BK327
      clear HB
      have HO_4 := n0_
      have HO_7 := n1_
      have HO_328001 := n2_
      have HO336 := n3_
      have BK307 := n4_
      have BK327 := n5_
      have HB := n6_
      clear n0_ n1_ n2_ n3_ n4_ n5_ n6_
      (try clear hb)
      (try clear hb2)
      (try clear hk)
      (try clear hi)
      (try clear ho0)
      obtain ⟨Ao40, co40, eo40⟩ := qs HO336.out
      (first | subst eo40 | (injection eo40 with f1_ f2_ f3_; have f4_ := f1_.symm; have f5_ := f3_.symm; clear f1_ f2_ f3_; subst f4_; subst f5_))
      refine hK.out _ _ ⟨(qb BK327.out 0).trans rfl, (qb BK327.out 1).trans rfl, (qb BK327.out 2).trans rfl, (qb BK327.out 3).trans rfl, (qb BK327.out 4).trans rfl, (qb BK307.out 0).trans rfl, (qb BK307.out 1).trans rfl, (qb BK307.out 2).trans rfl, (qb BK307.out 3).trans rfl, (qb BK307.out 4).trans rfl⟩ (fun hHeld => ?_)
      clear hK K
      refine norm_ (a' := ?_) ?_ ?_
      rotate_left
      ·
       show Act.put _ (some 43) _ = _
       simp only [Act.put, List.setIfInBounds_toArray, List.set_cons_zero, List.set_cons_succ, i64_w, i32_w]
       rfl
      refine one_ (i := 3) (N := some 44) #[true, true, true, true, false] rfl rfl (by kernel_rfl) (by decide) (fun K hK => ?_)
      refine goes_ Try.func24 (by kernel_rfl) rfl #[.agg #[.int .i64 t320, .slice Ao24 t321.length co24, .int .i64 t324, .int .i64 t325, .int .i64 t326], .agg #[.int .i64 t333, .slice Ao40 t334.length co40, .int .i64 t337, .int .i64 t338, .int .i64 t339]] (by rfl) rfl rfl (by (try simp only [List.map_toArray, List.map_cons, List.map_nil]); first | done | rfl | (simp only [List.length_drop, List.length_take]; rfl)) ?_
      with_reducible refine (laws_eqSave.calls kj10 t320 _ _ t321 t324 t325 t326 t333 _ _ t334 t337 t338 t339 true _ ?side1 ?side2 ?side3 ?side4 A34.out).mono ?_
      (case side1 => repeat (first | exact (Kd.R_reads' HO_328001.out).2.2 | (with_reducible refine qm ?_ _) | (with_reducible refine qn ?_ _) | (with_reducible refine qo ?_)))
      (case side2 => exact (Kd.R_reads' HO_328001.out).2.1)
      (case side3 => repeat (first | exact (Kd.R_reads' HO336.out).2.2 | (with_reducible refine qm ?_ _) | (with_reducible refine qn ?_ _) | (with_reducible refine qo ?_)))
      (case side4 => exact (Kd.R_reads' HO336.out).2.1)
      rintro e w41 ⟨rfl, hb⟩
      refine ⟨_, rfl, ?_⟩
      have n0_ := Aside0.mk (qr (by (with_reducible repeat (first | apply qf | apply qg | apply qh)); exact HO_4.out) hb)
      have n1_ := Aside0.mk (qr (by (with_reducible repeat (first | apply qf | apply qg | apply qh)); exact HO_7.out) hb)
      have n2_ := Aside0.mk (qr (by (with_reducible repeat (first | apply qf | apply qg | apply qh)); exact HO_328001.out) hb)
      have n3_ := Aside0.mk (qr (by (with_reducible repeat (first | apply qf | apply qg | apply qh)); exact HO336.out) hb)
      have n4_ := Aside0.mk (blk_below (g := gb307) (o := .cells #[.int .i64 a0_0, .slice A0_1 l0_1.length c0_1, .int .i64 a0_2, .int .i64 a0_3, .int .i64 a0_4] 33 (0, 0)) (by (with_reducible repeat (first | refine qi ?_ _ | refine qk ?_ | refine qj ?_ _)); exact BK307.out) hb)
      have n5_ := Aside0.mk (blk_below (g := gb327) (o := .cells #[.int .i64 t320, .slice Ao24 t321.length co24, .int .i64 t324, .int .i64 t325, .int .i64 t326] 37 (0, 0)) (by (with_reducible repeat (first | refine qi ?_ _ | refine qk ?_ | refine qj ?_ _)); exact BK327.out) hb)
      have n6_ := Aside0.mk (below_step (by repeat (first | (with_reducible first | exact HB.out | apply qe | apply qa | apply qd | refine qc ?_ GE307.out | refine qc ?_ GE327.out) | exact HB.out)) hb)
      clear HO_4
      clear HO_7
      clear HO_328001
      clear HO336
      clear BK307
      clear BK327
      clear HB
      have HO_4 := n0_
      have HO_7 := n1_
      have HO_328001 := n2_
      have HO336 := n3_
      have BK307 := n4_
      have BK327 := n5_
      have HB := n6_
      clear n0_ n1_ n2_ n3_ n4_ n5_ n6_
      (try clear hb)
      (try clear hb2)
      (try clear hk)
      (try clear hi)
      refine hK.out _ _ ⟨(qb BK327.out 0).trans rfl, (qb BK327.out 1).trans rfl, (qb BK327.out 2).trans rfl, (qb BK327.out 3).trans rfl, (qb BK327.out 4).trans rfl, (qb BK307.out 0).trans rfl, (qb BK307.out 1).trans rfl, (qb BK307.out 2).trans rfl, (qb BK307.out 3).trans rfl, (qb BK307.out 4).trans rfl⟩ (fun hHeld => ?_)
      clear hK K
      refine norm_ (a' := ?_) ?_ ?_
      rotate_left
      ·
       show Act.put _ (some 44) _ = _
       simp only [Act.put, List.setIfInBounds_toArray, List.set_cons_zero, List.set_cons_succ, i64_w, i32_w]
       rfl
      refine pure_ (i := 4) (N := some 45) (v := ?_) (a' := ?_) #[true, true, true, true, true] rfl rfl (by kernel_rfl) (fun _ _ _ h => h) (Or.inl ⟨by rfl, ?_⟩) ?_ ?_
      rotate_left
      ·
       intro w'
       go_simp
       with_reducible rfl
      rotate_left
      ·
       simp only [Act.put, List.setIfInBounds_toArray, List.set_cons_zero, List.set_cons_succ, i64_w, i32_w]
       rfl
      refine done_ (by kernel_rfl) ?_
      have hnb42 := NB327_307.out
      have hnc42 := NB307_327.out
      have hcz43_0 : w41.cell? ⟨gb327, 0, none⟩ = some (.int .i64 t320) := (qb BK327.out 0).trans rfl
      have hcz43_1 : w41.cell? ⟨gb327, 1, none⟩ = some (.slice Ao24 t321.length co24) := (qb BK327.out 1).trans rfl
      have hcz43_2 : w41.cell? ⟨gb327, 2, none⟩ = some (.int .i64 t324) := (qb BK327.out 2).trans rfl
      have hcz43_3 : w41.cell? ⟨gb327, 3, none⟩ = some (.int .i64 t325) := (qb BK327.out 3).trans rfl
      have hcz43_4 : w41.cell? ⟨gb327, 4, none⟩ = some (.int .i64 t326) := (qb BK327.out 4).trans rfl
      have hfz43_0 := ql BK327.out 0
      have hfz43_1 := ql BK327.out 1
      have hfz43_2 := ql BK327.out 2
      have hfz43_3 := ql BK327.out 3
      have hfz43_4 := ql BK327.out 4
      go_upto_region 14 with (first | ((with_reducible refine qp (f := 35) rfl ?_); refine goesL_ (some 48) rfl rfl Try.func35 (by kernel_rfl) rfl #[.agg #[.int .i64 t320, .slice Ao24 t321.length co24, .int .i64 t324, .int .i64 t325, .int .i64 t326], .int .i64 1] rfl (by (try simp only [List.map_toArray, List.map_cons, List.map_nil]); first | done | rfl | (simp only [List.length_drop, List.length_take]; rfl)) ?_; (with_reducible refine (laws_markSave.calls kj10 t320 (fun k_ => some k_ = (.slice Ao24 t321.length co24 : Value).ownBlock) (.slice Ao24 t321.length co24) t321 t324 t325 t326 1 t341 t342 w _ ?side1 ?side2 A36.out).mono ?_); (case side1 => repeat (first | (with_reducible first | exact HB.out | apply qe | apply qa | apply qd | refine qc ?_ GE307.out | refine qc ?_ GE327.out) | exact HB.out)); (case side2 => exact Kd.R_tight rfl HO_328001.out); rintro e w44 ⟨rfl, hy0, hb, hkp⟩; refine ⟨_, rfl, ?_⟩; have n0_ := Aside0.mk (qq (ok' := fun k_ => some k_ ≠ (v329 : Value).ownBlock) (Kd.R_keptB ((Kd.R_apart' HO_4.out (Kd.R_typed HO_328001.out) (by decide))) hkp (fun k_ hk_ hs_ => (hk_.2) hs_)) (fun k_ hk_ => hk_.1.1)); have n1_ := Aside0.mk (qq (ok' := fun k_ => some k_ ≠ (v317 : Value).ownBlock) (Kd.R_keptB ((Kd.R_apart' HO_7.out (Kd.R_typed HO_328001.out) (by decide))) hkp (fun k_ hk_ hs_ => (hk_.2) hs_)) (fun k_ hk_ => hk_.1.1)); have n2_ := Aside0.mk (Kd.R_reok rfl hy0 (fun k_ e_ => HO_328001.out.1 k_ e_)); have n3_ := Aside0.mk (blk_kept (by (with_reducible repeat (first | refine qi ?_ _ | refine qk ?_ | refine qj ?_ _)); exact BK307.out) hkp (fun hs_ => (fun e_ => (Kd.R_ne HO_328001.out BK307.out (by decide)) e_) hs_)); have n4_ := Aside0.mk (blk_kept (by (with_reducible repeat (first | refine qi ?_ _ | refine qk ?_ | refine qj ?_ _)); exact BK327.out) hkp (fun hs_ => (fun e_ => (Kd.R_ne HO_328001.out BK327.out (by decide)) e_) hs_)); have n5_ := Aside0.mk (qq (ok' := fun k_ => some k_ ≠ (.slice Ao24 t321.length co24 : Value).ownBlock) (Kd.R_keptB (HO336.out) hkp (fun k_ hk_ hs_ => (hk_.2) hs_)) (fun k_ hk_ => hk_.1.2)); have n6_ := Aside0.mk (hb); clear HO_4; clear HO_7; clear HO_328001; clear BK307; clear BK327; clear HO336; clear HB; have HO_4 := n0_; have HO_7 := n1_; have HO_328001 := n2_; have BK307 := n3_; have BK327 := n4_; have HO336 := n5_; have HB := n6_; clear n0_ n1_ n2_ n3_ n4_ n5_ n6_; (try clear hb); (try clear hkp); (try clear hy0)))
      (try simp only [Act.put, List.setIfInBounds_toArray, List.set_cons_zero, List.set_cons_succ])
      go_cut [61] (fun v61 wc => ∃ (kq : Nat) (x61_36 : Bool), v61 = .bool x61_36 ∧ Aside0 (laws_FnExactPutSave.j1 kq t316 t319 t328 x61_36 a0_0 l0_1 a0_2 a0_3 a0_4 = some r) ∧ Aside0 (kq ≤ kj10) ∧ Aside0 (Kd.R (Kd.int .u8) 5 wc w.heap.size (fun k_ => some k_ ≠ (v329 : Value).ownBlock) v317 t316) ∧ Aside0 (Kd.R (Kd.int .u8) 5 wc w.heap.size (fun k_ => some k_ ≠ (v317 : Value).ownBlock) v329 t328) ∧ Aside0 (Kd.R k84 84 wc w.heap.size (fun _ => True) (.slice Ao24 t321.length co24) t342) ∧ Aside0 (wc.heap[gb307]? = some (.cells #[.int .i64 a0_0, (.slice A0_1 l0_1.length c0_1), .int .i64 a0_2, .int .i64 a0_3, .int .i64 a0_4] 33 (0, 0))) ∧ Aside0 (wc.heap[gb327]? = some (.cells #[.int .i64 t320, (.slice Ao24 t321.length co24), .int .i64 t324, .int .i64 t325, .int .i64 t326] 37 (0, 0))) ∧ Aside0 (Below w.heap.size w wc))
      case first =>
       have H := HC37.out
       clear HC37
       by_cases c45 : t341 < 0
       ·
        rw [if_pos c45] at H
        have c45b0 : decide (t341 < 0) = true := decide_eq_true c45
        clear c45
        (first | rw [c45b0] | (simp only [i64_w, i32_w]; rw [c45b0]) | skip)
        have H' := Aside0.mk H
        clear H
        go_wp2
        go_meet
        case rel => exact ⟨_, (true), (by first | rfl | (simp; done) | (simp [*]; done)), H', ⟨by have := HJ10.out; first | omega | exact Nat.le_refl _⟩, ⟨by (with_reducible repeat (first | apply qf | apply qg | apply qh)); exact HO_4.out⟩, ⟨by (with_reducible repeat (first | apply qf | apply qg | apply qh)); exact HO_7.out⟩, ⟨by (with_reducible repeat (first | apply qf | apply qg | apply qh)); exact qq HO_328001.out (fun _ hk => trivial)⟩, ⟨by (with_reducible repeat (first | refine qi ?_ _ | refine qk ?_ | refine qj ?_ _)); exact BK307.out⟩, ⟨by (with_reducible repeat (first | refine qi ?_ _ | refine qk ?_ | refine qj ?_ _)); exact BK327.out⟩, ⟨by repeat (first | (with_reducible first | exact HB.out | apply qe | apply qa | apply qd | refine qc ?_ GE307.out | refine qc ?_ GE327.out) | exact HB.out)⟩⟩
       ·
        rw [if_neg c45] at H
        have c45b0 : decide (t341 < 0) = false := decide_eq_false c45
        clear c45
        (first | rw [c45b0] | (simp only [i64_w, i32_w]; rw [c45b0]) | skip)
        replace H := Option.bind_eq_some_iff.mp H
        obtain ⟨t343, A460, H⟩ := H
        replace H : (if t343 = true then (laws_FnExactPutSave.j1 kj10 t316 t319 t328 (t331 != t319) a0_0 l0_1 a0_2 a0_3 a0_4) else (laws_FnExactPutSave.j1 kj10 t316 t319 t328 true a0_0 l0_1 a0_2 a0_3 a0_4)) = some r := H
        have A46 := Aside0.mk A460
        clear A460
        by_cases c47 : t343 = true
        ·
         subst c47
         have H1 : (laws_FnExactPutSave.j1 kj10 t316 t319 t328 (t331 != t319) a0_0 l0_1 a0_2 a0_3 a0_4) = some r := by rw [if_pos rfl] at H; exact H
         clear H
         have H := H1
         clear H1
         have H' := Aside0.mk H
         clear H
         obtain ⟨Ao48, co48, eo48⟩ := qs HO_7.out
         subst eo48
         obtain ⟨Ao49, co49, eo49⟩ := qs HO_4.out
         subst eo49
         go_wp2_with (first | (go_at_call 34; (with_reducible refine (laws_eqByteS.calls kj10 _ _ t328 _ _ t316 true _ ?side1 ?side2 ?side3 ?side4 A46.out).mono ?_); (case side1 => repeat (first | exact (Kd.R_reads' HO_7.out).2.2 | (with_reducible refine qm ?_ _) | (with_reducible refine qn ?_ _) | (with_reducible refine qo ?_))); (case side2 => exact (Kd.R_reads' HO_7.out).2.1); (case side3 => repeat (first | exact (Kd.R_reads' HO_4.out).2.2 | (with_reducible refine qm ?_ _) | (with_reducible refine qn ?_ _) | (with_reducible refine qo ?_))); (case side4 => exact (Kd.R_reads' HO_4.out).2.1); rintro e w' ⟨rfl, ⟨nd, rfl⟩⟩))
         go_meet
         case rel => exact ⟨_, ((t331 != t319)), (by first | rfl | (simp; done) | (simp [*]; done)), H', ⟨by have := HJ10.out; first | omega | exact Nat.le_refl _⟩, ⟨by (with_reducible repeat (first | apply qf | apply qg | apply qh)); exact HO_4.out⟩, ⟨by (with_reducible repeat (first | apply qf | apply qg | apply qh)); exact HO_7.out⟩, ⟨by (with_reducible repeat (first | apply qf | apply qg | apply qh)); exact qq HO_328001.out (fun _ hk => trivial)⟩, ⟨by (with_reducible repeat (first | refine qi ?_ _ | refine qk ?_ | refine qj ?_ _)); exact BK307.out⟩, ⟨by (with_reducible repeat (first | refine qi ?_ _ | refine qk ?_ | refine qj ?_ _)); exact BK327.out⟩, ⟨by repeat (first | (with_reducible first | exact HB.out | apply qe | apply qa | apply qd | refine qc ?_ GE307.out | refine qc ?_ GE327.out) | exact HB.out)⟩⟩
        ·
         replace c47 := Bool.eq_false_iff.mpr c47
         subst c47
         have H1 : (laws_FnExactPutSave.j1 kj10 t316 t319 t328 true a0_0 l0_1 a0_2 a0_3 a0_4) = some r := by rw [if_neg (show ¬ (false = true) by decide)] at H; exact H
         clear H
         have H := H1
         clear H1
         have H' := Aside0.mk H
         clear H
         obtain ⟨Ao50, co50, eo50⟩ := qs HO_7.out
         subst eo50
         obtain ⟨Ao51, co51, eo51⟩ := qs HO_4.out
         subst eo51
         go_wp2_with (first | (go_at_call 34; (with_reducible refine (laws_eqByteS.calls kj10 _ _ t328 _ _ t316 false _ ?side1 ?side2 ?side3 ?side4 A46.out).mono ?_); (case side1 => repeat (first | exact (Kd.R_reads' HO_7.out).2.2 | (with_reducible refine qm ?_ _) | (with_reducible refine qn ?_ _) | (with_reducible refine qo ?_))); (case side2 => exact (Kd.R_reads' HO_7.out).2.1); (case side3 => repeat (first | exact (Kd.R_reads' HO_4.out).2.2 | (with_reducible refine qm ?_ _) | (with_reducible refine qn ?_ _) | (with_reducible refine qo ?_))); (case side4 => exact (Kd.R_reads' HO_4.out).2.1); rintro e w' ⟨rfl, ⟨nd, rfl⟩⟩))
         go_meet
         case rel => exact ⟨_, (true), (by first | rfl | (simp; done) | (simp [*]; done)), H', ⟨by have := HJ10.out; first | omega | exact Nat.le_refl _⟩, ⟨by (with_reducible repeat (first | apply qf | apply qg | apply qh)); exact HO_4.out⟩, ⟨by (with_reducible repeat (first | apply qf | apply qg | apply qh)); exact HO_7.out⟩, ⟨by (with_reducible repeat (first | apply qf | apply qg | apply qh)); exact qq HO_328001.out (fun _ hk => trivial)⟩, ⟨by (with_reducible repeat (first | refine qi ?_ _ | refine qk ?_ | refine qj ?_ _)); exact BK307.out⟩, ⟨by (with_reducible repeat (first | refine qi ?_ _ | refine qk ?_ | refine qj ?_ _)); exact BK327.out⟩, ⟨by repeat (first | (with_reducible first | exact HB.out | apply qe | apply qa | apply qd | refine qc ?_ GE307.out | refine qc ?_ GE327.out) | exact HB.out)⟩⟩
      case rest =>
       clear HC37
       try clear c2
       try clear p2
       try clear c3
       try clear c3b0
       try clear c4
       try clear c6
       try clear c20
       try clear c22
       try clear c24
       try clear c27
       try clear c32
       try clear c33
       try clear c34
       try clear c35
       try clear c42
       try clear c45
       try clear c45b0
       try clear c47
       try clear hcz13_0
       try clear hcz13_1
       try clear hcz13_2
       try clear hcz13_3
       try clear hcz13_4
       try clear hcz15_0
       try clear hcz15_1
       try clear hcz15_2
       try clear hcz15_3
       try clear hcz15_4
       try clear hcz19_0
       try clear hcz19_1
       try clear hcz19_2
       try clear hcz19_3
       try clear hcz19_4
       try clear hcz23_0
       try clear hcz23_1
       try clear hcz23_2
       try clear hcz23_3
       try clear hcz23_4
       try clear hcz43_0
       try clear hcz43_1
       try clear hcz43_2
       try clear hcz43_3
       try clear hcz43_4
       try clear hcz5_0
       try clear hcz5_1
       try clear hcz5_2
       try clear hcz5_3
       try clear hcz5_4
       try clear hfz13_0
       try clear hfz13_1
       try clear hfz13_2
       try clear hfz13_3
       try clear hfz13_4
       try clear hfz15_0
       try clear hfz15_1
       try clear hfz15_2
       try clear hfz15_3
       try clear hfz15_4
       try clear hfz19_0
       try clear hfz19_1
       try clear hfz19_2
       try clear hfz19_3
       try clear hfz19_4
       try clear hfz23_0
       try clear hfz23_1
       try clear hfz23_2
       try clear hfz23_3
       try clear hfz23_4
       try clear hfz43_0
       try clear hfz43_1
       try clear hfz43_2
       try clear hfz43_3
       try clear hfz43_4
       try clear hfz5_0
       try clear hfz5_1
       try clear hfz5_2
       try clear hfz5_3
       try clear hfz5_4
       try clear p2
       obtain ⟨kq, x61_36, rfl, HA, HJ36, HO_4, HO_7, HO_328001, BK307, BK327, HB⟩ := hcut
       have hl328001_36 := (Kd.R_reads' HO_328001.out).1
       rw [hl328001_36] at HO_328001
       (try simp only [hl328001_36])
       (try simp only [hl328001_36] at BK307)
       (try simp only [hl328001_36] at BK327)
       (try simp only [hl328001_36] at HO_4)
       (try simp only [hl328001_36] at HO_7)
       cases kq with
       | zero => exact absurd HA.out (by simp [laws_FnExactPutSave.j1])
       | succ kj36 =>
        have H := HA.out
        clear HA
        simp only [laws_FnExactPutSave.j1] at H
        by_cases c52 : x61_36 = true
        ·
         subst c52
         have H1 : (some false) = some r := by rw [if_pos rfl] at H; exact H
         clear H
         have H := H1
         clear H1
         obtain rfl := Option.some.inj H
         go_wp2
         go_ret
         exact ⟨by first | rfl | (simp [errW_none, errW_some] <;> rfl) | (simp [*, errW_none, errW_some] <;> rfl), by repeat (first | (with_reducible first | exact HB.out | apply qe | apply qa | apply qd | refine qc ?_ GE307.out | refine qc ?_ GE327.out) | exact HB.out)⟩
        ·
         replace c52 := Bool.eq_false_iff.mpr c52
         subst c52
         have H1 : ((laws_markByteS.f kj36 t328 1).bind fun bt344 => ((laws_heldByteS.f kj36 bt344.2 1).bind fun t346 => (if t346 < 0 then (some false) else (if t346 = bt344.1 then ((laws_toSave.f kj36 a0_0 l0_1 a0_2 a0_3 a0_4).bind fun bt347 => ((impl_PutSave.f kj36 bt347.1 bt347.2.1 bt347.2.2.1 bt347.2.2.2.1 bt347.2.2.2.2).bind fun bt354 => ((laws_eqByteS.f kj36 bt354.1 t316).bind fun t358 => (if t358 = true then (laws_FnExactPutSave.j2 kj36 bt344.2 bt344.1 (bt354.2 != t319)) else (laws_FnExactPutSave.j2 kj36 bt344.2 bt344.1 true))))) else (some false))))) = some r := by rw [if_neg (show ¬ (false = true) by decide)] at H; exact H
         clear H
         have H := H1
         clear H1
         replace H := Option.bind_eq_some_iff.mp H
         obtain ⟨⟨t344, t345⟩, A530, H⟩ := H
         replace H : ((laws_heldByteS.f kj36 t345 1).bind fun t346 => (if t346 < 0 then (some false) else (if t346 = t344 then ((laws_toSave.f kj36 a0_0 l0_1 a0_2 a0_3 a0_4).bind fun bt347 => ((impl_PutSave.f kj36 bt347.1 bt347.2.1 bt347.2.2.1 bt347.2.2.2.1 bt347.2.2.2.2).bind fun bt354 => ((laws_eqByteS.f kj36 bt354.1 t316).bind fun t358 => (if t358 = true then (laws_FnExactPutSave.j2 kj36 t345 t344 (bt354.2 != t319)) else (laws_FnExactPutSave.j2 kj36 t345 t344 true))))) else (some false)))) = some r := H
         have A53 := Aside0.mk A530
         clear A530
         replace H := Option.bind_eq_some_iff.mp H
         obtain ⟨t346, A540, H⟩ := H
         replace H : (if t346 < 0 then (some false) else (if t346 = t344 then ((laws_toSave.f kj36 a0_0 l0_1 a0_2 a0_3 a0_4).bind fun bt347 => ((impl_PutSave.f kj36 bt347.1 bt347.2.1 bt347.2.2.1 bt347.2.2.2.1 bt347.2.2.2.2).bind fun bt354 => ((laws_eqByteS.f kj36 bt354.1 t316).bind fun t358 => (if t358 = true then (laws_FnExactPutSave.j2 kj36 t345 t344 (bt354.2 != t319)) else (laws_FnExactPutSave.j2 kj36 t345 t344 true))))) else (some false))) = some r := H
         have A54 := Aside0.mk A540
         clear A540
         by_cases c55 : t346 < 0
         ·
          rw [if_pos c55] at H
          have c55b0 : decide (t346 < 0) = true := decide_eq_true c55
          clear c55
          obtain rfl := Option.some.inj H
          obtain ⟨Ao56, co56, eo56⟩ := qs HO_7.out
          subst eo56
          go_wp2_with (first | ((with_reducible refine qp (f := 36) rfl ?_); refine goesL_ (some 64) rfl rfl Try.func36 (by kernel_rfl) rfl #[.slice Ao56 t328.length co56, .int .i64 1] rfl (by (try simp only [List.map_toArray, List.map_cons, List.map_nil]); first | done | rfl | (simp only [List.length_drop, List.length_take]; rfl)) ?_; (with_reducible refine (laws_markByteS.calls kj36 (fun k_ => some k_ = (.slice Ao56 t328.length co56 : Value).ownBlock) (.slice Ao56 t328.length co56) t328 1 t344 t345 w _ ?side1 ?side2 A53.out).mono ?_); (case side1 => repeat (first | (with_reducible first | exact HB.out | apply qe | apply qa | apply qd | refine qc ?_ GE307.out | refine qc ?_ GE327.out) | exact HB.out)); (case side2 => exact Kd.R_tight rfl HO_7.out); rintro e w57 ⟨rfl, hy0, hb, hkp⟩; refine ⟨_, rfl, ?_⟩; have n0_ := Aside0.mk (qq (ok' := fun k_ => some k_ ≠ (.slice Ao56 t328.length co56 : Value).ownBlock) (Kd.R_keptB (HO_4.out) hkp (fun k_ hk_ hs_ => (hk_) hs_)) (fun k_ hk_ => hk_.1)); have n1_ := Aside0.mk (Kd.R_reok rfl hy0 (fun k_ e_ => HO_7.out.1 k_ e_)); have n2_ := Aside0.mk (qq (ok' := fun k_ => True) (Kd.R_keptB ((Kd.R_apart' HO_328001.out (Kd.R_typed HO_7.out) (by decide))) hkp (fun k_ hk_ hs_ => (hk_.2) hs_)) (fun k_ hk_ => trivial)); have n3_ := Aside0.mk (blk_kept (by (with_reducible repeat (first | refine qi ?_ _ | refine qk ?_ | refine qj ?_ _)); exact BK307.out) hkp (fun hs_ => (fun e_ => (Kd.R_ne HO_7.out BK307.out (by decide)) e_) hs_)); have n4_ := Aside0.mk (blk_kept (by (with_reducible repeat (first | refine qi ?_ _ | refine qk ?_ | refine qj ?_ _)); exact BK327.out) hkp (fun hs_ => (fun e_ => (Kd.R_ne HO_7.out BK327.out (by decide)) e_) hs_)); have n5_ := Aside0.mk (hb); clear HO_4; clear HO_7; clear HO_328001; clear BK307; clear BK327; clear HB; have HO_4 := n0_; have HO_7 := n1_; have HO_328001 := n2_; have BK307 := n3_; have BK327 := n4_; have HB := n5_; clear n0_ n1_ n2_ n3_ n4_ n5_; (try clear hb); (try clear hkp); (try clear hy0)) | ((with_reducible refine qp (f := 37) rfl ?_); refine goesL_ (some 67) rfl rfl Try.func37 (by kernel_rfl) rfl #[.slice Ao56 t345.length co56, .int .i64 1] rfl (by (try simp only [List.map_toArray, List.map_cons, List.map_nil]); first | done | (rw [show t345.length = t328.length from (Kd.R_reads' HO_7.out).1.symm] <;> rfl) | rfl | (simp only [List.length_drop, List.length_take]; rfl)) ?_; (with_reducible refine (laws_heldByteS.calls kj36 _ _ t345 1 t346 _ ?side1 ?side2 A54.out).mono ?_); (case side1 => repeat (first | exact (Kd.R_reads' HO_7.out).2.2 | (with_reducible refine qm ?_ _) | (with_reducible refine qn ?_ _) | (with_reducible refine qo ?_))); (case side2 => rw [show t345.length = t328.length from (Kd.R_reads' HO_7.out).1.symm]; exact (Kd.R_reads' HO_7.out).2.1); rintro e w' ⟨rfl, ⟨nd, rfl⟩⟩; refine ⟨_, rfl, ?_⟩))
          go_ret
          exact ⟨by first | rfl | (simp [errW_none, errW_some] <;> rfl) | (simp [*, errW_none, errW_some] <;> rfl), by repeat (first | (with_reducible first | exact HB.out | apply qe | apply qa | apply qd | refine qc ?_ GE307.out | refine qc ?_ GE327.out) | exact HB.out)⟩
         ·
          rw [if_neg c55] at H
          have c55b0 : decide (t346 < 0) = false := decide_eq_false c55
          clear c55
          by_cases c58 : t346 = t344
          ·
           rw [if_pos c58] at H
           have c58b0 : (t346 == t344) = true := beq_iff_eq.mpr c58
           have c58b1 : (t346 != t344) = false := bne_eq_false_iff_eq.mpr c58
           clear c58
           replace H := Option.bind_eq_some_iff.mp H
           obtain ⟨⟨t347, t348, t351, t352, t353⟩, A590, H⟩ := H
           replace H : ((impl_PutSave.f kj36 t347 t348 t351 t352 t353).bind fun bt354 => ((laws_eqByteS.f kj36 bt354.1 t316).bind fun t358 => (if t358 = true then (laws_FnExactPutSave.j2 kj36 t345 t344 (bt354.2 != t319)) else (laws_FnExactPutSave.j2 kj36 t345 t344 true)))) = some r := H
           have A59 := Aside0.mk A590
           clear A590
           replace H := Option.bind_eq_some_iff.mp H
           obtain ⟨⟨t354, t357⟩, A600, H⟩ := H
           replace H : ((laws_eqByteS.f kj36 t354 t316).bind fun t358 => (if t358 = true then (laws_FnExactPutSave.j2 kj36 t345 t344 (t357 != t319)) else (laws_FnExactPutSave.j2 kj36 t345 t344 true))) = some r := H
           have A60 := Aside0.mk A600
           clear A600
           have HC61 := Aside0.mk H
           clear H
           obtain ⟨Ao62, co62, eo62⟩ := qs HO_7.out
           subst eo62
           go_upto_region 25 with (first | ((with_reducible refine qp (f := 36) rfl ?_); refine goesL_ (some 64) rfl rfl Try.func36 (by kernel_rfl) rfl #[.slice Ao62 t328.length co62, .int .i64 1] rfl (by (try simp only [List.map_toArray, List.map_cons, List.map_nil]); first | done | rfl | (simp only [List.length_drop, List.length_take]; rfl)) ?_; (with_reducible refine (laws_markByteS.calls kj36 (fun k_ => some k_ = (.slice Ao62 t328.length co62 : Value).ownBlock) (.slice Ao62 t328.length co62) t328 1 t344 t345 w _ ?side1 ?side2 A53.out).mono ?_); (case side1 => repeat (first | (with_reducible first | exact HB.out | apply qe | apply qa | apply qd | refine qc ?_ GE307.out | refine qc ?_ GE327.out) | exact HB.out)); (case side2 => exact Kd.R_tight rfl HO_7.out); rintro e w63 ⟨rfl, hy0, hb, hkp⟩; refine ⟨_, rfl, ?_⟩; have n0_ := Aside0.mk (qq (ok' := fun k_ => some k_ ≠ (.slice Ao62 t328.length co62 : Value).ownBlock) (Kd.R_keptB (HO_4.out) hkp (fun k_ hk_ hs_ => (hk_) hs_)) (fun k_ hk_ => hk_.1)); have n1_ := Aside0.mk (Kd.R_reok rfl hy0 (fun k_ e_ => HO_7.out.1 k_ e_)); have n2_ := Aside0.mk (qq (ok' := fun k_ => True) (Kd.R_keptB ((Kd.R_apart' HO_328001.out (Kd.R_typed HO_7.out) (by decide))) hkp (fun k_ hk_ hs_ => (hk_.2) hs_)) (fun k_ hk_ => trivial)); have n3_ := Aside0.mk (blk_kept (by (with_reducible repeat (first | refine qi ?_ _ | refine qk ?_ | refine qj ?_ _)); exact BK307.out) hkp (fun hs_ => (fun e_ => (Kd.R_ne HO_7.out BK307.out (by decide)) e_) hs_)); have n4_ := Aside0.mk (blk_kept (by (with_reducible repeat (first | refine qi ?_ _ | refine qk ?_ | refine qj ?_ _)); exact BK327.out) hkp (fun hs_ => (fun e_ => (Kd.R_ne HO_7.out BK327.out (by decide)) e_) hs_)); have n5_ := Aside0.mk (hb); clear HO_4; clear HO_7; clear HO_328001; clear BK307; clear BK327; clear HB; have HO_4 := n0_; have HO_7 := n1_; have HO_328001 := n2_; have BK307 := n3_; have BK327 := n4_; have HB := n5_; clear n0_ n1_ n2_ n3_ n4_ n5_; (try clear hb); (try clear hkp); (try clear hy0)) | ((with_reducible refine qp (f := 37) rfl ?_); refine goesL_ (some 67) rfl rfl Try.func37 (by kernel_rfl) rfl #[.slice Ao62 t345.length co62, .int .i64 1] rfl (by (try simp only [List.map_toArray, List.map_cons, List.map_nil]); first | done | (rw [show t345.length = t328.length from (Kd.R_reads' HO_7.out).1.symm] <;> rfl) | rfl | (simp only [List.length_drop, List.length_take]; rfl)) ?_; (with_reducible refine (laws_heldByteS.calls kj36 _ _ t345 1 t346 _ ?side1 ?side2 A54.out).mono ?_); (case side1 => repeat (first | exact (Kd.R_reads' HO_7.out).2.2 | (with_reducible refine qm ?_ _) | (with_reducible refine qn ?_ _) | (with_reducible refine qo ?_))); (case side2 => rw [show t345.length = t328.length from (Kd.R_reads' HO_7.out).1.symm]; exact (Kd.R_reads' HO_7.out).2.1); rintro e w' ⟨rfl, ⟨nd, rfl⟩⟩; refine ⟨_, rfl, ?_⟩; have hnb64 := NB307_327.out; have hnc64 := NB327_307.out; have hcz65_0 : w63.cell? ⟨gb307, 0, none⟩ = some (.int .i64 a0_0) := (qb BK307.out 0).trans rfl; have hcz65_1 : w63.cell? ⟨gb307, 1, none⟩ = some (.slice A0_1 l0_1.length c0_1) := (qb BK307.out 1).trans rfl; have hcz65_2 : w63.cell? ⟨gb307, 2, none⟩ = some (.int .i64 a0_2) := (qb BK307.out 2).trans rfl; have hcz65_3 : w63.cell? ⟨gb307, 3, none⟩ = some (.int .i64 a0_3) := (qb BK307.out 3).trans rfl; have hcz65_4 : w63.cell? ⟨gb307, 4, none⟩ = some (.int .i64 a0_4) := (qb BK307.out 4).trans rfl; have hfz65_0 := ql BK307.out 0; have hfz65_1 := ql BK307.out 1; have hfz65_2 := ql BK307.out 2; have hfz65_3 := ql BK307.out 3; have hfz65_4 := ql BK307.out 4) | ((with_reducible refine qp (f := 22) rfl ?_); refine goesL_ (some 75) rfl rfl Try.func22 (by kernel_rfl) rfl #[.agg #[.int .i64 a0_0, .slice A0_1 l0_1.length c0_1, .int .i64 a0_2, .int .i64 a0_3, .int .i64 a0_4]] rfl (by (try simp only [List.map_toArray, List.map_cons, List.map_nil]); first | done | rfl | (simp only [List.length_drop, List.length_take]; rfl)) ?_; (with_reducible refine (laws_toSave.calls kj36 a0_0 _ _ l0_1 a0_2 a0_3 a0_4 t347 t348 t351 t352 t353 _ ?side1 ?side2 A59.out).mono ?_); (case side1 => repeat (first | exact (Kd.C_below HR0_1.out (by repeat (first | (with_reducible first | exact HB.out | apply qe | apply qa | apply qd | refine qc ?_ GE307.out | refine qc ?_ GE327.out) | exact HB.out))) | (with_reducible refine qm ?_ _) | (with_reducible refine qn ?_ _) | (with_reducible refine qo ?_))); (case side2 => exact HC0_1.out); rintro e w66 ⟨v349, rfl, ho0, hb⟩; refine ⟨_, rfl, ?_⟩; have n0_ := Aside0.mk (qr (by (with_reducible repeat (first | apply qf | apply qg | apply qh)); exact HO_4.out) hb); have n1_ := Aside0.mk (qr (by (with_reducible repeat (first | apply qf | apply qg | apply qh)); exact HO_7.out) hb); have n2_ := Aside0.mk (Kd.R_elder' (by (with_reducible repeat (first | apply qf | apply qg | apply qh)); exact HO_328001.out) (Kd.R_base ho0) hb); have n3_ := Aside0.mk (Kd.R_lower (Kd.R_new' ho0 (Kd.R_lt (by (with_reducible repeat (first | apply qf | apply qg | apply qh)); exact HO_328001.out))) (below_size (by repeat (first | (with_reducible first | exact HB.out | apply qe | apply qa | apply qd | refine qc ?_ GE307.out | refine qc ?_ GE327.out) | exact HB.out)))); have n4_ := Aside0.mk (blk_below (g := gb307) (o := .cells #[.int .i64 a0_0, .slice A0_1 l0_1.length c0_1, .int .i64 a0_2, .int .i64 a0_3, .int .i64 a0_4] 33 (0, 0)) (by (with_reducible repeat (first | refine qi ?_ _ | refine qk ?_ | refine qj ?_ _)); exact BK307.out) hb); have n5_ := Aside0.mk (blk_below (g := gb327) (o := .cells #[.int .i64 t320, .slice Ao24 t342.length co24, .int .i64 t324, .int .i64 t325, .int .i64 t326] 37 (0, 0)) (by (with_reducible repeat (first | refine qi ?_ _ | refine qk ?_ | refine qj ?_ _)); exact BK327.out) hb); have n6_ := Aside0.mk (below_step (by repeat (first | (with_reducible first | exact HB.out | apply qe | apply qa | apply qd | refine qc ?_ GE307.out | refine qc ?_ GE327.out) | exact HB.out)) hb); clear HO_4; clear HO_7; clear HO_328001; clear BK307; clear BK327; clear HB; have HO_4 := n0_; have HO_7 := n1_; have HO_328001 := n2_; have HO350 := n3_; have BK307 := n4_; have BK327 := n5_; have HB := n6_; clear n0_ n1_ n2_ n3_ n4_ n5_ n6_; (try clear hb); (try clear hb2); (try clear hk); (try clear hi); (try clear ho0); obtain ⟨Ao67, co67, eo67⟩ := qs HO350.out; subst eo67) | ((with_reducible refine qp (f := 33) rfl ?_); refine goesL_ (some 76) rfl rfl Try.func33 (by kernel_rfl) rfl #[.agg #[.int .i64 t347, .slice Ao67 t348.length co67, .int .i64 t351, .int .i64 t352, .int .i64 t353]] rfl (by (try simp only [List.map_toArray, List.map_cons, List.map_nil]); first | done | rfl | (simp only [List.length_drop, List.length_take]; rfl)) ?_; (with_reducible refine (impl_PutSave.calls kj36 t347 _ _ t348 t351 t352 t353 t354 t357 _ ?side1 ?side2 A60.out).mono ?_); (case side1 => repeat (first | exact (Kd.R_reads' HO350.out).2.2 | (with_reducible refine qm ?_ _) | (with_reducible refine qn ?_ _) | (with_reducible refine qo ?_))); (case side2 => exact (Kd.R_reads' HO350.out).2.1); rintro e w68 ⟨v355, rfl, ho0, hb⟩; refine ⟨_, rfl, ?_⟩; have n0_ := Aside0.mk (Kd.R_elder' (by (with_reducible repeat (first | apply qf | apply qg | apply qh)); exact HO_4.out) (Kd.R_base ho0) hb); have n1_ := Aside0.mk (Kd.R_elder' (by (with_reducible repeat (first | apply qf | apply qg | apply qh)); exact HO_7.out) (Kd.R_base ho0) hb); have n2_ := Aside0.mk (qr (by (with_reducible repeat (first | apply qf | apply qg | apply qh)); exact HO_328001.out) hb); have n3_ := Aside0.mk (qr (by (with_reducible repeat (first | apply qf | apply qg | apply qh)); exact HO350.out) hb); have n4_ := Aside0.mk (Kd.R_lower (Kd.R_new' (Kd.R_new' ho0 (Kd.R_lt (by (with_reducible repeat (first | apply qf | apply qg | apply qh)); exact HO_4.out))) (Kd.R_lt (by (with_reducible repeat (first | apply qf | apply qg | apply qh)); exact HO_7.out))) (below_size (by repeat (first | (with_reducible first | exact HB.out | apply qe | apply qa | apply qd | refine qc ?_ GE307.out | refine qc ?_ GE327.out) | exact HB.out)))); have n5_ := Aside0.mk (blk_below (g := gb307) (o := .cells #[.int .i64 a0_0, .slice A0_1 l0_1.length c0_1, .int .i64 a0_2, .int .i64 a0_3, .int .i64 a0_4] 33 (0, 0)) (by (with_reducible repeat (first | refine qi ?_ _ | refine qk ?_ | refine qj ?_ _)); exact BK307.out) hb); have n6_ := Aside0.mk (blk_below (g := gb327) (o := .cells #[.int .i64 t320, .slice Ao24 t342.length co24, .int .i64 t324, .int .i64 t325, .int .i64 t326] 37 (0, 0)) (by (with_reducible repeat (first | refine qi ?_ _ | refine qk ?_ | refine qj ?_ _)); exact BK327.out) hb); have n7_ := Aside0.mk (below_step (by repeat (first | (with_reducible first | exact HB.out | apply qe | apply qa | apply qd | refine qc ?_ GE307.out | refine qc ?_ GE327.out) | exact HB.out)) hb); clear HO_4; clear HO_7; clear HO_328001; clear HO350; clear BK307; clear BK327; clear HB; have HO_4 := n0_; have HO_7 := n1_; have HO_328001 := n2_; have HO350 := n3_; have HO356 := n4_; have BK307 := n5_; have BK327 := n6_; have HB := n7_; clear n0_ n1_ n2_ n3_ n4_ n5_ n6_ n7_; (try clear hb); (try clear hb2); (try clear hk); (try clear hi); (try clear ho0)))
           (try simp only [Act.put, List.setIfInBounds_toArray, List.set_cons_zero, List.set_cons_succ])
           go_cut [87] (fun v87 wc => ∃ (kq : Nat) (x87_60 : Bool), v87 = .bool x87_60 ∧ Aside0 (laws_FnExactPutSave.j2 kq t345 t344 x87_60 = some r) ∧ Aside0 (kq ≤ kj36) ∧ Aside0 (Kd.R (Kd.int .u8) 5 wc w.heap.size (fun _ => True) (.slice Ao62 t328.length co62) t345) ∧ Aside0 (Kd.R k84 84 wc w.heap.size (fun _ => True) (.slice Ao24 t342.length co24) t342) ∧ Aside0 (wc.heap[gb307]? = some (.cells #[.int .i64 a0_0, (.slice A0_1 l0_1.length c0_1), .int .i64 a0_2, .int .i64 a0_3, .int .i64 a0_4] 33 (0, 0))) ∧ Aside0 (wc.heap[gb327]? = some (.cells #[.int .i64 t320, (.slice Ao24 t342.length co24), .int .i64 t324, .int .i64 t325, .int .i64 t326] 37 (0, 0))) ∧ Aside0 (Below w.heap.size w wc))
           case first =>
            have H := HC61.out
            clear HC61
            replace H := Option.bind_eq_some_iff.mp H
            obtain ⟨t358, A690, H⟩ := H
            replace H : (if t358 = true then (laws_FnExactPutSave.j2 kj36 t345 t344 (t357 != t319)) else (laws_FnExactPutSave.j2 kj36 t345 t344 true)) = some r := H
            have A69 := Aside0.mk A690
            clear A690
            by_cases c70 : t358 = true
            ·
             subst c70
             have H1 : (laws_FnExactPutSave.j2 kj36 t345 t344 (t357 != t319)) = some r := by rw [if_pos rfl] at H; exact H
             clear H
             have H := H1
             clear H1
             have H' := Aside0.mk H
             clear H
             obtain ⟨Ao71, co71, eo71⟩ := qs HO356.out
             subst eo71
             obtain ⟨Ao72, co72, eo72⟩ := qs HO_4.out
             subst eo72
             go_wp2_with (first | ((with_reducible refine qp (f := 34) rfl ?_); refine goesL_ (some 81) rfl rfl Try.func34 (by kernel_rfl) rfl #[.slice Ao71 t354.length co71, .slice Ao72 t316.length co72] rfl (by (try simp only [List.map_toArray, List.map_cons, List.map_nil]); first | done | rfl | (simp only [List.length_drop, List.length_take]; rfl)) ?_; (with_reducible refine (laws_eqByteS.calls kj36 _ _ t354 _ _ t316 true _ ?side1 ?side2 ?side3 ?side4 A69.out).mono ?_); (case side1 => repeat (first | exact (Kd.R_reads' HO356.out).2.2 | (with_reducible refine qm ?_ _) | (with_reducible refine qn ?_ _) | (with_reducible refine qo ?_))); (case side2 => exact (Kd.R_reads' HO356.out).2.1); (case side3 => repeat (first | exact (Kd.R_reads' HO_4.out).2.2 | (with_reducible refine qm ?_ _) | (with_reducible refine qn ?_ _) | (with_reducible refine qo ?_))); (case side4 => exact (Kd.R_reads' HO_4.out).2.1); rintro e w' ⟨rfl, ⟨nd, rfl⟩⟩; refine ⟨_, rfl, ?_⟩))
             go_meet
             case rel => exact ⟨_, ((t357 != t319)), (by first | rfl | (simp; done) | (simp [*]; done)), H', ⟨by have := HJ10.out; have := HJ36.out; first | omega | exact Nat.le_refl _⟩, ⟨by (try simp only [hl328001_36]); (with_reducible repeat (first | apply qf | apply qg | apply qh)); exact qq HO_7.out (fun _ hk => trivial)⟩, ⟨by (try simp only [hl328001_36]); (with_reducible repeat (first | apply qf | apply qg | apply qh)); exact qq HO_328001.out (fun _ hk => trivial)⟩, ⟨by (try simp only [hl328001_36]); (with_reducible repeat (first | refine qi ?_ _ | refine qk ?_ | refine qj ?_ _)); exact BK307.out⟩, ⟨by (try simp only [hl328001_36]); (with_reducible repeat (first | refine qi ?_ _ | refine qk ?_ | refine qj ?_ _)); exact BK327.out⟩, ⟨by repeat (first | (with_reducible first | exact HB.out | apply qe | apply qa | apply qd | refine qc ?_ GE307.out | refine qc ?_ GE327.out) | exact HB.out)⟩⟩
            ·
             replace c70 := Bool.eq_false_iff.mpr c70
             subst c70
             have H1 : (laws_FnExactPutSave.j2 kj36 t345 t344 true) = some r := by rw [if_neg (show ¬ (false = true) by decide)] at H; exact H
             clear H
             have H := H1
             clear H1
             have H' := Aside0.mk H
             clear H
             obtain ⟨Ao73, co73, eo73⟩ := qs HO356.out
             subst eo73
             obtain ⟨Ao74, co74, eo74⟩ := qs HO_4.out
             subst eo74
             go_wp2_with (first | ((with_reducible refine qp (f := 34) rfl ?_); refine goesL_ (some 81) rfl rfl Try.func34 (by kernel_rfl) rfl #[.slice Ao73 t354.length co73, .slice Ao74 t316.length co74] rfl (by (try simp only [List.map_toArray, List.map_cons, List.map_nil]); first | done | rfl | (simp only [List.length_drop, List.length_take]; rfl)) ?_; (with_reducible refine (laws_eqByteS.calls kj36 _ _ t354 _ _ t316 false _ ?side1 ?side2 ?side3 ?side4 A69.out).mono ?_); (case side1 => repeat (first | exact (Kd.R_reads' HO356.out).2.2 | (with_reducible refine qm ?_ _) | (with_reducible refine qn ?_ _) | (with_reducible refine qo ?_))); (case side2 => exact (Kd.R_reads' HO356.out).2.1); (case side3 => repeat (first | exact (Kd.R_reads' HO_4.out).2.2 | (with_reducible refine qm ?_ _) | (with_reducible refine qn ?_ _) | (with_reducible refine qo ?_))); (case side4 => exact (Kd.R_reads' HO_4.out).2.1); rintro e w' ⟨rfl, ⟨nd, rfl⟩⟩; refine ⟨_, rfl, ?_⟩))
             go_meet
             case rel => exact ⟨_, (true), (by first | rfl | (simp; done) | (simp [*]; done)), H', ⟨by have := HJ10.out; have := HJ36.out; first | omega | exact Nat.le_refl _⟩, ⟨by (try simp only [hl328001_36]); (with_reducible repeat (first | apply qf | apply qg | apply qh)); exact qq HO_7.out (fun _ hk => trivial)⟩, ⟨by (try simp only [hl328001_36]); (with_reducible repeat (first | apply qf | apply qg | apply qh)); exact qq HO_328001.out (fun _ hk => trivial)⟩, ⟨by (try simp only [hl328001_36]); (with_reducible repeat (first | refine qi ?_ _ | refine qk ?_ | refine qj ?_ _)); exact BK307.out⟩, ⟨by (try simp only [hl328001_36]); (with_reducible repeat (first | refine qi ?_ _ | refine qk ?_ | refine qj ?_ _)); exact BK327.out⟩, ⟨by repeat (first | (with_reducible first | exact HB.out | apply qe | apply qa | apply qd | refine qc ?_ GE307.out | refine qc ?_ GE327.out) | exact HB.out)⟩⟩
           case rest =>
            clear HC61
            try clear c2
            try clear p2
            try clear c3
            try clear c3b0
            try clear c4
            try clear c5
            try clear c6
            try clear c7
            try clear c20
            try clear c22
            try clear c24
            try clear c27
            try clear c32
            try clear c33
            try clear c34
            try clear c35
            try clear c36
            try clear c37
            try clear c42
            try clear c45
            try clear c45b0
            try clear c47
            try clear c52
            try clear c55
            try clear c55b0
            try clear c58
            try clear c58b0
            try clear c58b1
            try clear c64
            try clear c70
            try clear hcz13_0
            try clear hcz13_1
            try clear hcz13_2
            try clear hcz13_3
            try clear hcz13_4
            try clear hcz15_0
            try clear hcz15_1
            try clear hcz15_2
            try clear hcz15_3
            try clear hcz15_4
            try clear hcz19_0
            try clear hcz19_1
            try clear hcz19_2
            try clear hcz19_3
            try clear hcz19_4
            try clear hcz23_0
            try clear hcz23_1
            try clear hcz23_2
            try clear hcz23_3
            try clear hcz23_4
            try clear hcz43_0
            try clear hcz43_1
            try clear hcz43_2
            try clear hcz43_3
            try clear hcz43_4
            try clear hcz5_0
            try clear hcz5_1
            try clear hcz5_2
            try clear hcz5_3
            try clear hcz5_4
            try clear hcz65_0
            try clear hcz65_1
            try clear hcz65_2
            try clear hcz65_3
            try clear hcz65_4
            try clear hfz13_0
            try clear hfz13_1
            try clear hfz13_2
            try clear hfz13_3
            try clear hfz13_4
            try clear hfz15_0
            try clear hfz15_1
            try clear hfz15_2
            try clear hfz15_3
            try clear hfz15_4
            try clear hfz19_0
            try clear hfz19_1
            try clear hfz19_2
            try clear hfz19_3
            try clear hfz19_4
            try clear hfz23_0
            try clear hfz23_1
            try clear hfz23_2
            try clear hfz23_3
            try clear hfz23_4
            try clear hfz43_0
            try clear hfz43_1
            try clear hfz43_2
            try clear hfz43_3
            try clear hfz43_4
            try clear hfz5_0
            try clear hfz5_1
            try clear hfz5_2
            try clear hfz5_3
            try clear hfz5_4
            try clear hfz65_0
            try clear hfz65_1
            try clear hfz65_2
            try clear hfz65_3
            try clear hfz65_4
            try clear p2
            obtain ⟨kq, x87_60, rfl, HA, HJ60, HO_7, HO_328001, BK307, BK327, HB⟩ := hcut
            have hl7_60 := (Kd.R_reads' HO_7.out).1
            rw [hl7_60] at HO_7
            (try simp only [hl7_60])
            (try simp only [hl7_60] at BK307)
            (try simp only [hl7_60] at BK327)
            (try simp only [hl7_60] at HO_328001)
            cases kq with
            | zero => exact absurd HA.out (by simp [laws_FnExactPutSave.j2])
            | succ kj60 =>
             have H := HA.out
             clear HA
             simp only [laws_FnExactPutSave.j2] at H
             by_cases c75 : x87_60 = true
             ·
              subst c75
              have H1 : (some false) = some r := by rw [if_pos rfl] at H; exact H
              clear H
              have H := H1
              clear H1
              obtain rfl := Option.some.inj H
              go_wp2
              go_ret
              exact ⟨by first | rfl | (simp [errW_none, errW_some] <;> rfl) | (simp [*, errW_none, errW_some] <;> rfl), by repeat (first | (with_reducible first | exact HB.out | apply qe | apply qa | apply qd | refine qc ?_ GE307.out | refine qc ?_ GE327.out) | exact HB.out)⟩
             ·
              replace c75 := Bool.eq_false_iff.mpr c75
              subst c75
              have H1 : ((laws_heldByteS.f kj60 t345 1).bind fun t359 => (if t359 < 0 then (some false) else (if t359 = t344 then (some true) else (some false)))) = some r := by rw [if_neg (show ¬ (false = true) by decide)] at H; exact H
              clear H
              have H := H1
              clear H1
              replace H := Option.bind_eq_some_iff.mp H
              obtain ⟨t359, A760, H⟩ := H
              replace H : (if t359 < 0 then (some false) else (if t359 = t344 then (some true) else (some false))) = some r := H
              have A76 := Aside0.mk A760
              clear A760
              by_cases c77 : t359 < 0
              ·
               rw [if_pos c77] at H
               have c77b0 : decide (t359 < 0) = true := decide_eq_true c77
               clear c77
               obtain rfl := Option.some.inj H
               go_wp2_with (first | ((with_reducible refine qp (f := 37) rfl ?_); refine goesL_ (some 90) rfl rfl Try.func37 (by kernel_rfl) rfl #[.slice Ao62 t345.length co62, .int .i64 1] rfl (by (try simp only [List.map_toArray, List.map_cons, List.map_nil]); first | done | rfl | (simp only [List.length_drop, List.length_take]; rfl)) ?_; (with_reducible refine (laws_heldByteS.calls kj60 _ _ t345 1 t359 _ ?side1 ?side2 A76.out).mono ?_); (case side1 => repeat (first | exact (Kd.R_reads' HO_7.out).2.2 | (with_reducible refine qm ?_ _) | (with_reducible refine qn ?_ _) | (with_reducible refine qo ?_))); (case side2 => exact (Kd.R_reads' HO_7.out).2.1); rintro e w' ⟨rfl, ⟨nd, rfl⟩⟩; refine ⟨_, rfl, ?_⟩))
               go_ret
               exact ⟨by first | rfl | (simp [errW_none, errW_some] <;> rfl) | (simp [*, errW_none, errW_some] <;> rfl), by repeat (first | (with_reducible first | exact HB.out | apply qe | apply qa | apply qd | refine qc ?_ GE307.out | refine qc ?_ GE327.out) | exact HB.out)⟩
              ·
               rw [if_neg c77] at H
               have c77b0 : decide (t359 < 0) = false := decide_eq_false c77
               clear c77
               by_cases c78 : t359 = t344
               ·
                rw [if_pos c78] at H
                have c78b0 : (t359 == t344) = true := beq_iff_eq.mpr c78
                have c78b1 : (t359 != t344) = false := bne_eq_false_iff_eq.mpr c78
                clear c78
                obtain rfl := Option.some.inj H
                go_wp2_with (first | ((with_reducible refine qp (f := 37) rfl ?_); refine goesL_ (some 90) rfl rfl Try.func37 (by kernel_rfl) rfl #[.slice Ao62 t345.length co62, .int .i64 1] rfl (by (try simp only [List.map_toArray, List.map_cons, List.map_nil]); first | done | rfl | (simp only [List.length_drop, List.length_take]; rfl)) ?_; (with_reducible refine (laws_heldByteS.calls kj60 _ _ t345 1 t359 _ ?side1 ?side2 A76.out).mono ?_); (case side1 => repeat (first | exact (Kd.R_reads' HO_7.out).2.2 | (with_reducible refine qm ?_ _) | (with_reducible refine qn ?_ _) | (with_reducible refine qo ?_))); (case side2 => exact (Kd.R_reads' HO_7.out).2.1); rintro e w' ⟨rfl, ⟨nd, rfl⟩⟩; refine ⟨_, rfl, ?_⟩))
                go_ret
                exact ⟨by first | rfl | (simp [errW_none, errW_some] <;> rfl) | (simp [*, errW_none, errW_some] <;> rfl), by repeat (first | (with_reducible first | exact HB.out | apply qe | apply qa | apply qd | refine qc ?_ GE307.out | refine qc ?_ GE327.out) | exact HB.out)⟩
               ·
                rw [if_neg c78] at H
                have c78b0 : (t359 == t344) = false := beq_eq_false_iff_ne.mpr c78
                have c78b1 : (t359 != t344) = true := bne_iff_ne.mpr c78
                obtain rfl := Option.some.inj H
                go_wp2_with (first | ((with_reducible refine qp (f := 37) rfl ?_); refine goesL_ (some 90) rfl rfl Try.func37 (by kernel_rfl) rfl #[.slice Ao62 t345.length co62, .int .i64 1] rfl (by (try simp only [List.map_toArray, List.map_cons, List.map_nil]); first | done | rfl | (simp only [List.length_drop, List.length_take]; rfl)) ?_; (with_reducible refine (laws_heldByteS.calls kj60 _ _ t345 1 t359 _ ?side1 ?side2 A76.out).mono ?_); (case side1 => repeat (first | exact (Kd.R_reads' HO_7.out).2.2 | (with_reducible refine qm ?_ _) | (with_reducible refine qn ?_ _) | (with_reducible refine qo ?_))); (case side2 => exact (Kd.R_reads' HO_7.out).2.1); rintro e w' ⟨rfl, ⟨nd, rfl⟩⟩; refine ⟨_, rfl, ?_⟩))
                go_ret
                exact ⟨by first | rfl | (simp [errW_none, errW_some] <;> rfl) | (simp [*, errW_none, errW_some] <;> rfl), by repeat (first | (with_reducible first | exact HB.out | apply qe | apply qa | apply qd | refine qc ?_ GE307.out | refine qc ?_ GE327.out) | exact HB.out)⟩
          ·
           rw [if_neg c58] at H
           have c58b0 : (t346 == t344) = false := beq_eq_false_iff_ne.mpr c58
           have c58b1 : (t346 != t344) = true := bne_iff_ne.mpr c58
           obtain rfl := Option.some.inj H
           obtain ⟨Ao79, co79, eo79⟩ := qs HO_7.out
           subst eo79
           go_wp2_with (first | ((with_reducible refine qp (f := 36) rfl ?_); refine goesL_ (some 64) rfl rfl Try.func36 (by kernel_rfl) rfl #[.slice Ao79 t328.length co79, .int .i64 1] rfl (by (try simp only [List.map_toArray, List.map_cons, List.map_nil]); first | done | rfl | (simp only [List.length_drop, List.length_take]; rfl)) ?_; (with_reducible refine (laws_markByteS.calls kj36 (fun k_ => some k_ = (.slice Ao79 t328.length co79 : Value).ownBlock) (.slice Ao79 t328.length co79) t328 1 t344 t345 w _ ?side1 ?side2 A53.out).mono ?_); (case side1 => repeat (first | (with_reducible first | exact HB.out | apply qe | apply qa | apply qd | refine qc ?_ GE307.out | refine qc ?_ GE327.out) | exact HB.out)); (case side2 => exact Kd.R_tight rfl HO_7.out); rintro e w80 ⟨rfl, hy0, hb, hkp⟩; refine ⟨_, rfl, ?_⟩; have n0_ := Aside0.mk (qq (ok' := fun k_ => some k_ ≠ (.slice Ao79 t328.length co79 : Value).ownBlock) (Kd.R_keptB (HO_4.out) hkp (fun k_ hk_ hs_ => (hk_) hs_)) (fun k_ hk_ => hk_.1)); have n1_ := Aside0.mk (Kd.R_reok rfl hy0 (fun k_ e_ => HO_7.out.1 k_ e_)); have n2_ := Aside0.mk (qq (ok' := fun k_ => True) (Kd.R_keptB ((Kd.R_apart' HO_328001.out (Kd.R_typed HO_7.out) (by decide))) hkp (fun k_ hk_ hs_ => (hk_.2) hs_)) (fun k_ hk_ => trivial)); have n3_ := Aside0.mk (blk_kept (by (with_reducible repeat (first | refine qi ?_ _ | refine qk ?_ | refine qj ?_ _)); exact BK307.out) hkp (fun hs_ => (fun e_ => (Kd.R_ne HO_7.out BK307.out (by decide)) e_) hs_)); have n4_ := Aside0.mk (blk_kept (by (with_reducible repeat (first | refine qi ?_ _ | refine qk ?_ | refine qj ?_ _)); exact BK327.out) hkp (fun hs_ => (fun e_ => (Kd.R_ne HO_7.out BK327.out (by decide)) e_) hs_)); have n5_ := Aside0.mk (hb); clear HO_4; clear HO_7; clear HO_328001; clear BK307; clear BK327; clear HB; have HO_4 := n0_; have HO_7 := n1_; have HO_328001 := n2_; have BK307 := n3_; have BK327 := n4_; have HB := n5_; clear n0_ n1_ n2_ n3_ n4_ n5_; (try clear hb); (try clear hkp); (try clear hy0)) | ((with_reducible refine qp (f := 37) rfl ?_); refine goesL_ (some 67) rfl rfl Try.func37 (by kernel_rfl) rfl #[.slice Ao79 t345.length co79, .int .i64 1] rfl (by (try simp only [List.map_toArray, List.map_cons, List.map_nil]); first | done | (rw [show t345.length = t328.length from (Kd.R_reads' HO_7.out).1.symm] <;> rfl) | rfl | (simp only [List.length_drop, List.length_take]; rfl)) ?_; (with_reducible refine (laws_heldByteS.calls kj36 _ _ t345 1 t346 _ ?side1 ?side2 A54.out).mono ?_); (case side1 => repeat (first | exact (Kd.R_reads' HO_7.out).2.2 | (with_reducible refine qm ?_ _) | (with_reducible refine qn ?_ _) | (with_reducible refine qo ?_))); (case side2 => rw [show t345.length = t328.length from (Kd.R_reads' HO_7.out).1.symm]; exact (Kd.R_reads' HO_7.out).2.1); rintro e w' ⟨rfl, ⟨nd, rfl⟩⟩; refine ⟨_, rfl, ?_⟩))
           go_ret
           exact ⟨by first | rfl | (simp [errW_none, errW_some] <;> rfl) | (simp [*, errW_none, errW_some] <;> rfl), by repeat (first | (with_reducible first | exact HB.out | apply qe | apply qa | apply qd | refine qc ?_ GE307.out | refine qc ?_ GE327.out) | exact HB.out)⟩
     ·
      replace c35 := Bool.eq_false_iff.mpr c35
      subst c35
      have H1 : (some false) = some r := by rw [if_neg (show ¬ (false = true) by decide)] at H; exact H
      clear H
      have H := H1
      clear H1
      obtain rfl := Option.some.inj H
      try go_wp2
      have n0_ := Aside0.mk (qh HO_4.out)
      have n1_ := Aside0.mk (qh HO_7.out)
      have n2_ := Aside0.mk (qh HO_328001.out)
      have n3_ := Aside0.mk (qk BK307.out)
      have n4_ := Aside0.mk (qk BK327.out)
      have n5_ := Aside0.mk (qd HB.out)
      clear HO_4
      clear HO_7
      clear HO_328001
      clear BK307
      clear BK327
      clear HB
      have HO_4 := n0_
      have HO_7 := n1_
      have HO_328001 := n2_
      have BK307 := n3_
      have BK327 := n4_
      have HB := n5_
      clear n0_ n1_ n2_ n3_ n4_ n5_
      refine start_ (n := 5) (S := fun w' => w'.cell? ⟨gb327, 0, none⟩ = some (.int .i64 t320) ∧ w'.cell? ⟨gb327, 1, none⟩ = some (.slice Ao24 t321.length co24) ∧ w'.cell? ⟨gb327, 2, none⟩ = some (.int .i64 t324) ∧ w'.cell? ⟨gb327, 3, none⟩ = some (.int .i64 t325) ∧ w'.cell? ⟨gb327, 4, none⟩ = some (.int .i64 t326) ∧ w'.cell? ⟨gb307, 0, none⟩ = some (.int .i64 a0_0) ∧ w'.cell? ⟨gb307, 1, none⟩ = some (.slice A0_1 l0_1.length c0_1) ∧ w'.cell? ⟨gb307, 2, none⟩ = some (.int .i64 a0_2) ∧ w'.cell? ⟨gb307, 3, none⟩ = some (.int .i64 a0_3) ∧ w'.cell? ⟨gb307, 4, none⟩ = some (.int .i64 a0_4)) (ds := []) #[false, false, false, false, false] (by kernel_rfl) rfl rfl ⟨(qb BK327.out 0).trans rfl, (qb BK327.out 1).trans rfl, (qb BK327.out 2).trans rfl, (qb BK327.out 3).trans rfl, (qb BK327.out 4).trans rfl, (qb BK307.out 0).trans rfl, (qb BK307.out 1).trans rfl, (qb BK307.out 2).trans rfl, (qb BK307.out 3).trans rfl, (qb BK307.out 4).trans rfl⟩ (fun hHeld => ?_)
      generalize wc.drew = w81 at HO_4 HO_7 HO_328001 BK307 BK327 HB hHeld ⊢
      refine take_ (i := 0) (N := some 41) (v := ?_) (a' := ?_) #[true, false, false, false, false] rfl rfl (by kernel_rfl) (fun _ _ _ h => h) (Or.inl ⟨by rfl, ?_⟩) hHeld ?_ ?_
      rotate_left
      ·
       rintro w' ⟨s0, s1, s2, s3, s4, s5, s6, s7, s8, s9⟩
       go_simp
       with_reducible rfl
      rotate_left
      ·
       simp only [Act.put, List.setIfInBounds_toArray, List.set_cons_zero, List.set_cons_succ, i64_w, i32_w]
       rfl
      refine take_ (i := 1) (N := some 42) (v := ?_) (a' := ?_) #[true, true, false, false, false] rfl rfl (by kernel_rfl) (fun _ _ _ h => h) (Or.inl ⟨by rfl, ?_⟩) hHeld ?_ ?_
      rotate_left
      ·
       rintro w' ⟨s0, s1, s2, s3, s4, s5, s6, s7, s8, s9⟩
       go_simp
       with_reducible rfl
      rotate_left
      ·
       simp only [Act.put, List.setIfInBounds_toArray, List.set_cons_zero, List.set_cons_succ, i64_w, i32_w]
       rfl
      refine one_ (i := 2) (N := some 43) #[true, true, true, false, false] rfl rfl (by kernel_rfl) (by decide) (fun K hK => ?_)
      refine goes_ Try.func22 (by kernel_rfl) rfl #[.agg #[.int .i64 a0_0, .slice A0_1 l0_1.length c0_1, .int .i64 a0_2, .int .i64 a0_3, .int .i64 a0_4]] (by rfl) rfl rfl (by (try simp only [List.map_toArray, List.map_cons, List.map_nil]); first | done | rfl | (simp only [List.length_drop, List.length_take]; rfl)) ?_
      with_reducible refine (laws_toSave.calls kj10 a0_0 _ _ l0_1 a0_2 a0_3 a0_4 t333 t334 t337 t338 t339 _ ?side1 ?side2 A33.out).mono ?_
      (case side1 => repeat (first | exact (Kd.C_below HR0_1.out HB.out) | (with_reducible refine qm ?_ _) | (with_reducible refine qn ?_ _) | (with_reducible refine qo ?_)))
      (case side2 => exact HC0_1.out)
      rintro e w82 ⟨v335, rfl, ho0, hb⟩
      refine ⟨_, rfl, ?_⟩
      have n0_ := Aside0.mk (qr (by (with_reducible repeat (first | apply qf | apply qg | apply qh)); exact HO_4.out) hb)
      have n1_ := Aside0.mk (qr (by (with_reducible repeat (first | apply qf | apply qg | apply qh)); exact HO_7.out) hb)
      have n2_ := Aside0.mk (Kd.R_elder' (by (with_reducible repeat (first | apply qf | apply qg | apply qh)); exact HO_328001.out) (Kd.R_base ho0) hb)
      have n3_ := Aside0.mk (Kd.R_lower (Kd.R_new' ho0 (Kd.R_lt (by (with_reducible repeat (first | apply qf | apply qg | apply qh)); exact HO_328001.out))) (below_size (by repeat (first | (with_reducible first | exact HB.out | apply qe | apply qa | apply qd | refine qc ?_ GE307.out | refine qc ?_ GE327.out) | exact HB.out))))
      have n4_ := Aside0.mk (blk_below (g := gb307) (o := .cells #[.int .i64 a0_0, .slice A0_1 l0_1.length c0_1, .int .i64 a0_2, .int .i64 a0_3, .int .i64 a0_4] 33 (0, 0)) (by (with_reducible repeat (first | refine qi ?_ _ | refine qk ?_ | refine qj ?_ _)); exact BK307.out) hb)
      have n5_ := Aside0.mk (blk_below (g := gb327) (o := .cells #[.int .i64 t320, .slice Ao24 t321.length co24, .int .i64 t324, .int .i64 t325, .int .i64 t326] 37 (0, 0)) (by (with_reducible repeat (first | refine qi ?_ _ | refine qk ?_ | refine qj ?_ _)); exact BK327.out) hb)
      have n6_ := Aside0.mk (below_step (by repeat (first | (with_reducible first | exact HB.out | apply qe | apply qa | apply qd | refine qc ?_ GE307.out | refine qc ?_ GE327.out) | exact HB.out)) hb)
      clear HO_4
      clear HO_7
      clear HO_328001
      clear BK307
      clear BK327
      clear HB
      have HO_4 := n0_
      have HO_7 := n1_
      have HO_328001 := n2_
      have HO336 := n3_
      have BK307 := n4_
      have BK327 := n5_
      have HB := n6_
      clear n0_ n1_ n2_ n3_ n4_ n5_ n6_
      (try clear hb)
      (try clear hb2)
      (try clear hk)
      (try clear hi)
      (try clear ho0)
      obtain ⟨Ao83, co83, eo83⟩ := qs HO336.out
      (first | subst eo83 | (injection eo83 with f1_ f2_ f3_; have f4_ := f1_.symm; have f5_ := f3_.symm; clear f1_ f2_ f3_; subst f4_; subst f5_))
      refine hK.out _ _ ⟨(qb BK327.out 0).trans rfl, (qb BK327.out 1).trans rfl, (qb BK327.out 2).trans rfl, (qb BK327.out 3).trans rfl, (qb BK327.out 4).trans rfl, (qb BK307.out 0).trans rfl, (qb BK307.out 1).trans rfl, (qb BK307.out 2).trans rfl, (qb BK307.out 3).trans rfl, (qb BK307.out 4).trans rfl⟩ (fun hHeld => ?_)
      clear hK K
      refine norm_ (a' := ?_) ?_ ?_
      rotate_left
      ·
       show Act.put _ (some 43) _ = _
       simp only [Act.put, List.setIfInBounds_toArray, List.set_cons_zero, List.set_cons_succ, i64_w, i32_w]
       rfl
      refine one_ (i := 3) (N := some 44) #[true, true, true, true, false] rfl rfl (by kernel_rfl) (by decide) (fun K hK => ?_)
      refine goes_ Try.func24 (by kernel_rfl) rfl #[.agg #[.int .i64 t320, .slice Ao24 t321.length co24, .int .i64 t324, .int .i64 t325, .int .i64 t326], .agg #[.int .i64 t333, .slice Ao83 t334.length co83, .int .i64 t337, .int .i64 t338, .int .i64 t339]] (by rfl) rfl rfl (by (try simp only [List.map_toArray, List.map_cons, List.map_nil]); first | done | rfl | (simp only [List.length_drop, List.length_take]; rfl)) ?_
      with_reducible refine (laws_eqSave.calls kj10 t320 _ _ t321 t324 t325 t326 t333 _ _ t334 t337 t338 t339 false _ ?side1 ?side2 ?side3 ?side4 A34.out).mono ?_
      (case side1 => repeat (first | exact (Kd.R_reads' HO_328001.out).2.2 | (with_reducible refine qm ?_ _) | (with_reducible refine qn ?_ _) | (with_reducible refine qo ?_)))
      (case side2 => exact (Kd.R_reads' HO_328001.out).2.1)
      (case side3 => repeat (first | exact (Kd.R_reads' HO336.out).2.2 | (with_reducible refine qm ?_ _) | (with_reducible refine qn ?_ _) | (with_reducible refine qo ?_)))
      (case side4 => exact (Kd.R_reads' HO336.out).2.1)
      rintro e w84 ⟨rfl, hb⟩
      refine ⟨_, rfl, ?_⟩
      have n0_ := Aside0.mk (qr (by (with_reducible repeat (first | apply qf | apply qg | apply qh)); exact HO_4.out) hb)
      have n1_ := Aside0.mk (qr (by (with_reducible repeat (first | apply qf | apply qg | apply qh)); exact HO_7.out) hb)
      have n2_ := Aside0.mk (qr (by (with_reducible repeat (first | apply qf | apply qg | apply qh)); exact HO_328001.out) hb)
      have n3_ := Aside0.mk (qr (by (with_reducible repeat (first | apply qf | apply qg | apply qh)); exact HO336.out) hb)
      have n4_ := Aside0.mk (blk_below (g := gb307) (o := .cells #[.int .i64 a0_0, .slice A0_1 l0_1.length c0_1, .int .i64 a0_2, .int .i64 a0_3, .int .i64 a0_4] 33 (0, 0)) (by (with_reducible repeat (first | refine qi ?_ _ | refine qk ?_ | refine qj ?_ _)); exact BK307.out) hb)
      have n5_ := Aside0.mk (blk_below (g := gb327) (o := .cells #[.int .i64 t320, .slice Ao24 t321.length co24, .int .i64 t324, .int .i64 t325, .int .i64 t326] 37 (0, 0)) (by (with_reducible repeat (first | refine qi ?_ _ | refine qk ?_ | refine qj ?_ _)); exact BK327.out) hb)
      have n6_ := Aside0.mk (below_step (by repeat (first | (with_reducible first | exact HB.out | apply qe | apply qa | apply qd | refine qc ?_ GE307.out | refine qc ?_ GE327.out) | exact HB.out)) hb)
      clear HO_4
      clear HO_7
      clear HO_328001
      clear HO336
      clear BK307
      clear BK327
      clear HB
      have HO_4 := n0_
      have HO_7 := n1_
      have HO_328001 := n2_
      have HO336 := n3_
      have BK307 := n4_
      have BK327 := n5_
      have HB := n6_
      clear n0_ n1_ n2_ n3_ n4_ n5_ n6_
      (try clear hb)
      (try clear hb2)
      (try clear hk)
      (try clear hi)
      refine hK.out _ _ ⟨(qb BK327.out 0).trans rfl, (qb BK327.out 1).trans rfl, (qb BK327.out 2).trans rfl, (qb BK327.out 3).trans rfl, (qb BK327.out 4).trans rfl, (qb BK307.out 0).trans rfl, (qb BK307.out 1).trans rfl, (qb BK307.out 2).trans rfl, (qb BK307.out 3).trans rfl, (qb BK307.out 4).trans rfl⟩ (fun hHeld => ?_)
      clear hK K
      refine norm_ (a' := ?_) ?_ ?_
      rotate_left
      ·
       show Act.put _ (some 44) _ = _
       simp only [Act.put, List.setIfInBounds_toArray, List.set_cons_zero, List.set_cons_succ, i64_w, i32_w]
       rfl
      refine pure_ (i := 4) (N := some 45) (v := ?_) (a' := ?_) #[true, true, true, true, true] rfl rfl (by kernel_rfl) (fun _ _ _ h => h) (Or.inl ⟨by rfl, ?_⟩) ?_ ?_
      rotate_left
      ·
       intro w'
       go_simp
       with_reducible rfl
      rotate_left
      ·
       simp only [Act.put, List.setIfInBounds_toArray, List.set_cons_zero, List.set_cons_succ, i64_w, i32_w]
       rfl
      refine done_ (by kernel_rfl) ?_
      try go_wp2
      go_ret
      exact ⟨by first | rfl | (simp [errW_none, errW_some] <;> rfl) | (simp [*, errW_none, errW_some] <;> rfl), by repeat (first | (with_reducible first | exact HB.out | apply qe | apply qa | apply qd | refine qc ?_ GE307.out | refine qc ?_ GE327.out) | exact HB.out)⟩

end Go.Proofs.Ytengkenhmnpbeaa.PFnExactPutSave

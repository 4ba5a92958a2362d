-- Written by this session's program myprint.py over the kit's print and its own texts; Lean checks it.
-- made smaller: short names, half the indentation
import Derived.Test.YtkdndllgocdbdaaPFnExactRaiseJoinx0
import Derived.Test.YtkdndllgocdbdaaPFnExactRaiseJoinx2
import Derived.Test.YtkdndllgocdbdaaPFnExactRaiseJoinx4
import Derived.Test.YtkdndllgocdbdaaPFnExactRaiseJoinx6
import Derived.Test.YtkdndllgocdbdaaPFnExactRaiseJoinx7
namespace Go.Proofs.Ytkdndllgocdbdaa.PFnExactRaiseJoin
open Go.RowKit Go.Proofs.YtkdndllgocdbdaaW.PrintWords Go.Proofs.YtkdndllgocdbdaaW.PrintLast Go.Proofs.YtkdndllgocdbdaaW.PrintMore
open Go.Proofs.YtkdndllgocdbdaaW.PrintWords renaming below_set → qd, blk_drewN → qe, blk_alloc → qf, blk_drew → qh, pw_below_drewN → qk, blk_cell → ql, below_drew1 → qm, blk_frozen → qn, below_alloc → qo, blk_below → qp, blk_far → qw, below_step → qx, below_size → qy, gate_callee → qz
open Go.Proofs.YtkdndllgocdbdaaW.PrintWords.Kd renaming R_alloc → qa, R_drewN → qb, R_drew → qc, R_far → qg, R_mono → qi, R_below → qj, R_types → qq, R_base → qr, R_lt → qs, C_alloc → qt, C_drewN → qu, C_drew → qv, R_ne → ja
attribute [local go_sem] max2_int min2_int max_two min_two max_three min_three max_four min_four   -- for this text's walks alone
set_option linter.unusedVariables false
set_option linter.unusedSimpArgs false

/-! ### laws_FnExactRaiseJoin: function 7 -/
mutual
def laws_FnExactRaiseJoin.j0 : Nat → Int → Int → Int → Int → Bool → List (S53) → List (S53) → Int → List (S56) → List (S56) → Int → List (S56) → List (S56) → Int → List (S56) → List (S56) → Int → Option (Bool)
 | 0, _, _, _, _, _, _, _, _, _, _, _, _, _, _, _, _, _ => none
 | k + 1, x1, x2, x9, x12, x48, x293000, x293001, x293002, x310000, x310001, x310002, x318000, x318001, x318002, x327000, x327001, x327002 => if x48 = true then (some false) else ((laws_toJoin.f k x293000 x293001 x293002).bind fun bt328 => ((laws_eqJoin.f k x318000 x318001 x318002 bt328.1 bt328.2.1 bt328.2.2).bind fun t335 => (if t335 = true then ((laws_markJoin.f k x318000 x318001 x318002 1).bind fun bt336 => (if bt336.1 < 0 then (laws_FnExactRaiseJoin.j1 k x1 x2 x9 true x293000 x293001 x293002 x310000 x310001 x310002 x327000 x327001 x327002) else ((laws_eqJoin.f k x327000 x327001 x327002 x310000 x310001 x310002).bind fun t339 => (if t339 = true then (laws_FnExactRaiseJoin.j1 k x1 x2 x9 (x12 != x9) x293000 x293001 x293002 x310000 x310001 x310002 x327000 x327001 x327002) else (laws_FnExactRaiseJoin.j1 k x1 x2 x9 true x293000 x293001 x293002 x310000 x310001 x310002 x327000 x327001 x327002))))) else (some false))))
def laws_FnExactRaiseJoin.j1 : Nat → Int → Int → Int → Bool → List (S53) → List (S53) → Int → List (S56) → List (S56) → Int → List (S56) → List (S56) → Int → Option (Bool)
 | 0, _, _, _, _, _, _, _, _, _, _, _, _, _ => none
 | k + 1, x1, x2, x9, x69, x293000, x293001, x293002, x310000, x310001, x310002, x327000, x327001, x327002 => if x69 = true then (some false) else ((laws_markJoin.f k x327000 x327001 x327002 1).bind fun bt340 => ((laws_heldJoin.f k bt340.2.1 bt340.2.2 x327002 1).bind fun t343 => (if t343 < 0 then (some false) else (if t343 = bt340.1 then ((laws_toJoin.f k x293000 x293001 x293002).bind fun bt344 => ((impl_RaiseJoin.f k bt344.1 bt344.2.1 bt344.2.2 x1 x2).bind fun bt351 => ((laws_eqJoin.f k bt351.1 bt351.2.1 bt351.2.2.1 x310000 x310001 x310002).bind fun t360 => (if t360 = true then (laws_FnExactRaiseJoin.j2 k bt340.1 (bt351.2.2.2 != x9) bt340.2.1 bt340.2.2 x327002) else (laws_FnExactRaiseJoin.j2 k bt340.1 true bt340.2.1 bt340.2.2 x327002))))) else (some false)))))
def laws_FnExactRaiseJoin.j2 : Nat → Int → Bool → List (S56) → List (S56) → Int → Option (Bool)
 | 0, _, _, _, _, _ => none
 | k + 1, x14, x97, x327000, x327001, x327002 => if x97 = true then (some false) else ((laws_heldJoin.f k x327000 x327001 x327002 1).bind fun t361 => (if t361 < 0 then (some false) else (if t361 = x14 then (some true) else (some false))))
end
def laws_FnExactRaiseJoin.f (k : Nat) (l0_0 : List (S53)) (l0_1 : List (S53)) (a0_2 : Int) (a1 : Int) (a2 : Int) : Option (Bool) := (laws_szJoin.f l0_0 l0_1 a0_2 1048576).bind fun t293 => (if t293 < 0 then (some true) else ((laws_toJoin.f k l0_0 l0_1 a0_2).bind fun bt294 => ((spec_RaiseJoin.f k bt294.1 bt294.2.1 bt294.2.2 a1 a2).bind fun bt301 => ((laws_toJoin.f k l0_0 l0_1 a0_2).bind fun bt310 => ((impl_RaiseJoin.f k bt310.1 bt310.2.1 bt310.2.2 a1 a2).bind fun bt318 => ((laws_eqJoin.f k bt318.1 bt318.2.1 bt318.2.2.1 bt301.1 bt301.2.1 bt301.2.2.1).bind fun t327 => (if t327 = true then (laws_FnExactRaiseJoin.j0 k a1 a2 bt301.2.2.2 bt318.2.2.2 (bt318.2.2.2 != bt301.2.2.2) l0_0 l0_1 a0_2 bt301.1 bt301.2.1 bt301.2.2.1 bt310.1 bt310.2.1 bt310.2.2 bt318.1 bt318.2.1 bt318.2.2.1) else (laws_FnExactRaiseJoin.j0 k a1 a2 bt301.2.2.2 bt318.2.2.2 true l0_0 l0_1 a0_2 bt301.1 bt301.2.1 bt301.2.2.1 bt310.1 bt310.2.1 bt310.2.2 bt318.1 bt318.2.1 bt318.2.2.1))))))))
theorem laws_FnExactRaiseJoin.mono_l : ∀ k, (∀ y0 y1 y2 y3 y4 y5 y6 y7 y8 y9 y10 y11 y12 y13 y14 y15 y16, LeO (laws_FnExactRaiseJoin.j0 k y0 y1 y2 y3 y4 y5 y6 y7 y8 y9 y10 y11 y12 y13 y14 y15 y16) (laws_FnExactRaiseJoin.j0 (k + 1) y0 y1 y2 y3 y4 y5 y6 y7 y8 y9 y10 y11 y12 y13 y14 y15 y16)) ∧ (∀ y0 y1 y2 y3 y4 y5 y6 y7 y8 y9 y10 y11 y12, LeO (laws_FnExactRaiseJoin.j1 k y0 y1 y2 y3 y4 y5 y6 y7 y8 y9 y10 y11 y12) (laws_FnExactRaiseJoin.j1 (k + 1) y0 y1 y2 y3 y4 y5 y6 y7 y8 y9 y10 y11 y12)) ∧ (∀ y0 y1 y2 y3 y4, LeO (laws_FnExactRaiseJoin.j2 k y0 y1 y2 y3 y4) (laws_FnExactRaiseJoin.j2 (k + 1) y0 y1 y2 y3 y4))
 | 0 => ⟨fun _ _ _ _ _ _ _ _ _ _ _ _ _ _ _ _ _ r h => by simp [laws_FnExactRaiseJoin.j0] at h, fun _ _ _ _ _ _ _ _ _ _ _ _ _ r h => by simp [laws_FnExactRaiseJoin.j1] at h, fun _ _ _ _ _ r h => by simp [laws_FnExactRaiseJoin.j2] at h⟩
 | k + 1 => by
  obtain ⟨ih0, ih1, ih2⟩ := laws_FnExactRaiseJoin.mono_l k
  refine ⟨?_, ?_, ?_⟩
  ·
   intro y0 y1 y2 y3 y4 y5 y6 y7 y8 y9 y10 y11 y12 y13 y14 y15 y16
   unfold laws_FnExactRaiseJoin.j0
   repeat' first
   | (with_reducible exact ih0 _ _ _ _ _ _ _ _ _ _ _ _ _ _ _ _ _)
   | (with_reducible exact ih1 _ _ _ _ _ _ _ _ _ _ _ _ _)
   | (with_reducible exact ih2 _ _ _ _ _)
   | (with_reducible exact impl_RaiseJoin.mono _ _ _ _ _ _)
   | (with_reducible exact laws_eqJoin.mono _ _ _ _ _ _ _)
   | (with_reducible exact laws_heldJoin.mono _ _ _ _ _)
   | (with_reducible exact laws_markJoin.mono _ _ _ _ _)
   | (with_reducible exact laws_toJoin.mono _ _ _ _)
   | (with_reducible exact spec_RaiseJoin.mono _ _ _ _ _ _)
   | (with_reducible exact LeO.refl _)
   | (with_reducible exact LeO.none _)
   | (with_reducible refine LeO.ite ?_ ?_)
   | (with_reducible refine LeO.bind ?_ (fun _ => ?_))
   | exact ih0 _ _ _ _ _ _ _ _ _ _ _ _ _ _ _ _ _
   | exact ih1 _ _ _ _ _ _ _ _ _ _ _ _ _
   | exact ih2 _ _ _ _ _
   | exact impl_RaiseJoin.mono _ _ _ _ _ _
   | exact laws_eqJoin.mono _ _ _ _ _ _ _
   | exact laws_heldJoin.mono _ _ _ _ _
   | exact laws_markJoin.mono _ _ _ _ _
   | exact laws_toJoin.mono _ _ _ _
   | exact spec_RaiseJoin.mono _ _ _ _ _ _
   | exact LeO.none _
   | refine LeO.ite ?_ ?_
   | refine LeO.bind ?_ (fun _ => ?_)
  ·
   intro y0 y1 y2 y3 y4 y5 y6 y7 y8 y9 y10 y11 y12
   unfold laws_FnExactRaiseJoin.j1
   repeat' first
   | (with_reducible exact ih0 _ _ _ _ _ _ _ _ _ _ _ _ _ _ _ _ _)
   | (with_reducible exact ih1 _ _ _ _ _ _ _ _ _ _ _ _ _)
   | (with_reducible exact ih2 _ _ _ _ _)
   | (with_reducible exact impl_RaiseJoin.mono _ _ _ _ _ _)
   | (with_reducible exact laws_eqJoin.mono _ _ _ _ _ _ _)
   | (with_reducible exact laws_heldJoin.mono _ _ _ _ _)
   | (with_reducible exact laws_markJoin.mono _ _ _ _ _)
   | (with_reducible exact laws_toJoin.mono _ _ _ _)
   | (with_reducible exact spec_RaiseJoin.mono _ _ _ _ _ _)
   | (with_reducible exact LeO.refl _)
   | (with_reducible exact LeO.none _)
   | (with_reducible refine LeO.ite ?_ ?_)
   | (with_reducible refine LeO.bind ?_ (fun _ => ?_))
   | exact ih0 _ _ _ _ _ _ _ _ _ _ _ _ _ _ _ _ _
   | exact ih1 _ _ _ _ _ _ _ _ _ _ _ _ _
   | exact ih2 _ _ _ _ _
   | exact impl_RaiseJoin.mono _ _ _ _ _ _
   | exact laws_eqJoin.mono _ _ _ _ _ _ _
   | exact laws_heldJoin.mono _ _ _ _ _
   | exact laws_markJoin.mono _ _ _ _ _
   | exact laws_toJoin.mono _ _ _ _
   | exact spec_RaiseJoin.mono _ _ _ _ _ _
   | exact LeO.none _
   | refine LeO.ite ?_ ?_
   | refine LeO.bind ?_ (fun _ => ?_)
  ·
   intro y0 y1 y2 y3 y4
   unfold laws_FnExactRaiseJoin.j2
   repeat' first
   | (with_reducible exact ih0 _ _ _ _ _ _ _ _ _ _ _ _ _ _ _ _ _)
   | (with_reducible exact ih1 _ _ _ _ _ _ _ _ _ _ _ _ _)
   | (with_reducible exact ih2 _ _ _ _ _)
   | (with_reducible exact impl_RaiseJoin.mono _ _ _ _ _ _)
   | (with_reducible exact laws_eqJoin.mono _ _ _ _ _ _ _)
   | (with_reducible exact laws_heldJoin.mono _ _ _ _ _)
   | (with_reducible exact laws_markJoin.mono _ _ _ _ _)
   | (with_reducible exact laws_toJoin.mono _ _ _ _)
   | (with_reducible exact spec_RaiseJoin.mono _ _ _ _ _ _)
   | (with_reducible exact LeO.refl _)
   | (with_reducible exact LeO.none _)
   | (with_reducible refine LeO.ite ?_ ?_)
   | (with_reducible refine LeO.bind ?_ (fun _ => ?_))
   | exact ih0 _ _ _ _ _ _ _ _ _ _ _ _ _ _ _ _ _
   | exact ih1 _ _ _ _ _ _ _ _ _ _ _ _ _
   | exact ih2 _ _ _ _ _
   | exact impl_RaiseJoin.mono _ _ _ _ _ _
   | exact laws_eqJoin.mono _ _ _ _ _ _ _
   | exact laws_heldJoin.mono _ _ _ _ _
   | exact laws_markJoin.mono _ _ _ _ _
   | exact laws_toJoin.mono _ _ _ _
   | exact spec_RaiseJoin.mono _ _ _ _ _ _
   | exact LeO.none _
   | refine LeO.ite ?_ ?_
   | refine LeO.bind ?_ (fun _ => ?_)
theorem laws_FnExactRaiseJoin.mono : ∀ a0 a1 a2 a3 a4 k, LeO (laws_FnExactRaiseJoin.f k a0 a1 a2 a3 a4) (laws_FnExactRaiseJoin.f (k + 1) a0 a1 a2 a3 a4) := by
 intro a0 a1 a2 a3 a4 k
 obtain ⟨ih0, ih1, ih2⟩ := laws_FnExactRaiseJoin.mono_l k
 unfold laws_FnExactRaiseJoin.f
 repeat' first
   | (with_reducible exact ih0 _ _ _ _ _ _ _ _ _ _ _ _ _ _ _ _ _)
   | (with_reducible exact ih1 _ _ _ _ _ _ _ _ _ _ _ _ _)
   | (with_reducible exact ih2 _ _ _ _ _)
   | (with_reducible exact impl_RaiseJoin.mono _ _ _ _ _ _)
   | (with_reducible exact laws_eqJoin.mono _ _ _ _ _ _ _)
   | (with_reducible exact laws_heldJoin.mono _ _ _ _ _)
   | (with_reducible exact laws_markJoin.mono _ _ _ _ _)
   | (with_reducible exact laws_toJoin.mono _ _ _ _)
   | (with_reducible exact spec_RaiseJoin.mono _ _ _ _ _ _)
   | (with_reducible exact LeO.refl _)
   | (with_reducible exact LeO.none _)
   | (with_reducible refine LeO.ite ?_ ?_)
   | (with_reducible refine LeO.bind ?_ (fun _ => ?_))
   | exact ih0 _ _ _ _ _ _ _ _ _ _ _ _ _ _ _ _ _
   | exact ih1 _ _ _ _ _ _ _ _ _ _ _ _ _
   | exact ih2 _ _ _ _ _
   | exact impl_RaiseJoin.mono _ _ _ _ _ _
   | exact laws_eqJoin.mono _ _ _ _ _ _ _
   | exact laws_heldJoin.mono _ _ _ _ _
   | exact laws_markJoin.mono _ _ _ _ _
   | exact laws_toJoin.mono _ _ _ _
   | exact spec_RaiseJoin.mono _ _ _ _ _ _
   | exact LeO.none _
   | refine LeO.ite ?_ ?_
   | refine LeO.bind ?_ (fun _ => ?_)
set_option maxHeartbeats 8000000 in
set_option maxRecDepth 100000 in
theorem laws_FnExactRaiseJoin.calls (k : Nat) (A0_0 : Option Addr) (c0_0 : Nat) (l0_0 : List (S53)) (A0_1 : Option Addr) (c0_1 : Nat) (l0_1 : List (S53)) (a0_2 : Int) (a1 : Int) (a2 : Int) (r : Bool) (w : World) (hr0_0 : Kd.C k53 w A0_0 l0_0.length l0_0) (hc0_0 : l0_0.length ≤ c0_0) (hr0_1 : Kd.C k53 w A0_1 l0_1.length l0_1) (hc0_1 : l0_1.length ≤ c0_1) (h : laws_FnExactRaiseJoin.f k l0_0 l0_1 a0_2 a1 a2 = some r) :
  Calls Try.prog 7 #[.agg #[.slice A0_0 l0_0.length c0_0, .slice A0_1 l0_1.length c0_1, .int .i64 a0_2], .int .i64 a1, .int .i64 a2] w fun e w' => e = .returned (.bool r) ∧ Below w.heap.size w w' := by
 have hu24 := Try.underlying24
 have hu29 := Try.underlying29
 have HR0_0 := Aside0.mk hr0_0
 have HC0_0 := Aside0.mk hc0_0
 clear hr0_0 hc0_0
 have HR0_1 := Aside0.mk hr0_1
 have HC0_1 := Aside0.mk hc0_1
 clear hr0_1 hc0_1
 have HB := Aside0.mk (Below.refl w.heap.size w)
 have H : ((laws_szJoin.f l0_0 l0_1 a0_2 1048576).bind fun t293 => (if t293 < 0 then (some true) else ((laws_toJoin.f k l0_0 l0_1 a0_2).bind fun bt294 => ((spec_RaiseJoin.f k bt294.1 bt294.2.1 bt294.2.2 a1 a2).bind fun bt301 => ((laws_toJoin.f k l0_0 l0_1 a0_2).bind fun bt310 => ((impl_RaiseJoin.f k bt310.1 bt310.2.1 bt310.2.2 a1 a2).bind fun bt318 => ((laws_eqJoin.f k bt318.1 bt318.2.1 bt318.2.2.1 bt301.1 bt301.2.1 bt301.2.2.1).bind fun t327 => (if t327 = true then (laws_FnExactRaiseJoin.j0 k a1 a2 bt301.2.2.2 bt318.2.2.2 (bt318.2.2.2 != bt301.2.2.2) l0_0 l0_1 a0_2 bt301.1 bt301.2.1 bt301.2.2.1 bt310.1 bt310.2.1 bt310.2.2 bt318.1 bt318.2.1 bt318.2.2.1) else (laws_FnExactRaiseJoin.j0 k a1 a2 bt301.2.2.2 bt318.2.2.2 true l0_0 l0_1 a0_2 bt301.1 bt301.2.1 bt301.2.2.1 bt310.1 bt310.2.1 bt310.2.2 bt318.1 bt318.2.1 bt318.2.2.1))))))))) = some r := h
 clear h
 replace H := Option.bind_eq_some_iff.mp H
 obtain ⟨t293, A40, H⟩ := H
 replace H : (if t293 < 0 then (some true) else ((laws_toJoin.f k l0_0 l0_1 a0_2).bind fun bt294 => ((spec_RaiseJoin.f k bt294.1 bt294.2.1 bt294.2.2 a1 a2).bind fun bt301 => ((laws_toJoin.f k l0_0 l0_1 a0_2).bind fun bt310 => ((impl_RaiseJoin.f k bt310.1 bt310.2.1 bt310.2.2 a1 a2).bind fun bt318 => ((laws_eqJoin.f k bt318.1 bt318.2.1 bt318.2.2.1 bt301.1 bt301.2.1 bt301.2.2.1).bind fun t327 => (if t327 = true then (laws_FnExactRaiseJoin.j0 k a1 a2 bt301.2.2.2 bt318.2.2.2 (bt318.2.2.2 != bt301.2.2.2) l0_0 l0_1 a0_2 bt301.1 bt301.2.1 bt301.2.2.1 bt310.1 bt310.2.1 bt310.2.2 bt318.1 bt318.2.1 bt318.2.2.1) else (laws_FnExactRaiseJoin.j0 k a1 a2 bt301.2.2.2 bt318.2.2.2 true l0_0 l0_1 a0_2 bt301.1 bt301.2.1 bt301.2.2.1 bt310.1 bt310.2.1 bt310.2.2 bt318.1 bt318.2.1 bt318.2.2.1)))))))) = some r := H
 have A4 := Aside0.mk A40
 clear A40
 by_cases c5 : t293 < 0
 ·
  rw [if_pos c5] at H
  have c5b0 : decide (t293 < 0) = true := decide_eq_true c5
  clear c5
  obtain rfl := Option.some.inj H
  go_enter Try.func7, Try.ntmps7
  go_wp2_with (first | ((with_reducible refine gate_dst (N := 3) rfl ?_); refine box_event ?hg (N := 3) ?hd (cs := #[.slice A0_0 l0_0.length c0_0, .slice A0_1 l0_1.length c0_1, .int .i64 a0_2]) (t := 24) ?hr ?_; (case hd => rfl); (case hg => rfl); (case hr => first | (go_simp; done) | (go_simp; rfl)); intro gb292 hg w6 hbox hb; have n0_ := Aside0.mk (qx (by repeat (first | (with_reducible first | exact HB.out | apply qo | apply qk | apply qm) | exact HB.out)) hb); have n1_ := Aside0.mk (hbox); have n2_ := Aside0.mk ((by rw [hg]; exact (qy (by repeat (first | (with_reducible first | exact HB.out | apply qo | apply qk | apply qm) | exact HB.out))) : w.heap.size ≤ gb292)); have n3_ := Aside0.mk ((by rw [hg]; exact (qy (by repeat (first | (with_reducible first | exact HB.out | apply qo | apply qk | apply qm) | exact HB.out))) : w.heap.size ≤ gb292)); clear HB; have HB := n0_; have BK292 := n1_; have GW292 := n2_; have GE292 := n3_; clear n0_ n1_ n2_ n3_; clear hb hbox hg; have hcz7_0 : w6.cell? ⟨gb292, 0, none⟩ = some (.slice A0_0 l0_0.length c0_0) := (ql BK292.out 0).trans rfl; have hcz7_1 : w6.cell? ⟨gb292, 1, none⟩ = some (.slice A0_1 l0_1.length c0_1) := (ql BK292.out 1).trans rfl; have hcz7_2 : w6.cell? ⟨gb292, 2, none⟩ = some (.int .i64 a0_2) := (ql BK292.out 2).trans rfl; have hfz7_0 := qn BK292.out 0; have hfz7_1 := qn BK292.out 1; have hfz7_2 := qn BK292.out 2) | ((with_reducible refine qz (f := 13) rfl ?_); refine goesL_ (some 20) rfl rfl Try.func13 (by kernel_rfl) rfl #[.agg #[.slice A0_0 l0_0.length c0_0, .slice A0_1 l0_1.length c0_1, .int .i64 a0_2], .int .i64 1048576] rfl (by (try simp only [List.map_toArray, List.map_cons, List.map_nil]); first | done | rfl | (simp only [List.length_drop, List.length_take]; rfl)) ?_; (with_reducible refine (laws_szJoin.calls _ _ l0_0 _ _ l0_1 a0_2 1048576 t293 _ ?side1 ?side2 ?side3 ?side4 A4.out).mono ?_); (case side1 => repeat (first | exact (Kd.C_below HR0_0.out HB.out) | (with_reducible refine qt ?_ _) | (with_reducible refine qu ?_ _) | (with_reducible refine qv ?_))); (case side2 => exact HC0_0.out); (case side3 => repeat (first | exact (Kd.C_below HR0_1.out HB.out) | (with_reducible refine qt ?_ _) | (with_reducible refine qu ?_ _) | (with_reducible refine qv ?_))); (case side4 => exact HC0_1.out); rintro e w8 ⟨rfl, hb⟩; refine ⟨_, rfl, ?_⟩; have n0_ := Aside0.mk (qp (g := gb292) (o := .cells #[.slice A0_0 l0_0.length c0_0, .slice A0_1 l0_1.length c0_1, .int .i64 a0_2] 24 (0, 0)) (by (with_reducible repeat (first | refine qe ?_ _ | refine qh ?_ | refine qf ?_ _)); exact BK292.out) hb); have n1_ := Aside0.mk (qx (by repeat (first | (with_reducible first | exact HB.out | apply qo | apply qk | apply qm | refine qd ?_ GE292.out) | exact HB.out)) hb); clear BK292; clear HB; have BK292 := n0_; have HB := n1_; clear n0_ n1_; (try clear hb); (try clear hb2); (try clear hk); (try clear hi)))
  go_ret
  exact ⟨by first | rfl | (simp [errW_none, errW_some] <;> rfl) | (simp [*, errW_none, errW_some] <;> rfl), by repeat (first | (with_reducible first | exact HB.out | apply qo | apply qk | apply qm | refine qd ?_ GE292.out) | exact HB.out)⟩
 ·
  rw [if_neg c5] at H
  have c5b0 : decide (t293 < 0) = false := decide_eq_false c5
  clear c5
  replace H := Option.bind_eq_some_iff.mp H
  obtain ⟨⟨t294, t297, t300⟩, A90, H⟩ := H
  replace H : ((spec_RaiseJoin.f k t294 t297 t300 a1 a2).bind fun bt301 => ((laws_toJoin.f k l0_0 l0_1 a0_2).bind fun bt310 => ((impl_RaiseJoin.f k bt310.1 bt310.2.1 bt310.2.2 a1 a2).bind fun bt318 => ((laws_eqJoin.f k bt318.1 bt318.2.1 bt318.2.2.1 bt301.1 bt301.2.1 bt301.2.2.1).bind fun t327 => (if t327 = true then (laws_FnExactRaiseJoin.j0 k a1 a2 bt301.2.2.2 bt318.2.2.2 (bt318.2.2.2 != bt301.2.2.2) l0_0 l0_1 a0_2 bt301.1 bt301.2.1 bt301.2.2.1 bt310.1 bt310.2.1 bt310.2.2 bt318.1 bt318.2.1 bt318.2.2.1) else (laws_FnExactRaiseJoin.j0 k a1 a2 bt301.2.2.2 bt318.2.2.2 true l0_0 l0_1 a0_2 bt301.1 bt301.2.1 bt301.2.2.1 bt310.1 bt310.2.1 bt310.2.2 bt318.1 bt318.2.1 bt318.2.2.1)))))) = some r := H
  have A9 := Aside0.mk A90
  clear A90
  replace H := Option.bind_eq_some_iff.mp H
  obtain ⟨⟨t301, t304, t307, t308⟩, A100, H⟩ := H
  replace H : ((laws_toJoin.f k l0_0 l0_1 a0_2).bind fun bt310 => ((impl_RaiseJoin.f k bt310.1 bt310.2.1 bt310.2.2 a1 a2).bind fun bt318 => ((laws_eqJoin.f k bt318.1 bt318.2.1 bt318.2.2.1 t301 t304 t307).bind fun t327 => (if t327 = true then (laws_FnExactRaiseJoin.j0 k a1 a2 t308 bt318.2.2.2 (bt318.2.2.2 != t308) l0_0 l0_1 a0_2 t301 t304 t307 bt310.1 bt310.2.1 bt310.2.2 bt318.1 bt318.2.1 bt318.2.2.1) else (laws_FnExactRaiseJoin.j0 k a1 a2 t308 bt318.2.2.2 true l0_0 l0_1 a0_2 t301 t304 t307 bt310.1 bt310.2.1 bt310.2.2 bt318.1 bt318.2.1 bt318.2.2.1))))) = some r := H
  have A10 := Aside0.mk A100
  clear A100
  replace H := Option.bind_eq_some_iff.mp H
  obtain ⟨⟨t310, t313, t316⟩, A110, H⟩ := H
  replace H : ((impl_RaiseJoin.f k t310 t313 t316 a1 a2).bind fun bt318 => ((laws_eqJoin.f k bt318.1 bt318.2.1 bt318.2.2.1 t301 t304 t307).bind fun t327 => (if t327 = true then (laws_FnExactRaiseJoin.j0 k a1 a2 t308 bt318.2.2.2 (bt318.2.2.2 != t308) l0_0 l0_1 a0_2 t301 t304 t307 t310 t313 t316 bt318.1 bt318.2.1 bt318.2.2.1) else (laws_FnExactRaiseJoin.j0 k a1 a2 t308 bt318.2.2.2 true l0_0 l0_1 a0_2 t301 t304 t307 t310 t313 t316 bt318.1 bt318.2.1 bt318.2.2.1)))) = some r := H
  have A11 := Aside0.mk A110
  clear A110
  replace H := Option.bind_eq_some_iff.mp H
  obtain ⟨⟨t318, t321, t324, t325⟩, A120, H⟩ := H
  replace H : ((laws_eqJoin.f k t318 t321 t324 t301 t304 t307).bind fun t327 => (if t327 = true then (laws_FnExactRaiseJoin.j0 k a1 a2 t308 t325 (t325 != t308) l0_0 l0_1 a0_2 t301 t304 t307 t310 t313 t316 t318 t321 t324) else (laws_FnExactRaiseJoin.j0 k a1 a2 t308 t325 true l0_0 l0_1 a0_2 t301 t304 t307 t310 t313 t316 t318 t321 t324))) = some r := H
  have A12 := Aside0.mk A120
  clear A120
  have HC13 := Aside0.mk H
  clear H
  go_enter Try.func7, Try.ntmps7
  go_upto_region 8 with (first | ((with_reducible refine gate_dst (N := 3) rfl ?_); refine box_event ?hg (N := 3) ?hd (cs := #[.slice A0_0 l0_0.length c0_0, .slice A0_1 l0_1.length c0_1, .int .i64 a0_2]) (t := 24) ?hr ?_; (case hd => rfl); (case hg => rfl); (case hr => first | (go_simp; done) | (go_simp; rfl)); intro gb292 hg w14 hbox hb; have n0_ := Aside0.mk (qx (by repeat (first | (with_reducible first | exact HB.out | apply qo | apply qk | apply qm) | exact HB.out)) hb); have n1_ := Aside0.mk (hbox); have n2_ := Aside0.mk ((by rw [hg]; exact (qy (by repeat (first | (with_reducible first | exact HB.out | apply qo | apply qk | apply qm) | exact HB.out))) : w.heap.size ≤ gb292)); have n3_ := Aside0.mk ((by rw [hg]; exact (qy (by repeat (first | (with_reducible first | exact HB.out | apply qo | apply qk | apply qm) | exact HB.out))) : w.heap.size ≤ gb292)); clear HB; have HB := n0_; have BK292 := n1_; have GW292 := n2_; have GE292 := n3_; clear n0_ n1_ n2_ n3_; clear hb hbox hg; have hcz15_0 : w14.cell? ⟨gb292, 0, none⟩ = some (.slice A0_0 l0_0.length c0_0) := (ql BK292.out 0).trans rfl; have hcz15_1 : w14.cell? ⟨gb292, 1, none⟩ = some (.slice A0_1 l0_1.length c0_1) := (ql BK292.out 1).trans rfl; have hcz15_2 : w14.cell? ⟨gb292, 2, none⟩ = some (.int .i64 a0_2) := (ql BK292.out 2).trans rfl; have hfz15_0 := qn BK292.out 0; have hfz15_1 := qn BK292.out 1; have hfz15_2 := qn BK292.out 2) | ((with_reducible refine qz (f := 13) rfl ?_); refine goesL_ (some 20) rfl rfl Try.func13 (by kernel_rfl) rfl #[.agg #[.slice A0_0 l0_0.length c0_0, .slice A0_1 l0_1.length c0_1, .int .i64 a0_2], .int .i64 1048576] rfl (by (try simp only [List.map_toArray, List.map_cons, List.map_nil]); first | done | rfl | (simp only [List.length_drop, List.length_take]; rfl)) ?_; (with_reducible refine (laws_szJoin.calls _ _ l0_0 _ _ l0_1 a0_2 1048576 t293 _ ?side1 ?side2 ?side3 ?side4 A4.out).mono ?_); (case side1 => repeat (first | exact (Kd.C_below HR0_0.out HB.out) | (with_reducible refine qt ?_ _) | (with_reducible refine qu ?_ _) | (with_reducible refine qv ?_))); (case side2 => exact HC0_0.out); (case side3 => repeat (first | exact (Kd.C_below HR0_1.out HB.out) | (with_reducible refine qt ?_ _) | (with_reducible refine qu ?_ _) | (with_reducible refine qv ?_))); (case side4 => exact HC0_1.out); rintro e w16 ⟨rfl, hb⟩; refine ⟨_, rfl, ?_⟩; have n0_ := Aside0.mk (qp (g := gb292) (o := .cells #[.slice A0_0 l0_0.length c0_0, .slice A0_1 l0_1.length c0_1, .int .i64 a0_2] 24 (0, 0)) (by (with_reducible repeat (first | refine qe ?_ _ | refine qh ?_ | refine qf ?_ _)); exact BK292.out) hb); have n1_ := Aside0.mk (qx (by repeat (first | (with_reducible first | exact HB.out | apply qo | apply qk | apply qm | refine qd ?_ GE292.out) | exact HB.out)) hb); clear BK292; clear HB; have BK292 := n0_; have HB := n1_; clear n0_ n1_; (try clear hb); (try clear hb2); (try clear hk); (try clear hi); have hcz17_0 : w16.cell? ⟨gb292, 0, none⟩ = some (.slice A0_0 l0_0.length c0_0) := (ql BK292.out 0).trans rfl; have hcz17_1 : w16.cell? ⟨gb292, 1, none⟩ = some (.slice A0_1 l0_1.length c0_1) := (ql BK292.out 1).trans rfl; have hcz17_2 : w16.cell? ⟨gb292, 2, none⟩ = some (.int .i64 a0_2) := (ql BK292.out 2).trans rfl; have hfz17_0 := qn BK292.out 0; have hfz17_1 := qn BK292.out 1; have hfz17_2 := qn BK292.out 2) | ((with_reducible refine qz (f := 15) rfl ?_); refine goesL_ (some 25) rfl rfl Try.func15 (by kernel_rfl) rfl #[.agg #[.slice A0_0 l0_0.length c0_0, .slice A0_1 l0_1.length c0_1, .int .i64 a0_2]] rfl (by (try simp only [List.map_toArray, List.map_cons, List.map_nil]); first | done | rfl | (simp only [List.length_drop, List.length_take]; rfl)) ?_; (with_reducible refine (laws_toJoin.calls k _ _ l0_0 _ _ l0_1 a0_2 t294 t297 t300 _ ?side1 ?side2 ?side3 ?side4 A9.out).mono ?_); (case side1 => repeat (first | exact (Kd.C_below HR0_0.out HB.out) | (with_reducible refine qt ?_ _) | (with_reducible refine qu ?_ _) | (with_reducible refine qv ?_))); (case side2 => exact HC0_0.out); (case side3 => repeat (first | exact (Kd.C_below HR0_1.out HB.out) | (with_reducible refine qt ?_ _) | (with_reducible refine qu ?_ _) | (with_reducible refine qv ?_))); (case side4 => exact HC0_1.out); rintro e w18 ⟨v295, v298, rfl, ho0, ho1, hb⟩; refine ⟨_, rfl, ?_⟩; have n0_ := Aside0.mk (Kd.R_lower ho0 (qy (by repeat (first | (with_reducible first | exact HB.out | apply qo | apply qk | apply qm | refine qd ?_ GE292.out) | exact HB.out)))); have n1_ := Aside0.mk (Kd.R_lower ho1 (qy (by repeat (first | (with_reducible first | exact HB.out | apply qo | apply qk | apply qm | refine qd ?_ GE292.out) | exact HB.out)))); have n2_ := Aside0.mk (qp (g := gb292) (o := .cells #[.slice A0_0 l0_0.length c0_0, .slice A0_1 l0_1.length c0_1, .int .i64 a0_2] 24 (0, 0)) (by (with_reducible repeat (first | refine qe ?_ _ | refine qh ?_ | refine qf ?_ _)); exact BK292.out) hb); have n3_ := Aside0.mk (qx (by repeat (first | (with_reducible first | exact HB.out | apply qo | apply qk | apply qm | refine qd ?_ GE292.out) | exact HB.out)) hb); clear BK292; clear HB; have HO296 := n0_; have HO299 := n1_; have BK292 := n2_; have HB := n3_; clear n0_ n1_ n2_ n3_; (try clear hb); (try clear hb2); (try clear hk); (try clear hi); (try clear ho0); (try clear ho1); obtain ⟨Ao19, co19, eo19⟩ := Kd.R_slice HO296.out; subst eo19; obtain ⟨Ao20, co20, eo20⟩ := Kd.R_slice HO299.out; subst eo20) | ((with_reducible refine qz (f := 34) rfl ?_); refine goesL_ (some 28) rfl rfl Try.func34 (by kernel_rfl) rfl #[.agg #[.slice Ao19 t294.length co19, .slice Ao20 t297.length co20, .int .i64 t300], .int .i64 a1, .int .i64 a2] rfl (by (try simp only [List.map_toArray, List.map_cons, List.map_nil]); first | done | rfl | (simp only [List.length_drop, List.length_take]; rfl)) ?_; (with_reducible refine (spec_RaiseJoin.calls k _ _ t294 _ _ t297 t300 a1 a2 t301 t304 t307 t308 _ ?side1 ?side2 ?side3 ?side4 A10.out).mono ?_); (case side1 => repeat (first | exact (Kd.R_reads' HO296.out).2.2 | (with_reducible refine qt ?_ _) | (with_reducible refine qu ?_ _) | (with_reducible refine qv ?_))); (case side2 => exact (Kd.R_reads' HO296.out).2.1); (case side3 => repeat (first | exact (Kd.R_reads' HO299.out).2.2 | (with_reducible refine qt ?_ _) | (with_reducible refine qu ?_ _) | (with_reducible refine qv ?_))); (case side4 => exact (Kd.R_reads' HO299.out).2.1); rintro e w21 ⟨v302, v305, rfl, ho0, ho1, hb⟩; refine ⟨_, rfl, ?_⟩; have n0_ := Aside0.mk (qi (Kd.R_told (Kd.R_told (Kd.R_old (by (with_reducible repeat (first | apply qa | apply qb | apply qc)); exact HO296.out) hb) (qr ho0)) (qr ho1)) (fun _ h_ => h_.1)); have n1_ := Aside0.mk (qi (Kd.R_told (Kd.R_told (Kd.R_old (by (with_reducible repeat (first | apply qa | apply qb | apply qc)); exact HO299.out) hb) (qr ho0)) (qr ho1)) (fun _ h_ => h_.1)); have n2_ := Aside0.mk (Kd.R_lower (Kd.R_new' (Kd.R_new' ho0 (qs (by (with_reducible repeat (first | apply qa | apply qb | apply qc)); exact HO296.out))) (qs (by (with_reducible repeat (first | apply qa | apply qb | apply qc)); exact HO299.out))) (qy (by repeat (first | (with_reducible first | exact HB.out | apply qo | apply qk | apply qm | refine qd ?_ GE292.out) | exact HB.out)))); have n3_ := Aside0.mk (Kd.R_lower (Kd.R_new' (Kd.R_new' ho1 (qs (by (with_reducible repeat (first | apply qa | apply qb | apply qc)); exact HO296.out))) (qs (by (with_reducible repeat (first | apply qa | apply qb | apply qc)); exact HO299.out))) (qy (by repeat (first | (with_reducible first | exact HB.out | apply qo | apply qk | apply qm | refine qd ?_ GE292.out) | exact HB.out)))); have n4_ := Aside0.mk (qp (g := gb292) (o := .cells #[.slice A0_0 l0_0.length c0_0, .slice A0_1 l0_1.length c0_1, .int .i64 a0_2] 24 (0, 0)) (by (with_reducible repeat (first | refine qe ?_ _ | refine qh ?_ | refine qf ?_ _)); exact BK292.out) hb); have n5_ := Aside0.mk (qx (by repeat (first | (with_reducible first | exact HB.out | apply qo | apply qk | apply qm | refine qd ?_ GE292.out) | exact HB.out)) hb); clear HO296; clear HO299; clear BK292; clear HB; have HO296 := n0_; have HO299 := n1_; have HO303 := n2_; have HO306 := n3_; have BK292 := n4_; have HB := n5_; clear n0_ n1_ n2_ n3_ n4_ n5_; (try clear hb); (try clear hb2); (try clear hk); (try clear hi); (try clear ho0); (try clear ho1)) | ((with_reducible refine gate_dst (N := 8) rfl ?_); refine box_event ?hg (N := 8) ?hd (cs := #[.slice none 0 0, .slice none 0 0, .int .i64 0]) (t := 29) ?hr ?_; (case hd => rfl); (case hg => rfl); (case hr => first | (go_simp; done) | (go_simp; rfl)); intro gb309 hg w22 hbox hb; have n0_ := Aside0.mk (qj (by (with_reducible repeat (first | apply qa | apply qb | apply qc)); exact HO296.out) hb); have n1_ := Aside0.mk (qj (by (with_reducible repeat (first | apply qa | apply qb | apply qc)); exact HO299.out) hb); have n2_ := Aside0.mk (qj (by (with_reducible repeat (first | apply qa | apply qb | apply qc)); exact HO303.out) hb); have n3_ := Aside0.mk (qj (by (with_reducible repeat (first | apply qa | apply qb | apply qc)); exact HO306.out) hb); have n4_ := Aside0.mk (qp (g := gb292) (o := .cells #[.slice A0_0 l0_0.length c0_0, .slice A0_1 l0_1.length c0_1, .int .i64 a0_2] 24 (0, 0)) (by (with_reducible repeat (first | refine qe ?_ _ | refine qh ?_ | refine qf ?_ _)); exact BK292.out) hb); have n5_ := Aside0.mk (qx (by repeat (first | (with_reducible first | exact HB.out | apply qo | apply qk | apply qm | refine qd ?_ GE292.out) | exact HB.out)) hb); have n6_ := Aside0.mk (hbox); have n7_ := Aside0.mk ((by rw [hg]; exact (qy (by repeat (first | (with_reducible first | exact HB.out | apply qo | apply qk | apply qm | refine qd ?_ GE292.out) | exact HB.out))) : w.heap.size ≤ gb309)); have n8_ := Aside0.mk ((by rw [hg]; exact (qy (by repeat (first | (with_reducible first | exact HB.out | apply qo | apply qk | apply qm | refine qd ?_ GE292.out) | exact HB.out))) : w.heap.size ≤ gb309)); have n9_ := Aside0.mk ((by rw [hg]; exact Nat.ne_of_lt (blk_lt (g := gb292) (o := .cells #[.slice A0_0 l0_0.length c0_0, .slice A0_1 l0_1.length c0_1, .int .i64 a0_2] 24 (0, 0)) (by (with_reducible repeat (first | refine qe ?_ _ | refine qh ?_ | refine qf ?_ _)); exact BK292.out)) : gb292 ≠ gb309)); have n10_ := Aside0.mk ((by rw [hg]; exact Nat.ne_of_gt (blk_lt (g := gb292) (o := .cells #[.slice A0_0 l0_0.length c0_0, .slice A0_1 l0_1.length c0_1, .int .i64 a0_2] 24 (0, 0)) (by (with_reducible repeat (first | refine qe ?_ _ | refine qh ?_ | refine qf ?_ _)); exact BK292.out)) : gb309 ≠ gb292)); clear HO296; clear HO299; clear HO303; clear HO306; clear BK292; clear HB; have HO296 := n0_; have HO299 := n1_; have HO303 := n2_; have HO306 := n3_; have BK292 := n4_; have HB := n5_; have BK309 := n6_; have GW309 := n7_; have GE309 := n8_; have NB292_309 := n9_; have NB309_292 := n10_; clear n0_ n1_ n2_ n3_ n4_ n5_ n6_ n7_ n8_ n9_ n10_; clear hb hbox hg; obtain ⟨Ao23, co23, eo23⟩ := Kd.R_slice HO303.out; subst eo23; have hnb24 := NB309_292.out; have hnc24 := NB292_309.out; have hcz25_0 : w22.cell? ⟨gb309, 0, none⟩ = some (.slice none 0 0) := (ql BK309.out 0).trans rfl; have hcz25_1 : w22.cell? ⟨gb309, 1, none⟩ = some (.slice none 0 0) := (ql BK309.out 1).trans rfl; have hcz25_2 : w22.cell? ⟨gb309, 2, none⟩ = some (.int .i64 0) := (ql BK309.out 2).trans rfl; have hfz25_0 := qn BK309.out 0; have hfz25_1 := qn BK309.out 1; have hfz25_2 := qn BK309.out 2; obtain ⟨Ao26, co26, eo26⟩ := Kd.R_slice HO306.out; subst eo26; have hcz27_0 : w22.cell? ⟨gb292, 0, none⟩ = some (.slice A0_0 l0_0.length c0_0) := (ql BK292.out 0).trans rfl; have hcz27_1 : w22.cell? ⟨gb292, 1, none⟩ = some (.slice A0_1 l0_1.length c0_1) := (ql BK292.out 1).trans rfl; have hcz27_2 : w22.cell? ⟨gb292, 2, none⟩ = some (.int .i64 a0_2) := (ql BK292.out 2).trans rfl; have hfz27_0 := qn BK292.out 0; have hfz27_1 := qn BK292.out 1; have hfz27_2 := qn BK292.out 2) | ((with_reducible refine qz (f := 15) rfl ?_); refine goesL_ (some 32) rfl rfl Try.func15 (by kernel_rfl) rfl #[.agg #[.slice A0_0 l0_0.length c0_0, .slice A0_1 l0_1.length c0_1, .int .i64 a0_2]] rfl (by (try simp only [List.map_toArray, List.map_cons, List.map_nil]); first | done | rfl | (simp only [List.length_drop, List.length_take]; rfl)) ?_; (with_reducible refine (laws_toJoin.calls k _ _ l0_0 _ _ l0_1 a0_2 t310 t313 t316 _ ?side1 ?side2 ?side3 ?side4 A11.out).mono ?_); (case side1 => exact Kd.C_below HR0_0.out (by repeat (first | (with_reducible first | exact HB.out | apply qo | apply qk | apply qm | refine qd ?_ GE292.out | refine qd ?_ GE309.out) | exact HB.out))); (case side2 => exact HC0_0.out); (case side3 => exact Kd.C_below HR0_1.out (by repeat (first | (with_reducible first | exact HB.out | apply qo | apply qk | apply qm | refine qd ?_ GE292.out | refine qd ?_ GE309.out) | exact HB.out))); (case side4 => exact HC0_1.out); rintro e w28 ⟨v311, v314, rfl, ho0, ho1, hb⟩; refine ⟨_, rfl, ?_⟩; have n0_ := Aside0.mk (qi (Kd.R_told (Kd.R_told (Kd.R_old (by (with_reducible repeat (first | apply qa | apply qb | apply qc)); exact (qi (qg (p := ⟨gb309, 2, none⟩) (qg (p := ⟨gb309, 1, none⟩) (qg (p := ⟨gb309, 0, none⟩) (qq HO296.out BK309.out (by decide)) (fun _ hk => hk.2) (.slice Ao23 t301.length co23)) (fun _ hk => hk.2) (.slice Ao26 t304.length co26)) (fun _ hk => hk.2) (.int .i64 t307)) (fun _ h_ => h_.1))) hb) (qr ho0)) (qr ho1)) (fun _ h_ => h_.1)); have n1_ := Aside0.mk (qi (Kd.R_told (Kd.R_told (Kd.R_old (by (with_reducible repeat (first | apply qa | apply qb | apply qc)); exact (qi (qg (p := ⟨gb309, 2, none⟩) (qg (p := ⟨gb309, 1, none⟩) (qg (p := ⟨gb309, 0, none⟩) (qq HO299.out BK309.out (by decide)) (fun _ hk => hk.2) (.slice Ao23 t301.length co23)) (fun _ hk => hk.2) (.slice Ao26 t304.length co26)) (fun _ hk => hk.2) (.int .i64 t307)) (fun _ h_ => h_.1))) hb) (qr ho0)) (qr ho1)) (fun _ h_ => h_.1)); have n2_ := Aside0.mk (qi (Kd.R_told (Kd.R_told (Kd.R_old (by (with_reducible repeat (first | apply qa | apply qb | apply qc)); exact (qi (qg (p := ⟨gb309, 2, none⟩) (qg (p := ⟨gb309, 1, none⟩) (qg (p := ⟨gb309, 0, none⟩) (qq HO303.out BK309.out (by decide)) (fun _ hk => hk.2) (.slice Ao23 t301.length co23)) (fun _ hk => hk.2) (.slice Ao26 t304.length co26)) (fun _ hk => hk.2) (.int .i64 t307)) (fun _ h_ => h_.1))) hb) (qr ho0)) (qr ho1)) (fun _ h_ => h_.1)); have n3_ := Aside0.mk (qi (Kd.R_told (Kd.R_told (Kd.R_old (by (with_reducible repeat (first | apply qa | apply qb | apply qc)); exact (qi (qg (p := ⟨gb309, 2, none⟩) (qg (p := ⟨gb309, 1, none⟩) (qg (p := ⟨gb309, 0, none⟩) (qq HO306.out BK309.out (by decide)) (fun _ hk => hk.2) (.slice Ao23 t301.length co23)) (fun _ hk => hk.2) (.slice Ao26 t304.length co26)) (fun _ hk => hk.2) (.int .i64 t307)) (fun _ h_ => h_.1))) hb) (qr ho0)) (qr ho1)) (fun _ h_ => h_.1)); have n4_ := Aside0.mk (Kd.R_lower (Kd.R_new' (Kd.R_new' (Kd.R_new' (Kd.R_new' ho0 (qs (by (with_reducible repeat (first | apply qa | apply qb | apply qc)); exact (qi (qg (p := ⟨gb309, 2, none⟩) (qg (p := ⟨gb309, 1, none⟩) (qg (p := ⟨gb309, 0, none⟩) (qq HO296.out BK309.out (by decide)) (fun _ hk => hk.2) (.slice Ao23 t301.length co23)) (fun _ hk => hk.2) (.slice Ao26 t304.length co26)) (fun _ hk => hk.2) (.int .i64 t307)) (fun _ h_ => h_.1))))) (qs (by (with_reducible repeat (first | apply qa | apply qb | apply qc)); exact (qi (qg (p := ⟨gb309, 2, none⟩) (qg (p := ⟨gb309, 1, none⟩) (qg (p := ⟨gb309, 0, none⟩) (qq HO299.out BK309.out (by decide)) (fun _ hk => hk.2) (.slice Ao23 t301.length co23)) (fun _ hk => hk.2) (.slice Ao26 t304.length co26)) (fun _ hk => hk.2) (.int .i64 t307)) (fun _ h_ => h_.1))))) (qs (by (with_reducible repeat (first | apply qa | apply qb | apply qc)); exact (qi (qg (p := ⟨gb309, 2, none⟩) (qg (p := ⟨gb309, 1, none⟩) (qg (p := ⟨gb309, 0, none⟩) (qq HO303.out BK309.out (by decide)) (fun _ hk => hk.2) (.slice Ao23 t301.length co23)) (fun _ hk => hk.2) (.slice Ao26 t304.length co26)) (fun _ hk => hk.2) (.int .i64 t307)) (fun _ h_ => h_.1))))) (qs (by (with_reducible repeat (first | apply qa | apply qb | apply qc)); exact (qi (qg (p := ⟨gb309, 2, none⟩) (qg (p := ⟨gb309, 1, none⟩) (qg (p := ⟨gb309, 0, none⟩) (qq HO306.out BK309.out (by decide)) (fun _ hk => hk.2) (.slice Ao23 t301.length co23)) (fun _ hk => hk.2) (.slice Ao26 t304.length co26)) (fun _ hk => hk.2) (.int .i64 t307)) (fun _ h_ => h_.1))))) (qy (by repeat (first | (with_reducible first | exact HB.out | apply qo | apply qk | apply qm | refine qd ?_ GE292.out | refine qd ?_ GE309.out) | exact HB.out)))); have n5_ := Aside0.mk (Kd.R_lower (Kd.R_new' (Kd.R_new' (Kd.R_new' (Kd.R_new' ho1 (qs (by (with_reducible repeat (first | apply qa | apply qb | apply qc)); exact (qi (qg (p := ⟨gb309, 2, none⟩) (qg (p := ⟨gb309, 1, none⟩) (qg (p := ⟨gb309, 0, none⟩) (qq HO296.out BK309.out (by decide)) (fun _ hk => hk.2) (.slice Ao23 t301.length co23)) (fun _ hk => hk.2) (.slice Ao26 t304.length co26)) (fun _ hk => hk.2) (.int .i64 t307)) (fun _ h_ => h_.1))))) (qs (by (with_reducible repeat (first | apply qa | apply qb | apply qc)); exact (qi (qg (p := ⟨gb309, 2, none⟩) (qg (p := ⟨gb309, 1, none⟩) (qg (p := ⟨gb309, 0, none⟩) (qq HO299.out BK309.out (by decide)) (fun _ hk => hk.2) (.slice Ao23 t301.length co23)) (fun _ hk => hk.2) (.slice Ao26 t304.length co26)) (fun _ hk => hk.2) (.int .i64 t307)) (fun _ h_ => h_.1))))) (qs (by (with_reducible repeat (first | apply qa | apply qb | apply qc)); exact (qi (qg (p := ⟨gb309, 2, none⟩) (qg (p := ⟨gb309, 1, none⟩) (qg (p := ⟨gb309, 0, none⟩) (qq HO303.out BK309.out (by decide)) (fun _ hk => hk.2) (.slice Ao23 t301.length co23)) (fun _ hk => hk.2) (.slice Ao26 t304.length co26)) (fun _ hk => hk.2) (.int .i64 t307)) (fun _ h_ => h_.1))))) (qs (by (with_reducible repeat (first | apply qa | apply qb | apply qc)); exact (qi (qg (p := ⟨gb309, 2, none⟩) (qg (p := ⟨gb309, 1, none⟩) (qg (p := ⟨gb309, 0, none⟩) (qq HO306.out BK309.out (by decide)) (fun _ hk => hk.2) (.slice Ao23 t301.length co23)) (fun _ hk => hk.2) (.slice Ao26 t304.length co26)) (fun _ hk => hk.2) (.int .i64 t307)) (fun _ h_ => h_.1))))) (qy (by repeat (first | (with_reducible first | exact HB.out | apply qo | apply qk | apply qm | refine qd ?_ GE292.out | refine qd ?_ GE309.out) | exact HB.out)))); have n6_ := Aside0.mk (qp (g := gb292) (o := .cells #[.slice A0_0 l0_0.length c0_0, .slice A0_1 l0_1.length c0_1, .int .i64 a0_2] 24 (0, 0)) (by (with_reducible repeat (first | refine qe ?_ _ | refine qh ?_ | refine qf ?_ _)); refine qw ?_ NB292_309.out _; (with_reducible repeat (first | refine qe ?_ _ | refine qh ?_ | refine qf ?_ _)); refine qw ?_ NB292_309.out _; (with_reducible repeat (first | refine qe ?_ _ | refine qh ?_ | refine qf ?_ _)); refine qw ?_ NB292_309.out _; (with_reducible repeat (first | refine qe ?_ _ | refine qh ?_ | refine qf ?_ _)); exact BK292.out) hb); have n7_ := Aside0.mk (qp (g := gb309) (o := .cells #[.slice Ao23 t301.length co23, .slice Ao26 t304.length co26, .int .i64 t307] 29 (0, 0)) (by (with_reducible repeat (first | refine qe ?_ _ | refine qh ?_ | refine qf ?_ _)); refine blk_put (cs := #[.slice Ao23 t301.length co23, .slice Ao26 t304.length co26, .int .i64 0]) ?_ 2 _ rfl; (with_reducible repeat (first | refine qe ?_ _ | refine qh ?_ | refine qf ?_ _)); refine blk_put (cs := #[.slice Ao23 t301.length co23, .slice none 0 0, .int .i64 0]) ?_ 1 _ rfl; (with_reducible repeat (first | refine qe ?_ _ | refine qh ?_ | refine qf ?_ _)); refine blk_put (cs := #[.slice none 0 0, .slice none 0 0, .int .i64 0]) ?_ 0 _ rfl; (with_reducible repeat (first | refine qe ?_ _ | refine qh ?_ | refine qf ?_ _)); exact BK309.out) hb); have n8_ := Aside0.mk (qx (by repeat (first | (with_reducible first | exact HB.out | apply qo | apply qk | apply qm | refine qd ?_ GE292.out | refine qd ?_ GE309.out) | exact HB.out)) hb); clear HO296; clear HO299; clear HO303; clear HO306; clear BK292; clear BK309; clear HB; have HO296 := n0_; have HO299 := n1_; have HO303 := n2_; have HO306 := n3_; have HO312 := n4_; have HO315 := n5_; have BK292 := n6_; have BK309 := n7_; have HB := n8_; clear n0_ n1_ n2_ n3_ n4_ n5_ n6_ n7_ n8_; (try clear hb); (try clear hb2); (try clear hk); (try clear hi); (try clear ho0); (try clear ho1)) | ((with_reducible refine gate_dst (N := 10) rfl ?_); refine box_event ?hg (N := 10) ?hd (cs := #[.slice none 0 0, .slice none 0 0, .int .i64 0]) (t := 29) ?hr ?_; (case hd => rfl); (case hg => rfl); (case hr => first | (go_simp; done) | (go_simp; rfl)); intro gb317 hg w29 hbox hb; have n0_ := Aside0.mk (qj (by (with_reducible repeat (first | apply qa | apply qb | apply qc)); exact HO296.out) hb); have n1_ := Aside0.mk (qj (by (with_reducible repeat (first | apply qa | apply qb | apply qc)); exact HO299.out) hb); have n2_ := Aside0.mk (qj (by (with_reducible repeat (first | apply qa | apply qb | apply qc)); exact HO303.out) hb); have n3_ := Aside0.mk (qj (by (with_reducible repeat (first | apply qa | apply qb | apply qc)); exact HO306.out) hb); have n4_ := Aside0.mk (qj (by (with_reducible repeat (first | apply qa | apply qb | apply qc)); exact HO312.out) hb); have n5_ := Aside0.mk (qj (by (with_reducible repeat (first | apply qa | apply qb | apply qc)); exact HO315.out) hb); have n6_ := Aside0.mk (qp (g := gb292) (o := .cells #[.slice A0_0 l0_0.length c0_0, .slice A0_1 l0_1.length c0_1, .int .i64 a0_2] 24 (0, 0)) (by (with_reducible repeat (first | refine qe ?_ _ | refine qh ?_ | refine qf ?_ _)); exact BK292.out) hb); have n7_ := Aside0.mk (qp (g := gb309) (o := .cells #[.slice Ao23 t301.length co23, .slice Ao26 t304.length co26, .int .i64 t307] 29 (0, 0)) (by (with_reducible repeat (first | refine qe ?_ _ | refine qh ?_ | refine qf ?_ _)); exact BK309.out) hb); have n8_ := Aside0.mk (qx (by repeat (first | (with_reducible first | exact HB.out | apply qo | apply qk | apply qm | refine qd ?_ GE292.out | refine qd ?_ GE309.out) | exact HB.out)) hb); have n9_ := Aside0.mk (hbox); have n10_ := Aside0.mk ((by rw [hg]; exact (qy (by repeat (first | (with_reducible first | exact HB.out | apply qo | apply qk | apply qm | refine qd ?_ GE292.out | refine qd ?_ GE309.out) | exact HB.out))) : w.heap.size ≤ gb317)); have n11_ := Aside0.mk ((by rw [hg]; exact (qy (by repeat (first | (with_reducible first | exact HB.out | apply qo | apply qk | apply qm | refine qd ?_ GE292.out | refine qd ?_ GE309.out) | exact HB.out))) : w.heap.size ≤ gb317)); have n12_ := Aside0.mk ((by rw [hg]; exact Nat.ne_of_lt (blk_lt (g := gb292) (o := .cells #[.slice A0_0 l0_0.length c0_0, .slice A0_1 l0_1.length c0_1, .int .i64 a0_2] 24 (0, 0)) (by (with_reducible repeat (first | refine qe ?_ _ | refine qh ?_ | refine qf ?_ _)); exact BK292.out)) : gb292 ≠ gb317)); have n13_ := Aside0.mk ((by rw [hg]; exact Nat.ne_of_gt (blk_lt (g := gb292) (o := .cells #[.slice A0_0 l0_0.length c0_0, .slice A0_1 l0_1.length c0_1, .int .i64 a0_2] 24 (0, 0)) (by (with_reducible repeat (first | refine qe ?_ _ | refine qh ?_ | refine qf ?_ _)); exact BK292.out)) : gb317 ≠ gb292)); have n14_ := Aside0.mk ((by rw [hg]; exact Nat.ne_of_lt (blk_lt (g := gb309) (o := .cells #[.slice Ao23 t301.length co23, .slice Ao26 t304.length co26, .int .i64 t307] 29 (0, 0)) (by (with_reducible repeat (first | refine qe ?_ _ | refine qh ?_ | refine qf ?_ _)); exact BK309.out)) : gb309 ≠ gb317)); have n15_ := Aside0.mk ((by rw [hg]; exact Nat.ne_of_gt (blk_lt (g := gb309) (o := .cells #[.slice Ao23 t301.length co23, .slice Ao26 t304.length co26, .int .i64 t307] 29 (0, 0)) (by (with_reducible repeat (first | refine qe ?_ _ | refine qh ?_ | refine qf ?_ _)); exact BK309.out)) : gb317 ≠ gb309)); clear HO296; clear HO299; clear HO303; clear HO306; clear HO312; clear HO315; clear BK292; clear BK309; clear HB; have HO296 := n0_; have HO299 := n1_; have HO303 := n2_; have HO306 := n3_; have HO312 := n4_; have HO315 := n5_; have BK292 := n6_; have BK309 := n7_; have HB := n8_; have BK317 := n9_; have GW317 := n10_; have GE317 := n11_; have NB292_317 := n12_; have NB317_292 := n13_; have NB309_317 := n14_; have NB317_309 := n15_; clear n0_ n1_ n2_ n3_ n4_ n5_ n6_ n7_ n8_ n9_ n10_ n11_ n12_ n13_ n14_ n15_; clear hb hbox hg; obtain ⟨Ao30, co30, eo30⟩ := Kd.R_slice HO312.out; subst eo30; have hnb31 := NB317_292.out; have hnc31 := NB292_317.out; have hnb32 := NB317_309.out; have hnc32 := NB309_317.out; have hcz33_0 : w29.cell? ⟨gb317, 0, none⟩ = some (.slice none 0 0) := (ql BK317.out 0).trans rfl; have hcz33_1 : w29.cell? ⟨gb317, 1, none⟩ = some (.slice none 0 0) := (ql BK317.out 1).trans rfl; have hcz33_2 : w29.cell? ⟨gb317, 2, none⟩ = some (.int .i64 0) := (ql BK317.out 2).trans rfl; have hfz33_0 := qn BK317.out 0; have hfz33_1 := qn BK317.out 1; have hfz33_2 := qn BK317.out 2; obtain ⟨Ao34, co34, eo34⟩ := Kd.R_slice HO315.out; subst eo34) | ((with_reducible refine qz (f := 35) rfl ?_); refine goesL_ (some 37) rfl rfl Try.func35 (by kernel_rfl) rfl #[.agg #[.slice Ao30 t310.length co30, .slice Ao34 t313.length co34, .int .i64 t316], .int .i64 a1, .int .i64 a2] rfl (by (try simp only [List.map_toArray, List.map_cons, List.map_nil]); first | done | rfl | (simp only [List.length_drop, List.length_take]; rfl)) ?_; (with_reducible refine (impl_RaiseJoin.calls k _ _ t310 _ _ t313 t316 a1 a2 t318 t321 t324 t325 _ ?side1 ?side2 ?side3 ?side4 A12.out).mono ?_); (case side1 => refine (Kd.R_reads' (e := 56) (base := w.heap.size) (ok := fun k_ => ((((some k_ ≠ (.slice Ao34 t313.length co34 : Value).ownBlock ∧ some k_ ≠ (.slice Ao19 t294.length co19 : Value).ownBlock) ∧ some k_ ≠ (.slice Ao20 t297.length co20 : Value).ownBlock) ∧ some k_ ≠ (.slice Ao23 t301.length co23 : Value).ownBlock) ∧ some k_ ≠ (.slice Ao26 t304.length co26 : Value).ownBlock)) (n := t310.length) (c := co30) ?_).2.2; exact (by (with_reducible repeat (first | apply qa | apply qb | apply qc)); exact (qi (qg (p := ⟨gb317, 2, none⟩) (qg (p := ⟨gb317, 1, none⟩) (qg (p := ⟨gb317, 0, none⟩) (qq HO312.out BK317.out (by decide)) (fun _ hk => hk.2) (.slice Ao30 t310.length co30)) (fun _ hk => hk.2) (.slice Ao34 t313.length co34)) (fun _ hk => hk.2) (.int .i64 t316)) (fun _ h_ => h_.1)))); (case side2 => exact (Kd.R_reads' HO312.out).2.1); (case side3 => refine (Kd.R_reads' (e := 56) (base := w.heap.size) (ok := fun k_ => ((((some k_ ≠ (.slice Ao30 t310.length co30 : Value).ownBlock ∧ some k_ ≠ (.slice Ao19 t294.length co19 : Value).ownBlock) ∧ some k_ ≠ (.slice Ao20 t297.length co20 : Value).ownBlock) ∧ some k_ ≠ (.slice Ao23 t301.length co23 : Value).ownBlock) ∧ some k_ ≠ (.slice Ao26 t304.length co26 : Value).ownBlock)) (n := t313.length) (c := co34) ?_).2.2; exact (by (with_reducible repeat (first | apply qa | apply qb | apply qc)); exact (qi (qg (p := ⟨gb317, 2, none⟩) (qg (p := ⟨gb317, 1, none⟩) (qg (p := ⟨gb317, 0, none⟩) (qq HO315.out BK317.out (by decide)) (fun _ hk => hk.2) (.slice Ao30 t310.length co30)) (fun _ hk => hk.2) (.slice Ao34 t313.length co34)) (fun _ hk => hk.2) (.int .i64 t316)) (fun _ h_ => h_.1)))); (case side4 => exact (Kd.R_reads' HO315.out).2.1); rintro e w35 ⟨v319, v322, rfl, ho0, ho1, hb⟩; refine ⟨_, rfl, ?_⟩; have n0_ := Aside0.mk (qi (Kd.R_told (Kd.R_told (Kd.R_old (by (with_reducible repeat (first | apply qa | apply qb | apply qc)); exact (qi (qg (p := ⟨gb317, 2, none⟩) (qg (p := ⟨gb317, 1, none⟩) (qg (p := ⟨gb317, 0, none⟩) (qq HO296.out BK317.out (by decide)) (fun _ hk => hk.2) (.slice Ao30 t310.length co30)) (fun _ hk => hk.2) (.slice Ao34 t313.length co34)) (fun _ hk => hk.2) (.int .i64 t316)) (fun _ h_ => h_.1))) hb) (qr ho0)) (qr ho1)) (fun _ h_ => h_.1)); have n1_ := Aside0.mk (qi (Kd.R_told (Kd.R_told (Kd.R_old (by (with_reducible repeat (first | apply qa | apply qb | apply qc)); exact (qi (qg (p := ⟨gb317, 2, none⟩) (qg (p := ⟨gb317, 1, none⟩) (qg (p := ⟨gb317, 0, none⟩) (qq HO299.out BK317.out (by decide)) (fun _ hk => hk.2) (.slice Ao30 t310.length co30)) (fun _ hk => hk.2) (.slice Ao34 t313.length co34)) (fun _ hk => hk.2) (.int .i64 t316)) (fun _ h_ => h_.1))) hb) (qr ho0)) (qr ho1)) (fun _ h_ => h_.1)); have n2_ := Aside0.mk (qi (Kd.R_told (Kd.R_told (Kd.R_old (by (with_reducible repeat (first | apply qa | apply qb | apply qc)); exact (qi (qg (p := ⟨gb317, 2, none⟩) (qg (p := ⟨gb317, 1, none⟩) (qg (p := ⟨gb317, 0, none⟩) (qq HO303.out BK317.out (by decide)) (fun _ hk => hk.2) (.slice Ao30 t310.length co30)) (fun _ hk => hk.2) (.slice Ao34 t313.length co34)) (fun _ hk => hk.2) (.int .i64 t316)) (fun _ h_ => h_.1))) hb) (qr ho0)) (qr ho1)) (fun _ h_ => h_.1)); have n3_ := Aside0.mk (qi (Kd.R_told (Kd.R_told (Kd.R_old (by (with_reducible repeat (first | apply qa | apply qb | apply qc)); exact (qi (qg (p := ⟨gb317, 2, none⟩) (qg (p := ⟨gb317, 1, none⟩) (qg (p := ⟨gb317, 0, none⟩) (qq HO306.out BK317.out (by decide)) (fun _ hk => hk.2) (.slice Ao30 t310.length co30)) (fun _ hk => hk.2) (.slice Ao34 t313.length co34)) (fun _ hk => hk.2) (.int .i64 t316)) (fun _ h_ => h_.1))) hb) (qr ho0)) (qr ho1)) (fun _ h_ => h_.1)); have n4_ := Aside0.mk (qi (Kd.R_told (Kd.R_told (Kd.R_old (by (with_reducible repeat (first | apply qa | apply qb | apply qc)); exact (qi (qg (p := ⟨gb317, 2, none⟩) (qg (p := ⟨gb317, 1, none⟩) (qg (p := ⟨gb317, 0, none⟩) (qq HO312.out BK317.out (by decide)) (fun _ hk => hk.2) (.slice Ao30 t310.length co30)) (fun _ hk => hk.2) (.slice Ao34 t313.length co34)) (fun _ hk => hk.2) (.int .i64 t316)) (fun _ h_ => h_.1))) hb) (qr ho0)) (qr ho1)) (fun _ h_ => h_.1)); have n5_ := Aside0.mk (qi (Kd.R_told (Kd.R_told (Kd.R_old (by (with_reducible repeat (first | apply qa | apply qb | apply qc)); exact (qi (qg (p := ⟨gb317, 2, none⟩) (qg (p := ⟨gb317, 1, none⟩) (qg (p := ⟨gb317, 0, none⟩) (qq HO315.out BK317.out (by decide)) (fun _ hk => hk.2) (.slice Ao30 t310.length co30)) (fun _ hk => hk.2) (.slice Ao34 t313.length co34)) (fun _ hk => hk.2) (.int .i64 t316)) (fun _ h_ => h_.1))) hb) (qr ho0)) (qr ho1)) (fun _ h_ => h_.1)); have n6_ := Aside0.mk (Kd.R_lower (Kd.R_new' (Kd.R_new' (Kd.R_new' (Kd.R_new' (Kd.R_new' (Kd.R_new' ho0 (qs (by (with_reducible repeat (first | apply qa | apply qb | apply qc)); exact (qi (qg (p := ⟨gb317, 2, none⟩) (qg (p := ⟨gb317, 1, none⟩) (qg (p := ⟨gb317, 0, none⟩) (qq HO296.out BK317.out (by decide)) (fun _ hk => hk.2) (.slice Ao30 t310.length co30)) (fun _ hk => hk.2) (.slice Ao34 t313.length co34)) (fun _ hk => hk.2) (.int .i64 t316)) (fun _ h_ => h_.1))))) (qs (by (with_reducible repeat (first | apply qa | apply qb | apply qc)); exact (qi (qg (p := ⟨gb317, 2, none⟩) (qg (p := ⟨gb317, 1, none⟩) (qg (p := ⟨gb317, 0, none⟩) (qq HO299.out BK317.out (by decide)) (fun _ hk => hk.2) (.slice Ao30 t310.length co30)) (fun _ hk => hk.2) (.slice Ao34 t313.length co34)) (fun _ hk => hk.2) (.int .i64 t316)) (fun _ h_ => h_.1))))) (qs (by (with_reducible repeat (first | apply qa | apply qb | apply qc)); exact (qi (qg (p := ⟨gb317, 2, none⟩) (qg (p := ⟨gb317, 1, none⟩) (qg (p := ⟨gb317, 0, none⟩) (qq HO303.out BK317.out (by decide)) (fun _ hk => hk.2) (.slice Ao30 t310.length co30)) (fun _ hk => hk.2) (.slice Ao34 t313.length co34)) (fun _ hk => hk.2) (.int .i64 t316)) (fun _ h_ => h_.1))))) (qs (by (with_reducible repeat (first | apply qa | apply qb | apply qc)); exact (qi (qg (p := ⟨gb317, 2, none⟩) (qg (p := ⟨gb317, 1, none⟩) (qg (p := ⟨gb317, 0, none⟩) (qq HO306.out BK317.out (by decide)) (fun _ hk => hk.2) (.slice Ao30 t310.length co30)) (fun _ hk => hk.2) (.slice Ao34 t313.length co34)) (fun _ hk => hk.2) (.int .i64 t316)) (fun _ h_ => h_.1))))) (qs (by (with_reducible repeat (first | apply qa | apply qb | apply qc)); exact (qi (qg (p := ⟨gb317, 2, none⟩) (qg (p := ⟨gb317, 1, none⟩) (qg (p := ⟨gb317, 0, none⟩) (qq HO312.out BK317.out (by decide)) (fun _ hk => hk.2) (.slice Ao30 t310.length co30)) (fun _ hk => hk.2) (.slice Ao34 t313.length co34)) (fun _ hk => hk.2) (.int .i64 t316)) (fun _ h_ => h_.1))))) (qs (by (with_reducible repeat (first | apply qa | apply qb | apply qc)); exact (qi (qg (p := ⟨gb317, 2, none⟩) (qg (p := ⟨gb317, 1, none⟩) (qg (p := ⟨gb317, 0, none⟩) (qq HO315.out BK317.out (by decide)) (fun _ hk => hk.2) (.slice Ao30 t310.length co30)) (fun _ hk => hk.2) (.slice Ao34 t313.length co34)) (fun _ hk => hk.2) (.int .i64 t316)) (fun _ h_ => h_.1))))) (qy (by repeat (first | (with_reducible first | exact HB.out | apply qo | apply qk | apply qm | refine qd ?_ GE292.out | refine qd ?_ GE309.out | refine qd ?_ GE317.out) | exact HB.out)))); have n7_ := Aside0.mk (Kd.R_lower (Kd.R_new' (Kd.R_new' (Kd.R_new' (Kd.R_new' (Kd.R_new' (Kd.R_new' ho1 (qs (by (with_reducible repeat (first | apply qa | apply qb | apply qc)); exact (qi (qg (p := ⟨gb317, 2, none⟩) (qg (p := ⟨gb317, 1, none⟩) (qg (p := ⟨gb317, 0, none⟩) (qq HO296.out BK317.out (by decide)) (fun _ hk => hk.2) (.slice Ao30 t310.length co30)) (fun _ hk => hk.2) (.slice Ao34 t313.length co34)) (fun _ hk => hk.2) (.int .i64 t316)) (fun _ h_ => h_.1))))) (qs (by (with_reducible repeat (first | apply qa | apply qb | apply qc)); exact (qi (qg (p := ⟨gb317, 2, none⟩) (qg (p := ⟨gb317, 1, none⟩) (qg (p := ⟨gb317, 0, none⟩) (qq HO299.out BK317.out (by decide)) (fun _ hk => hk.2) (.slice Ao30 t310.length co30)) (fun _ hk => hk.2) (.slice Ao34 t313.length co34)) (fun _ hk => hk.2) (.int .i64 t316)) (fun _ h_ => h_.1))))) (qs (by (with_reducible repeat (first | apply qa | apply qb | apply qc)); exact (qi (qg (p := ⟨gb317, 2, none⟩) (qg (p := ⟨gb317, 1, none⟩) (qg (p := ⟨gb317, 0, none⟩) (qq HO303.out BK317.out (by decide)) (fun _ hk => hk.2) (.slice Ao30 t310.length co30)) (fun _ hk => hk.2) (.slice Ao34 t313.length co34)) (fun _ hk => hk.2) (.int .i64 t316)) (fun _ h_ => h_.1))))) (qs (by (with_reducible repeat (first | apply qa | apply qb | apply qc)); exact (qi (qg (p := ⟨gb317, 2, none⟩) (qg (p := ⟨gb317, 1, none⟩) (qg (p := ⟨gb317, 0, none⟩) (qq HO306.out BK317.out (by decide)) (fun _ hk => hk.2) (.slice Ao30 t310.length co30)) (fun _ hk => hk.2) (.slice Ao34 t313.length co34)) (fun _ hk => hk.2) (.int .i64 t316)) (fun _ h_ => h_.1))))) (qs (by (with_reducible repeat (first | apply qa | apply qb | apply qc)); exact (qi (qg (p := ⟨gb317, 2, none⟩) (qg (p := ⟨gb317, 1, none⟩) (qg (p := ⟨gb317, 0, none⟩) (qq HO312.out BK317.out (by decide)) (fun _ hk => hk.2) (.slice Ao30 t310.length co30)) (fun _ hk => hk.2) (.slice Ao34 t313.length co34)) (fun _ hk => hk.2) (.int .i64 t316)) (fun _ h_ => h_.1))))) (qs (by (with_reducible repeat (first | apply qa | apply qb | apply qc)); exact (qi (qg (p := ⟨gb317, 2, none⟩) (qg (p := ⟨gb317, 1, none⟩) (qg (p := ⟨gb317, 0, none⟩) (qq HO315.out BK317.out (by decide)) (fun _ hk => hk.2) (.slice Ao30 t310.length co30)) (fun _ hk => hk.2) (.slice Ao34 t313.length co34)) (fun _ hk => hk.2) (.int .i64 t316)) (fun _ h_ => h_.1))))) (qy (by repeat (first | (with_reducible first | exact HB.out | apply qo | apply qk | apply qm | refine qd ?_ GE292.out | refine qd ?_ GE309.out | refine qd ?_ GE317.out) | exact HB.out)))); have n8_ := Aside0.mk (qp (g := gb292) (o := .cells #[.slice A0_0 l0_0.length c0_0, .slice A0_1 l0_1.length c0_1, .int .i64 a0_2] 24 (0, 0)) (by (with_reducible repeat (first | refine qe ?_ _ | refine qh ?_ | refine qf ?_ _)); refine qw ?_ NB292_317.out _; (with_reducible repeat (first | refine qe ?_ _ | refine qh ?_ | refine qf ?_ _)); refine qw ?_ NB292_317.out _; (with_reducible repeat (first | refine qe ?_ _ | refine qh ?_ | refine qf ?_ _)); refine qw ?_ NB292_317.out _; (with_reducible repeat (first | refine qe ?_ _ | refine qh ?_ | refine qf ?_ _)); exact BK292.out) hb); have n9_ := Aside0.mk (qp (g := gb309) (o := .cells #[.slice Ao23 t301.length co23, .slice Ao26 t304.length co26, .int .i64 t307] 29 (0, 0)) (by (with_reducible repeat (first | refine qe ?_ _ | refine qh ?_ | refine qf ?_ _)); refine qw ?_ NB309_317.out _; (with_reducible repeat (first | refine qe ?_ _ | refine qh ?_ | refine qf ?_ _)); refine qw ?_ NB309_317.out _; (with_reducible repeat (first | refine qe ?_ _ | refine qh ?_ | refine qf ?_ _)); refine qw ?_ NB309_317.out _; (with_reducible repeat (first | refine qe ?_ _ | refine qh ?_ | refine qf ?_ _)); exact BK309.out) hb); have n10_ := Aside0.mk (qp (g := gb317) (o := .cells #[.slice Ao30 t310.length co30, .slice Ao34 t313.length co34, .int .i64 t316] 29 (0, 0)) (by (with_reducible repeat (first | refine qe ?_ _ | refine qh ?_ | refine qf ?_ _)); refine blk_put (cs := #[.slice Ao30 t310.length co30, .slice Ao34 t313.length co34, .int .i64 0]) ?_ 2 _ rfl; (with_reducible repeat (first | refine qe ?_ _ | refine qh ?_ | refine qf ?_ _)); refine blk_put (cs := #[.slice Ao30 t310.length co30, .slice none 0 0, .int .i64 0]) ?_ 1 _ rfl; (with_reducible repeat (first | refine qe ?_ _ | refine qh ?_ | refine qf ?_ _)); refine blk_put (cs := #[.slice none 0 0, .slice none 0 0, .int .i64 0]) ?_ 0 _ rfl; (with_reducible repeat (first | refine qe ?_ _ | refine qh ?_ | refine qf ?_ _)); exact BK317.out) hb); have n11_ := Aside0.mk (qx (by repeat (first | (with_reducible first | exact HB.out | apply qo | apply qk | apply qm | refine qd ?_ GE292.out | refine qd ?_ GE309.out | refine qd ?_ GE317.out) | exact HB.out)) hb); clear HO296; clear HO299; clear HO303; clear HO306; clear HO312; clear HO315; clear BK292; clear BK309; clear BK317; clear HB; have HO296 := n0_; have HO299 := n1_; have HO303 := n2_; have HO306 := n3_; have HO312 := n4_; have HO315 := n5_; have HO320 := n6_; have HO323 := n7_; have BK292 := n8_; have BK309 := n9_; have BK317 := n10_; have HB := n11_; clear n0_ n1_ n2_ n3_ n4_ n5_ n6_ n7_ n8_ n9_ n10_ n11_; (try clear hb); (try clear hb2); (try clear hk); (try clear hi); (try clear ho0); (try clear ho1)) | ((with_reducible refine gate_dst (N := 11) rfl ?_); refine box_event ?hg (N := 11) ?hd (cs := #[.slice none 0 0, .slice none 0 0, .int .i64 0]) (t := 29) ?hr ?_; (case hd => rfl); (case hg => rfl); (case hr => first | (go_simp; done) | (go_simp; rfl)); intro gb326 hg w36 hbox hb; have n0_ := Aside0.mk (qj (by (with_reducible repeat (first | apply qa | apply qb | apply qc)); exact HO296.out) hb); have n1_ := Aside0.mk (qj (by (with_reducible repeat (first | apply qa | apply qb | apply qc)); exact HO299.out) hb); have n2_ := Aside0.mk (qj (by (with_reducible repeat (first | apply qa | apply qb | apply qc)); exact HO303.out) hb); have n3_ := Aside0.mk (qj (by (with_reducible repeat (first | apply qa | apply qb | apply qc)); exact HO306.out) hb); have n4_ := Aside0.mk (qj (by (with_reducible repeat (first | apply qa | apply qb | apply qc)); exact HO312.out) hb); have n5_ := Aside0.mk (qj (by (with_reducible repeat (first | apply qa | apply qb | apply qc)); exact HO315.out) hb); have n6_ := Aside0.mk (qj (by (with_reducible repeat (first | apply qa | apply qb | apply qc)); exact HO320.out) hb); have n7_ := Aside0.mk (qj (by (with_reducible repeat (first | apply qa | apply qb | apply qc)); exact HO323.out) hb); have n8_ := Aside0.mk (qp (g := gb292) (o := .cells #[.slice A0_0 l0_0.length c0_0, .slice A0_1 l0_1.length c0_1, .int .i64 a0_2] 24 (0, 0)) (by (with_reducible repeat (first | refine qe ?_ _ | refine qh ?_ | refine qf ?_ _)); exact BK292.out) hb); have n9_ := Aside0.mk (qp (g := gb309) (o := .cells #[.slice Ao23 t301.length co23, .slice Ao26 t304.length co26, .int .i64 t307] 29 (0, 0)) (by (with_reducible repeat (first | refine qe ?_ _ | refine qh ?_ | refine qf ?_ _)); exact BK309.out) hb); have n10_ := Aside0.mk (qp (g := gb317) (o := .cells #[.slice Ao30 t310.length co30, .slice Ao34 t313.length co34, .int .i64 t316] 29 (0, 0)) (by (with_reducible repeat (first | refine qe ?_ _ | refine qh ?_ | refine qf ?_ _)); exact BK317.out) hb); have n11_ := Aside0.mk (qx (by repeat (first | (with_reducible first | exact HB.out | apply qo | apply qk | apply qm | refine qd ?_ GE292.out | refine qd ?_ GE309.out | refine qd ?_ GE317.out) | exact HB.out)) hb); have n12_ := Aside0.mk (hbox); have n13_ := Aside0.mk ((by rw [hg]; exact (qy (by repeat (first | (with_reducible first | exact HB.out | apply qo | apply qk | apply qm | refine qd ?_ GE292.out | refine qd ?_ GE309.out | refine qd ?_ GE317.out) | exact HB.out))) : w.heap.size ≤ gb326)); have n14_ := Aside0.mk ((by rw [hg]; exact (qy (by repeat (first | (with_reducible first | exact HB.out | apply qo | apply qk | apply qm | refine qd ?_ GE292.out | refine qd ?_ GE309.out | refine qd ?_ GE317.out) | exact HB.out))) : w.heap.size ≤ gb326)); have n15_ := Aside0.mk ((by rw [hg]; exact Nat.ne_of_lt (blk_lt (g := gb292) (o := .cells #[.slice A0_0 l0_0.length c0_0, .slice A0_1 l0_1.length c0_1, .int .i64 a0_2] 24 (0, 0)) (by (with_reducible repeat (first | refine qe ?_ _ | refine qh ?_ | refine qf ?_ _)); exact BK292.out)) : gb292 ≠ gb326)); have n16_ := Aside0.mk ((by rw [hg]; exact Nat.ne_of_gt (blk_lt (g := gb292) (o := .cells #[.slice A0_0 l0_0.length c0_0, .slice A0_1 l0_1.length c0_1, .int .i64 a0_2] 24 (0, 0)) (by (with_reducible repeat (first | refine qe ?_ _ | refine qh ?_ | refine qf ?_ _)); exact BK292.out)) : gb326 ≠ gb292)); have n17_ := Aside0.mk ((by rw [hg]; exact Nat.ne_of_lt (blk_lt (g := gb309) (o := .cells #[.slice Ao23 t301.length co23, .slice Ao26 t304.length co26, .int .i64 t307] 29 (0, 0)) (by (with_reducible repeat (first | refine qe ?_ _ | refine qh ?_ | refine qf ?_ _)); exact BK309.out)) : gb309 ≠ gb326)); have n18_ := Aside0.mk ((by rw [hg]; exact Nat.ne_of_gt (blk_lt (g := gb309) (o := .cells #[.slice Ao23 t301.length co23, .slice Ao26 t304.length co26, .int .i64 t307] 29 (0, 0)) (by (with_reducible repeat (first | refine qe ?_ _ | refine qh ?_ | refine qf ?_ _)); exact BK309.out)) : gb326 ≠ gb309)); have n19_ := Aside0.mk ((by rw [hg]; exact Nat.ne_of_lt (blk_lt (g := gb317) (o := .cells #[.slice Ao30 t310.length co30, .slice Ao34 t313.length co34, .int .i64 t316] 29 (0, 0)) (by (with_reducible repeat (first | refine qe ?_ _ | refine qh ?_ | refine qf ?_ _)); exact BK317.out)) : gb317 ≠ gb326)); have n20_ := Aside0.mk ((by rw [hg]; exact Nat.ne_of_gt (blk_lt (g := gb317) (o := .cells #[.slice Ao30 t310.length co30, .slice Ao34 t313.length co34, .int .i64 t316] 29 (0, 0)) (by (with_reducible repeat (first | refine qe ?_ _ | refine qh ?_ | refine qf ?_ _)); exact BK317.out)) : gb326 ≠ gb317)); clear HO296; clear HO299; clear HO303; clear HO306; clear HO312; clear HO315; clear HO320; clear HO323; clear BK292; clear BK309; clear BK317; clear HB; have HO296 := n0_; have HO299 := n1_; have HO303 := n2_; have HO306 := n3_; have HO312 := n4_; have HO315 := n5_; have HO320 := n6_; have HO323 := n7_; have BK292 := n8_; have BK309 := n9_; have BK317 := n10_; have HB := n11_; have BK326 := n12_; have GW326 := n13_; have GE326 := n14_; have NB292_326 := n15_; have NB326_292 := n16_; have NB309_326 := n17_; have NB326_309 := n18_; have NB317_326 := n19_; have NB326_317 := n20_; clear n0_ n1_ n2_ n3_ n4_ n5_ n6_ n7_ n8_ n9_ n10_ n11_ n12_ n13_ n14_ n15_ n16_ n17_ n18_ n19_ n20_; clear hb hbox hg; obtain ⟨Ao37, co37, eo37⟩ := Kd.R_slice HO320.out; subst eo37; have hnb38 := NB326_292.out; have hnc38 := NB292_326.out; have hnb39 := NB326_309.out; have hnc39 := NB309_326.out; have hnb40 := NB326_317.out; have hnc40 := NB317_326.out; have hcz41_0 : w36.cell? ⟨gb326, 0, none⟩ = some (.slice none 0 0) := (ql BK326.out 0).trans rfl; have hcz41_1 : w36.cell? ⟨gb326, 1, none⟩ = some (.slice none 0 0) := (ql BK326.out 1).trans rfl; have hcz41_2 : w36.cell? ⟨gb326, 2, none⟩ = some (.int .i64 0) := (ql BK326.out 2).trans rfl; have hfz41_0 := qn BK326.out 0; have hfz41_1 := qn BK326.out 1; have hfz41_2 := qn BK326.out 2; obtain ⟨Ao42, co42, eo42⟩ := Kd.R_slice HO323.out; subst eo42))
  (try simp only [Act.put, List.setIfInBounds_toArray, List.set_cons_zero, List.set_cons_succ])
  go_cut [48] (fun v48 wc => ∃ (kq : Nat) (x48_12 : Bool), v48 = .bool x48_12 ∧ Aside0 (laws_FnExactRaiseJoin.j0 kq a1 a2 t308 t325 x48_12 l0_0 l0_1 a0_2 t301 t304 t307 t310 t313 t316 t318 t321 t324 = some r) ∧ Aside0 (kq ≤ k) ∧ Aside0 (Kd.R k56 56 wc w.heap.size (fun k_ => some k_ ≠ ((.slice Ao26 t304.length co26) : Value).ownBlock ∧ some k_ ≠ ((.slice Ao30 t310.length co30) : Value).ownBlock ∧ some k_ ≠ ((.slice Ao34 t313.length co34) : Value).ownBlock ∧ some k_ ≠ ((.slice Ao37 t318.length co37) : Value).ownBlock ∧ some k_ ≠ ((.slice Ao42 t321.length co42) : Value).ownBlock) (.slice Ao23 t301.length co23) t301) ∧ Aside0 (Kd.R k56 56 wc w.heap.size (fun k_ => some k_ ≠ ((.slice Ao23 t301.length co23) : Value).ownBlock ∧ some k_ ≠ ((.slice Ao30 t310.length co30) : Value).ownBlock ∧ some k_ ≠ ((.slice Ao34 t313.length co34) : Value).ownBlock ∧ some k_ ≠ ((.slice Ao37 t318.length co37) : Value).ownBlock ∧ some k_ ≠ ((.slice Ao42 t321.length co42) : Value).ownBlock) (.slice Ao26 t304.length co26) t304) ∧ Aside0 (Kd.R k56 56 wc w.heap.size (fun k_ => some k_ ≠ ((.slice Ao23 t301.length co23) : Value).ownBlock ∧ some k_ ≠ ((.slice Ao26 t304.length co26) : Value).ownBlock ∧ some k_ ≠ ((.slice Ao34 t313.length co34) : Value).ownBlock ∧ some k_ ≠ ((.slice Ao37 t318.length co37) : Value).ownBlock ∧ some k_ ≠ ((.slice Ao42 t321.length co42) : Value).ownBlock) (.slice Ao30 t310.length co30) t310) ∧ Aside0 (Kd.R k56 56 wc w.heap.size (fun k_ => some k_ ≠ ((.slice Ao23 t301.length co23) : Value).ownBlock ∧ some k_ ≠ ((.slice Ao26 t304.length co26) : Value).ownBlock ∧ some k_ ≠ ((.slice Ao30 t310.length co30) : Value).ownBlock ∧ some k_ ≠ ((.slice Ao37 t318.length co37) : Value).ownBlock ∧ some k_ ≠ ((.slice Ao42 t321.length co42) : Value).ownBlock) (.slice Ao34 t313.length co34) t313) ∧ Aside0 (Kd.R k56 56 wc w.heap.size (fun k_ => some k_ ≠ ((.slice Ao23 t301.length co23) : Value).ownBlock ∧ some k_ ≠ ((.slice Ao26 t304.length co26) : Value).ownBlock ∧ some k_ ≠ ((.slice Ao30 t310.length co30) : Value).ownBlock ∧ some k_ ≠ ((.slice Ao34 t313.length co34) : Value).ownBlock ∧ some k_ ≠ ((.slice Ao42 t321.length co42) : Value).ownBlock) (.slice Ao37 t318.length co37) t318) ∧ Aside0 (Kd.R k56 56 wc w.heap.size (fun k_ => some k_ ≠ ((.slice Ao23 t301.length co23) : Value).ownBlock ∧ some k_ ≠ ((.slice Ao26 t304.length co26) : Value).ownBlock ∧ some k_ ≠ ((.slice Ao30 t310.length co30) : Value).ownBlock ∧ some k_ ≠ ((.slice Ao34 t313.length co34) : Value).ownBlock ∧ some k_ ≠ ((.slice Ao37 t318.length co37) : Value).ownBlock) (.slice Ao42 t321.length co42) t321) ∧ Aside0 (wc.heap[gb292]? = some (.cells #[(.slice A0_0 l0_0.length c0_0), (.slice A0_1 l0_1.length c0_1), .int .i64 a0_2] 24 (0, 0))) ∧ Aside0 (wc.heap[gb309]? = some (.cells #[(.slice Ao23 t301.length co23), (.slice Ao26 t304.length co26), .int .i64 t307] 29 (0, 0))) ∧ Aside0 (wc.heap[gb317]? = some (.cells #[(.slice Ao30 t310.length co30), (.slice Ao34 t313.length co34), .int .i64 t316] 29 (0, 0))) ∧ Aside0 (wc.heap[gb326]? = some (.cells #[(.slice Ao37 t318.length co37), (.slice Ao42 t321.length co42), .int .i64 t324] 29 (0, 0))) ∧ Aside0 (Below w.heap.size w wc))
  case first =>
   have H := HC13.out
   clear HC13
   replace H := Option.bind_eq_some_iff.mp H
   obtain ⟨t327, A430, H⟩ := H
   replace H : (if t327 = true then (laws_FnExactRaiseJoin.j0 k a1 a2 t308 t325 (t325 != t308) l0_0 l0_1 a0_2 t301 t304 t307 t310 t313 t316 t318 t321 t324) else (laws_FnExactRaiseJoin.j0 k a1 a2 t308 t325 true l0_0 l0_1 a0_2 t301 t304 t307 t310 t313 t316 t318 t321 t324)) = some r := H
   have A43 := Aside0.mk A430
   clear A430
   by_cases c44 : t327 = true
   ·
    subst c44
    have H1 : (laws_FnExactRaiseJoin.j0 k a1 a2 t308 t325 (t325 != t308) l0_0 l0_1 a0_2 t301 t304 t307 t310 t313 t316 t318 t321 t324) = some r := by rw [if_pos rfl] at H; exact H
    clear H
    have H := H1
    clear H1
    have H' := Aside0.mk H
    clear H
    have hnb45 := NB326_292.out
    have hnc45 := NB292_326.out
    have hnb46 := NB326_309.out
    have hnc46 := NB309_326.out
    have hnb47 := NB326_317.out
    have hnc47 := NB317_326.out
    have hcz48_0 : w36.cell? ⟨gb326, 0, none⟩ = some (.slice none 0 0) := (ql BK326.out 0).trans rfl
    have hcz48_1 : w36.cell? ⟨gb326, 1, none⟩ = some (.slice none 0 0) := (ql BK326.out 1).trans rfl
    have hcz48_2 : w36.cell? ⟨gb326, 2, none⟩ = some (.int .i64 0) := (ql BK326.out 2).trans rfl
    have hfz48_0 := qn BK326.out 0
    have hfz48_1 := qn BK326.out 1
    have hfz48_2 := qn BK326.out 2
    have hnb49 := NB309_292.out
    have hnc49 := NB292_309.out
    have hnb50 := NB309_317.out
    have hnc50 := NB317_309.out
    have hcz51_0 : w36.cell? ⟨gb309, 0, none⟩ = some (.slice Ao23 t301.length co23) := (ql BK309.out 0).trans rfl
    have hcz51_1 : w36.cell? ⟨gb309, 1, none⟩ = some (.slice Ao26 t304.length co26) := (ql BK309.out 1).trans rfl
    have hcz51_2 : w36.cell? ⟨gb309, 2, none⟩ = some (.int .i64 t307) := (ql BK309.out 2).trans rfl
    have hfz51_0 := qn BK309.out 0
    have hfz51_1 := qn BK309.out 1
    have hfz51_2 := qn BK309.out 2
    go_wp2_with (first | ((with_reducible refine qz (f := 17) rfl ?_); refine goesL_ (some 42) rfl rfl Try.func17 (by kernel_rfl) rfl #[.agg #[.slice Ao37 t318.length co37, .slice Ao42 t321.length co42, .int .i64 t324], .agg #[.slice Ao23 t301.length co23, .slice Ao26 t304.length co26, .int .i64 t307]] rfl (by (try simp only [List.map_toArray, List.map_cons, List.map_nil]); first | done | rfl | (simp only [List.length_drop, List.length_take]; rfl)) ?_; (with_reducible refine (laws_eqJoin.calls k _ _ t318 _ _ t321 t324 _ _ t301 _ _ t304 t307 true _ ?side1 ?side2 ?side3 ?side4 ?side5 ?side6 ?side7 ?side8 A43.out).mono ?_); (case side1 => refine (Kd.R_reads' (e := 56) (base := w.heap.size) (ok := fun k_ => ((((((some k_ ≠ (.slice Ao42 t321.length co42 : Value).ownBlock ∧ some k_ ≠ (.slice Ao19 t294.length co19 : Value).ownBlock) ∧ some k_ ≠ (.slice Ao20 t297.length co20 : Value).ownBlock) ∧ some k_ ≠ (.slice Ao23 t301.length co23 : Value).ownBlock) ∧ some k_ ≠ (.slice Ao26 t304.length co26 : Value).ownBlock) ∧ some k_ ≠ (.slice Ao30 t310.length co30 : Value).ownBlock) ∧ some k_ ≠ (.slice Ao34 t313.length co34 : Value).ownBlock)) (n := t318.length) (c := co37) ?_).2.2; exact (by (with_reducible repeat (first | apply qa | apply qb | apply qc)); exact (qi (qg (p := ⟨gb326, 2, none⟩) (qg (p := ⟨gb326, 1, none⟩) (qg (p := ⟨gb326, 0, none⟩) (qq HO320.out BK326.out (by decide)) (fun _ hk => hk.2) (.slice Ao37 t318.length co37)) (fun _ hk => hk.2) (.slice Ao42 t321.length co42)) (fun _ hk => hk.2) (.int .i64 t324)) (fun _ h_ => h_.1)))); (case side2 => exact (Kd.R_reads' HO320.out).2.1); (case side3 => refine (Kd.R_reads' (e := 56) (base := w.heap.size) (ok := fun k_ => ((((((some k_ ≠ (.slice Ao37 t318.length co37 : Value).ownBlock ∧ some k_ ≠ (.slice Ao19 t294.length co19 : Value).ownBlock) ∧ some k_ ≠ (.slice Ao20 t297.length co20 : Value).ownBlock) ∧ some k_ ≠ (.slice Ao23 t301.length co23 : Value).ownBlock) ∧ some k_ ≠ (.slice Ao26 t304.length co26 : Value).ownBlock) ∧ some k_ ≠ (.slice Ao30 t310.length co30 : Value).ownBlock) ∧ some k_ ≠ (.slice Ao34 t313.length co34 : Value).ownBlock)) (n := t321.length) (c := co42) ?_).2.2; exact (by (with_reducible repeat (first | apply qa | apply qb | apply qc)); exact (qi (qg (p := ⟨gb326, 2, none⟩) (qg (p := ⟨gb326, 1, none⟩) (qg (p := ⟨gb326, 0, none⟩) (qq HO323.out BK326.out (by decide)) (fun _ hk => hk.2) (.slice Ao37 t318.length co37)) (fun _ hk => hk.2) (.slice Ao42 t321.length co42)) (fun _ hk => hk.2) (.int .i64 t324)) (fun _ h_ => h_.1)))); (case side4 => exact (Kd.R_reads' HO323.out).2.1); (case side5 => refine (Kd.R_reads' (e := 56) (base := w.heap.size) (ok := fun k_ => ((((((some k_ ≠ (.slice Ao26 t304.length co26 : Value).ownBlock ∧ some k_ ≠ (.slice Ao19 t294.length co19 : Value).ownBlock) ∧ some k_ ≠ (.slice Ao20 t297.length co20 : Value).ownBlock) ∧ some k_ ≠ (.slice Ao30 t310.length co30 : Value).ownBlock) ∧ some k_ ≠ (.slice Ao34 t313.length co34 : Value).ownBlock) ∧ some k_ ≠ (.slice Ao37 t318.length co37 : Value).ownBlock) ∧ some k_ ≠ (.slice Ao42 t321.length co42 : Value).ownBlock)) (n := t301.length) (c := co23) ?_).2.2; exact (by (with_reducible repeat (first | apply qa | apply qb | apply qc)); exact (qi (qg (p := ⟨gb326, 2, none⟩) (qg (p := ⟨gb326, 1, none⟩) (qg (p := ⟨gb326, 0, none⟩) (qq HO303.out BK326.out (by decide)) (fun _ hk => hk.2) (.slice Ao37 t318.length co37)) (fun _ hk => hk.2) (.slice Ao42 t321.length co42)) (fun _ hk => hk.2) (.int .i64 t324)) (fun _ h_ => h_.1)))); (case side6 => exact (Kd.R_reads' HO303.out).2.1); (case side7 => refine (Kd.R_reads' (e := 56) (base := w.heap.size) (ok := fun k_ => ((((((some k_ ≠ (.slice Ao23 t301.length co23 : Value).ownBlock ∧ some k_ ≠ (.slice Ao19 t294.length co19 : Value).ownBlock) ∧ some k_ ≠ (.slice Ao20 t297.length co20 : Value).ownBlock) ∧ some k_ ≠ (.slice Ao30 t310.length co30 : Value).ownBlock) ∧ some k_ ≠ (.slice Ao34 t313.length co34 : Value).ownBlock) ∧ some k_ ≠ (.slice Ao37 t318.length co37 : Value).ownBlock) ∧ some k_ ≠ (.slice Ao42 t321.length co42 : Value).ownBlock)) (n := t304.length) (c := co26) ?_).2.2; exact (by (with_reducible repeat (first | apply qa | apply qb | apply qc)); exact (qi (qg (p := ⟨gb326, 2, none⟩) (qg (p := ⟨gb326, 1, none⟩) (qg (p := ⟨gb326, 0, none⟩) (qq HO306.out BK326.out (by decide)) (fun _ hk => hk.2) (.slice Ao37 t318.length co37)) (fun _ hk => hk.2) (.slice Ao42 t321.length co42)) (fun _ hk => hk.2) (.int .i64 t324)) (fun _ h_ => h_.1)))); (case side8 => exact (Kd.R_reads' HO306.out).2.1); rintro e w52 ⟨rfl, hb⟩; refine ⟨_, rfl, ?_⟩; have n0_ := Aside0.mk (qj (by (with_reducible repeat (first | apply qa | apply qb | apply qc)); exact (qi (qg (p := ⟨gb326, 2, none⟩) (qg (p := ⟨gb326, 1, none⟩) (qg (p := ⟨gb326, 0, none⟩) (qq HO296.out BK326.out (by decide)) (fun _ hk => hk.2) (.slice Ao37 t318.length co37)) (fun _ hk => hk.2) (.slice Ao42 t321.length co42)) (fun _ hk => hk.2) (.int .i64 t324)) (fun _ h_ => h_.1))) hb); have n1_ := Aside0.mk (qj (by (with_reducible repeat (first | apply qa | apply qb | apply qc)); exact (qi (qg (p := ⟨gb326, 2, none⟩) (qg (p := ⟨gb326, 1, none⟩) (qg (p := ⟨gb326, 0, none⟩) (qq HO299.out BK326.out (by decide)) (fun _ hk => hk.2) (.slice Ao37 t318.length co37)) (fun _ hk => hk.2) (.slice Ao42 t321.length co42)) (fun _ hk => hk.2) (.int .i64 t324)) (fun _ h_ => h_.1))) hb); have n2_ := Aside0.mk (qj (by (with_reducible repeat (first | apply qa | apply qb | apply qc)); exact (qi (qg (p := ⟨gb326, 2, none⟩) (qg (p := ⟨gb326, 1, none⟩) (qg (p := ⟨gb326, 0, none⟩) (qq HO303.out BK326.out (by decide)) (fun _ hk => hk.2) (.slice Ao37 t318.length co37)) (fun _ hk => hk.2) (.slice Ao42 t321.length co42)) (fun _ hk => hk.2) (.int .i64 t324)) (fun _ h_ => h_.1))) hb); have n3_ := Aside0.mk (qj (by (with_reducible repeat (first | apply qa | apply qb | apply qc)); exact (qi (qg (p := ⟨gb326, 2, none⟩) (qg (p := ⟨gb326, 1, none⟩) (qg (p := ⟨gb326, 0, none⟩) (qq HO306.out BK326.out (by decide)) (fun _ hk => hk.2) (.slice Ao37 t318.length co37)) (fun _ hk => hk.2) (.slice Ao42 t321.length co42)) (fun _ hk => hk.2) (.int .i64 t324)) (fun _ h_ => h_.1))) hb); have n4_ := Aside0.mk (qj (by (with_reducible repeat (first | apply qa | apply qb | apply qc)); exact (qi (qg (p := ⟨gb326, 2, none⟩) (qg (p := ⟨gb326, 1, none⟩) (qg (p := ⟨gb326, 0, none⟩) (qq HO312.out BK326.out (by decide)) (fun _ hk => hk.2) (.slice Ao37 t318.length co37)) (fun _ hk => hk.2) (.slice Ao42 t321.length co42)) (fun _ hk => hk.2) (.int .i64 t324)) (fun _ h_ => h_.1))) hb); have n5_ := Aside0.mk (qj (by (with_reducible repeat (first | apply qa | apply qb | apply qc)); exact (qi (qg (p := ⟨gb326, 2, none⟩) (qg (p := ⟨gb326, 1, none⟩) (qg (p := ⟨gb326, 0, none⟩) (qq HO315.out BK326.out (by decide)) (fun _ hk => hk.2) (.slice Ao37 t318.length co37)) (fun _ hk => hk.2) (.slice Ao42 t321.length co42)) (fun _ hk => hk.2) (.int .i64 t324)) (fun _ h_ => h_.1))) hb); have n6_ := Aside0.mk (qj (by (with_reducible repeat (first | apply qa | apply qb | apply qc)); exact (qi (qg (p := ⟨gb326, 2, none⟩) (qg (p := ⟨gb326, 1, none⟩) (qg (p := ⟨gb326, 0, none⟩) (qq HO320.out BK326.out (by decide)) (fun _ hk => hk.2) (.slice Ao37 t318.length co37)) (fun _ hk => hk.2) (.slice Ao42 t321.length co42)) (fun _ hk => hk.2) (.int .i64 t324)) (fun _ h_ => h_.1))) hb); have n7_ := Aside0.mk (qj (by (with_reducible repeat (first | apply qa | apply qb | apply qc)); exact (qi (qg (p := ⟨gb326, 2, none⟩) (qg (p := ⟨gb326, 1, none⟩) (qg (p := ⟨gb326, 0, none⟩) (qq HO323.out BK326.out (by decide)) (fun _ hk => hk.2) (.slice Ao37 t318.length co37)) (fun _ hk => hk.2) (.slice Ao42 t321.length co42)) (fun _ hk => hk.2) (.int .i64 t324)) (fun _ h_ => h_.1))) hb); have n8_ := Aside0.mk (qp (g := gb292) (o := .cells #[.slice A0_0 l0_0.length c0_0, .slice A0_1 l0_1.length c0_1, .int .i64 a0_2] 24 (0, 0)) (by (with_reducible repeat (first | refine qe ?_ _ | refine qh ?_ | refine qf ?_ _)); refine qw ?_ NB292_326.out _; (with_reducible repeat (first | refine qe ?_ _ | refine qh ?_ | refine qf ?_ _)); refine qw ?_ NB292_326.out _; (with_reducible repeat (first | refine qe ?_ _ | refine qh ?_ | refine qf ?_ _)); refine qw ?_ NB292_326.out _; (with_reducible repeat (first | refine qe ?_ _ | refine qh ?_ | refine qf ?_ _)); exact BK292.out) hb); have n9_ := Aside0.mk (qp (g := gb309) (o := .cells #[.slice Ao23 t301.length co23, .slice Ao26 t304.length co26, .int .i64 t307] 29 (0, 0)) (by (with_reducible repeat (first | refine qe ?_ _ | refine qh ?_ | refine qf ?_ _)); refine qw ?_ NB309_326.out _; (with_reducible repeat (first | refine qe ?_ _ | refine qh ?_ | refine qf ?_ _)); refine qw ?_ NB309_326.out _; (with_reducible repeat (first | refine qe ?_ _ | refine qh ?_ | refine qf ?_ _)); refine qw ?_ NB309_326.out _; (with_reducible repeat (first | refine qe ?_ _ | refine qh ?_ | refine qf ?_ _)); exact BK309.out) hb); have n10_ := Aside0.mk (qp (g := gb317) (o := .cells #[.slice Ao30 t310.length co30, .slice Ao34 t313.length co34, .int .i64 t316] 29 (0, 0)) (by (with_reducible repeat (first | refine qe ?_ _ | refine qh ?_ | refine qf ?_ _)); refine qw ?_ NB317_326.out _; (with_reducible repeat (first | refine qe ?_ _ | refine qh ?_ | refine qf ?_ _)); refine qw ?_ NB317_326.out _; (with_reducible repeat (first | refine qe ?_ _ | refine qh ?_ | refine qf ?_ _)); refine qw ?_ NB317_326.out _; (with_reducible repeat (first | refine qe ?_ _ | refine qh ?_ | refine qf ?_ _)); exact BK317.out) hb); have n11_ := Aside0.mk (qp (g := gb326) (o := .cells #[.slice Ao37 t318.length co37, .slice Ao42 t321.length co42, .int .i64 t324] 29 (0, 0)) (by (with_reducible repeat (first | refine qe ?_ _ | refine qh ?_ | refine qf ?_ _)); refine blk_put (cs := #[.slice Ao37 t318.length co37, .slice Ao42 t321.length co42, .int .i64 0]) ?_ 2 _ rfl; (with_reducible repeat (first | refine qe ?_ _ | refine qh ?_ | refine qf ?_ _)); refine blk_put (cs := #[.slice Ao37 t318.length co37, .slice none 0 0, .int .i64 0]) ?_ 1 _ rfl; (with_reducible repeat (first | refine qe ?_ _ | refine qh ?_ | refine qf ?_ _)); refine blk_put (cs := #[.slice none 0 0, .slice none 0 0, .int .i64 0]) ?_ 0 _ rfl; (with_reducible repeat (first | refine qe ?_ _ | refine qh ?_ | refine qf ?_ _)); exact BK326.out) hb); have n12_ := Aside0.mk (qx (by repeat (first | (with_reducible first | exact HB.out | apply qo | apply qk | apply qm | refine qd ?_ GE292.out | refine qd ?_ GE309.out | refine qd ?_ GE317.out | refine qd ?_ GE326.out) | exact HB.out)) hb); clear HO296; clear HO299; clear HO303; clear HO306; clear HO312; clear HO315; clear HO320; clear HO323; clear BK292; clear BK309; clear BK317; clear BK326; clear HB; have HO296 := n0_; have HO299 := n1_; have HO303 := n2_; have HO306 := n3_; have HO312 := n4_; have HO315 := n5_; have HO320 := n6_; have HO323 := n7_; have BK292 := n8_; have BK309 := n9_; have BK317 := n10_; have BK326 := n11_; have HB := n12_; clear n0_ n1_ n2_ n3_ n4_ n5_ n6_ n7_ n8_ n9_ n10_ n11_ n12_; (try clear hb); (try clear hb2); (try clear hk); (try clear hi)))
    go_meet
    case rel => exact ⟨_, ((t325 != t308)), (by first | rfl | (simp; done) | (simp [*]; done)), H', ⟨by first | omega | exact Nat.le_refl _⟩, ⟨by (with_reducible repeat (first | apply qa | apply qb | apply qc)); exact qi HO303.out (fun _ hk => ⟨hk.1.1.1.1.1.1, ⟨hk.1.1.1.2, ⟨hk.1.1.2, ⟨hk.1.2, hk.2⟩⟩⟩⟩)⟩, ⟨by (with_reducible repeat (first | apply qa | apply qb | apply qc)); exact qi HO306.out (fun _ hk => ⟨hk.1.1.1.1.1.1, ⟨hk.1.1.1.2, ⟨hk.1.1.2, ⟨hk.1.2, hk.2⟩⟩⟩⟩)⟩, ⟨by (with_reducible repeat (first | apply qa | apply qb | apply qc)); exact qi HO312.out (fun _ hk => ⟨hk.1.1.1.2, ⟨hk.1.1.2, ⟨hk.1.1.1.1.1.1, ⟨hk.1.2, hk.2⟩⟩⟩⟩)⟩, ⟨by (with_reducible repeat (first | apply qa | apply qb | apply qc)); exact qi HO315.out (fun _ hk => ⟨hk.1.1.1.2, ⟨hk.1.1.2, ⟨hk.1.1.1.1.1.1, ⟨hk.1.2, hk.2⟩⟩⟩⟩)⟩, ⟨by (with_reducible repeat (first | apply qa | apply qb | apply qc)); exact qi HO320.out (fun _ hk => ⟨hk.1.1.1.2, ⟨hk.1.1.2, ⟨hk.1.2, ⟨hk.2, hk.1.1.1.1.1.1⟩⟩⟩⟩)⟩, ⟨by (with_reducible repeat (first | apply qa | apply qb | apply qc)); exact qi HO323.out (fun _ hk => ⟨hk.1.1.1.2, ⟨hk.1.1.2, ⟨hk.1.2, ⟨hk.2, hk.1.1.1.1.1.1⟩⟩⟩⟩)⟩, ⟨by (with_reducible repeat (first | refine qe ?_ _ | refine qh ?_ | refine qf ?_ _)); exact BK292.out⟩, ⟨by (with_reducible repeat (first | refine qe ?_ _ | refine qh ?_ | refine qf ?_ _)); exact BK309.out⟩, ⟨by (with_reducible repeat (first | refine qe ?_ _ | refine qh ?_ | refine qf ?_ _)); exact BK317.out⟩, ⟨by (with_reducible repeat (first | refine qe ?_ _ | refine qh ?_ | refine qf ?_ _)); exact BK326.out⟩, ⟨by repeat (first | (with_reducible first | exact HB.out | apply qo | apply qk | apply qm | refine qd ?_ GE292.out | refine qd ?_ GE309.out | refine qd ?_ GE317.out | refine qd ?_ GE326.out) | exact HB.out)⟩⟩
   ·
    replace c44 := Bool.eq_false_iff.mpr c44
    subst c44
    have H1 : (laws_FnExactRaiseJoin.j0 k a1 a2 t308 t325 true l0_0 l0_1 a0_2 t301 t304 t307 t310 t313 t316 t318 t321 t324) = some r := by rw [if_neg (show ¬ (false = true) by decide)] at H; exact H
    clear H
    have H := H1
    clear H1
    have H' := Aside0.mk H
    clear H
    have hnb53 := NB326_292.out
    have hnc53 := NB292_326.out
    have hnb54 := NB326_309.out
    have hnc54 := NB309_326.out
    have hnb55 := NB326_317.out
    have hnc55 := NB317_326.out
    have hcz56_0 : w36.cell? ⟨gb326, 0, none⟩ = some (.slice none 0 0) := (ql BK326.out 0).trans rfl
    have hcz56_1 : w36.cell? ⟨gb326, 1, none⟩ = some (.slice none 0 0) := (ql BK326.out 1).trans rfl
    have hcz56_2 : w36.cell? ⟨gb326, 2, none⟩ = some (.int .i64 0) := (ql BK326.out 2).trans rfl
    have hfz56_0 := qn BK326.out 0
    have hfz56_1 := qn BK326.out 1
    have hfz56_2 := qn BK326.out 2
    have hnb57 := NB309_292.out
    have hnc57 := NB292_309.out
    have hnb58 := NB309_317.out
    have hnc58 := NB317_309.out
    have hcz59_0 : w36.cell? ⟨gb309, 0, none⟩ = some (.slice Ao23 t301.length co23) := (ql BK309.out 0).trans rfl
    have hcz59_1 : w36.cell? ⟨gb309, 1, none⟩ = some (.slice Ao26 t304.length co26) := (ql BK309.out 1).trans rfl
    have hcz59_2 : w36.cell? ⟨gb309, 2, none⟩ = some (.int .i64 t307) := (ql BK309.out 2).trans rfl
    have hfz59_0 := qn BK309.out 0
    have hfz59_1 := qn BK309.out 1
    have hfz59_2 := qn BK309.out 2
    go_wp2_with (first | ((with_reducible refine qz (f := 17) rfl ?_); refine goesL_ (some 42) rfl rfl Try.func17 (by kernel_rfl) rfl #[.agg #[.slice Ao37 t318.length co37, .slice Ao42 t321.length co42, .int .i64 t324], .agg #[.slice Ao23 t301.length co23, .slice Ao26 t304.length co26, .int .i64 t307]] rfl (by (try simp only [List.map_toArray, List.map_cons, List.map_nil]); first | done | rfl | (simp only [List.length_drop, List.length_take]; rfl)) ?_; (with_reducible refine (laws_eqJoin.calls k _ _ t318 _ _ t321 t324 _ _ t301 _ _ t304 t307 false _ ?side1 ?side2 ?side3 ?side4 ?side5 ?side6 ?side7 ?side8 A43.out).mono ?_); (case side1 => refine (Kd.R_reads' (e := 56) (base := w.heap.size) (ok := fun k_ => ((((((some k_ ≠ (.slice Ao42 t321.length co42 : Value).ownBlock ∧ some k_ ≠ (.slice Ao19 t294.length co19 : Value).ownBlock) ∧ some k_ ≠ (.slice Ao20 t297.length co20 : Value).ownBlock) ∧ some k_ ≠ (.slice Ao23 t301.length co23 : Value).ownBlock) ∧ some k_ ≠ (.slice Ao26 t304.length co26 : Value).ownBlock) ∧ some k_ ≠ (.slice Ao30 t310.length co30 : Value).ownBlock) ∧ some k_ ≠ (.slice Ao34 t313.length co34 : Value).ownBlock)) (n := t318.length) (c := co37) ?_).2.2; exact (by (with_reducible repeat (first | apply qa | apply qb | apply qc)); exact (qi (qg (p := ⟨gb326, 2, none⟩) (qg (p := ⟨gb326, 1, none⟩) (qg (p := ⟨gb326, 0, none⟩) (qq HO320.out BK326.out (by decide)) (fun _ hk => hk.2) (.slice Ao37 t318.length co37)) (fun _ hk => hk.2) (.slice Ao42 t321.length co42)) (fun _ hk => hk.2) (.int .i64 t324)) (fun _ h_ => h_.1)))); (case side2 => exact (Kd.R_reads' HO320.out).2.1); (case side3 => refine (Kd.R_reads' (e := 56) (base := w.heap.size) (ok := fun k_ => ((((((some k_ ≠ (.slice Ao37 t318.length co37 : Value).ownBlock ∧ some k_ ≠ (.slice Ao19 t294.length co19 : Value).ownBlock) ∧ some k_ ≠ (.slice Ao20 t297.length co20 : Value).ownBlock) ∧ some k_ ≠ (.slice Ao23 t301.length co23 : Value).ownBlock) ∧ some k_ ≠ (.slice Ao26 t304.length co26 : Value).ownBlock) ∧ some k_ ≠ (.slice Ao30 t310.length co30 : Value).ownBlock) ∧ some k_ ≠ (.slice Ao34 t313.length co34 : Value).ownBlock)) (n := t321.length) (c := co42) ?_).2.2; exact (by (with_reducible repeat (first | apply qa | apply qb | apply qc)); exact (qi (qg (p := ⟨gb326, 2, none⟩) (qg (p := ⟨gb326, 1, none⟩) (qg (p := ⟨gb326, 0, none⟩) (qq HO323.out BK326.out (by decide)) (fun _ hk => hk.2) (.slice Ao37 t318.length co37)) (fun _ hk => hk.2) (.slice Ao42 t321.length co42)) (fun _ hk => hk.2) (.int .i64 t324)) (fun _ h_ => h_.1)))); (case side4 => exact (Kd.R_reads' HO323.out).2.1); (case side5 => refine (Kd.R_reads' (e := 56) (base := w.heap.size) (ok := fun k_ => ((((((some k_ ≠ (.slice Ao26 t304.length co26 : Value).ownBlock ∧ some k_ ≠ (.slice Ao19 t294.length co19 : Value).ownBlock) ∧ some k_ ≠ (.slice Ao20 t297.length co20 : Value).ownBlock) ∧ some k_ ≠ (.slice Ao30 t310.length co30 : Value).ownBlock) ∧ some k_ ≠ (.slice Ao34 t313.length co34 : Value).ownBlock) ∧ some k_ ≠ (.slice Ao37 t318.length co37 : Value).ownBlock) ∧ some k_ ≠ (.slice Ao42 t321.length co42 : Value).ownBlock)) (n := t301.length) (c := co23) ?_).2.2; exact (by (with_reducible repeat (first | apply qa | apply qb | apply qc)); exact (qi (qg (p := ⟨gb326, 2, none⟩) (qg (p := ⟨gb326, 1, none⟩) (qg (p := ⟨gb326, 0, none⟩) (qq HO303.out BK326.out (by decide)) (fun _ hk => hk.2) (.slice Ao37 t318.length co37)) (fun _ hk => hk.2) (.slice Ao42 t321.length co42)) (fun _ hk => hk.2) (.int .i64 t324)) (fun _ h_ => h_.1)))); (case side6 => exact (Kd.R_reads' HO303.out).2.1); (case side7 => refine (Kd.R_reads' (e := 56) (base := w.heap.size) (ok := fun k_ => ((((((some k_ ≠ (.slice Ao23 t301.length co23 : Value).ownBlock ∧ some k_ ≠ (.slice Ao19 t294.length co19 : Value).ownBlock) ∧ some k_ ≠ (.slice Ao20 t297.length co20 : Value).ownBlock) ∧ some k_ ≠ (.slice Ao30 t310.length co30 : Value).ownBlock) ∧ some k_ ≠ (.slice Ao34 t313.length co34 : Value).ownBlock) ∧ some k_ ≠ (.slice Ao37 t318.length co37 : Value).ownBlock) ∧ some k_ ≠ (.slice Ao42 t321.length co42 : Value).ownBlock)) (n := t304.length) (c := co26) ?_).2.2; exact (by (with_reducible repeat (first | apply qa | apply qb | apply qc)); exact (qi (qg (p := ⟨gb326, 2, none⟩) (qg (p := ⟨gb326, 1, none⟩) (qg (p := ⟨gb326, 0, none⟩) (qq HO306.out BK326.out (by decide)) (fun _ hk => hk.2) (.slice Ao37 t318.length co37)) (fun _ hk => hk.2) (.slice Ao42 t321.length co42)) (fun _ hk => hk.2) (.int .i64 t324)) (fun _ h_ => h_.1)))); (case side8 => exact (Kd.R_reads' HO306.out).2.1); rintro e w60 ⟨rfl, hb⟩; refine ⟨_, rfl, ?_⟩; have n0_ := Aside0.mk (qj (by (with_reducible repeat (first | apply qa | apply qb | apply qc)); exact (qi (qg (p := ⟨gb326, 2, none⟩) (qg (p := ⟨gb326, 1, none⟩) (qg (p := ⟨gb326, 0, none⟩) (qq HO296.out BK326.out (by decide)) (fun _ hk => hk.2) (.slice Ao37 t318.length co37)) (fun _ hk => hk.2) (.slice Ao42 t321.length co42)) (fun _ hk => hk.2) (.int .i64 t324)) (fun _ h_ => h_.1))) hb); have n1_ := Aside0.mk (qj (by (with_reducible repeat (first | apply qa | apply qb | apply qc)); exact (qi (qg (p := ⟨gb326, 2, none⟩) (qg (p := ⟨gb326, 1, none⟩) (qg (p := ⟨gb326, 0, none⟩) (qq HO299.out BK326.out (by decide)) (fun _ hk => hk.2) (.slice Ao37 t318.length co37)) (fun _ hk => hk.2) (.slice Ao42 t321.length co42)) (fun _ hk => hk.2) (.int .i64 t324)) (fun _ h_ => h_.1))) hb); have n2_ := Aside0.mk (qj (by (with_reducible repeat (first | apply qa | apply qb | apply qc)); exact (qi (qg (p := ⟨gb326, 2, none⟩) (qg (p := ⟨gb326, 1, none⟩) (qg (p := ⟨gb326, 0, none⟩) (qq HO303.out BK326.out (by decide)) (fun _ hk => hk.2) (.slice Ao37 t318.length co37)) (fun _ hk => hk.2) (.slice Ao42 t321.length co42)) (fun _ hk => hk.2) (.int .i64 t324)) (fun _ h_ => h_.1))) hb); have n3_ := Aside0.mk (qj (by (with_reducible repeat (first | apply qa | apply qb | apply qc)); exact (qi (qg (p := ⟨gb326, 2, none⟩) (qg (p := ⟨gb326, 1, none⟩) (qg (p := ⟨gb326, 0, none⟩) (qq HO306.out BK326.out (by decide)) (fun _ hk => hk.2) (.slice Ao37 t318.length co37)) (fun _ hk => hk.2) (.slice Ao42 t321.length co42)) (fun _ hk => hk.2) (.int .i64 t324)) (fun _ h_ => h_.1))) hb); have n4_ := Aside0.mk (qj (by (with_reducible repeat (first | apply qa | apply qb | apply qc)); exact (qi (qg (p := ⟨gb326, 2, none⟩) (qg (p := ⟨gb326, 1, none⟩) (qg (p := ⟨gb326, 0, none⟩) (qq HO312.out BK326.out (by decide)) (fun _ hk => hk.2) (.slice Ao37 t318.length co37)) (fun _ hk => hk.2) (.slice Ao42 t321.length co42)) (fun _ hk => hk.2) (.int .i64 t324)) (fun _ h_ => h_.1))) hb); have n5_ := Aside0.mk (qj (by (with_reducible repeat (first | apply qa | apply qb | apply qc)); exact (qi (qg (p := ⟨gb326, 2, none⟩) (qg (p := ⟨gb326, 1, none⟩) (qg (p := ⟨gb326, 0, none⟩) (qq HO315.out BK326.out (by decide)) (fun _ hk => hk.2) (.slice Ao37 t318.length co37)) (fun _ hk => hk.2) (.slice Ao42 t321.length co42)) (fun _ hk => hk.2) (.int .i64 t324)) (fun _ h_ => h_.1))) hb); have n6_ := Aside0.mk (qj (by (with_reducible repeat (first | apply qa | apply qb | apply qc)); exact (qi (qg (p := ⟨gb326, 2, none⟩) (qg (p := ⟨gb326, 1, none⟩) (qg (p := ⟨gb326, 0, none⟩) (qq HO320.out BK326.out (by decide)) (fun _ hk => hk.2) (.slice Ao37 t318.length co37)) (fun _ hk => hk.2) (.slice Ao42 t321.length co42)) (fun _ hk => hk.2) (.int .i64 t324)) (fun _ h_ => h_.1))) hb); have n7_ := Aside0.mk (qj (by (with_reducible repeat (first | apply qa | apply qb | apply qc)); exact (qi (qg (p := ⟨gb326, 2, none⟩) (qg (p := ⟨gb326, 1, none⟩) (qg (p := ⟨gb326, 0, none⟩) (qq HO323.out BK326.out (by decide)) (fun _ hk => hk.2) (.slice Ao37 t318.length co37)) (fun _ hk => hk.2) (.slice Ao42 t321.length co42)) (fun _ hk => hk.2) (.int .i64 t324)) (fun _ h_ => h_.1))) hb); have n8_ := Aside0.mk (qp (g := gb292) (o := .cells #[.slice A0_0 l0_0.length c0_0, .slice A0_1 l0_1.length c0_1, .int .i64 a0_2] 24 (0, 0)) (by (with_reducible repeat (first | refine qe ?_ _ | refine qh ?_ | refine qf ?_ _)); refine qw ?_ NB292_326.out _; (with_reducible repeat (first | refine qe ?_ _ | refine qh ?_ | refine qf ?_ _)); refine qw ?_ NB292_326.out _; (with_reducible repeat (first | refine qe ?_ _ | refine qh ?_ | refine qf ?_ _)); refine qw ?_ NB292_326.out _; (with_reducible repeat (first | refine qe ?_ _ | refine qh ?_ | refine qf ?_ _)); exact BK292.out) hb); have n9_ := Aside0.mk (qp (g := gb309) (o := .cells #[.slice Ao23 t301.length co23, .slice Ao26 t304.length co26, .int .i64 t307] 29 (0, 0)) (by (with_reducible repeat (first | refine qe ?_ _ | refine qh ?_ | refine qf ?_ _)); refine qw ?_ NB309_326.out _; (with_reducible repeat (first | refine qe ?_ _ | refine qh ?_ | refine qf ?_ _)); refine qw ?_ NB309_326.out _; (with_reducible repeat (first | refine qe ?_ _ | refine qh ?_ | refine qf ?_ _)); refine qw ?_ NB309_326.out _; (with_reducible repeat (first | refine qe ?_ _ | refine qh ?_ | refine qf ?_ _)); exact BK309.out) hb); have n10_ := Aside0.mk (qp (g := gb317) (o := .cells #[.slice Ao30 t310.length co30, .slice Ao34 t313.length co34, .int .i64 t316] 29 (0, 0)) (by (with_reducible repeat (first | refine qe ?_ _ | refine qh ?_ | refine qf ?_ _)); refine qw ?_ NB317_326.out _; (with_reducible repeat (first | refine qe ?_ _ | refine qh ?_ | refine qf ?_ _)); refine qw ?_ NB317_326.out _; (with_reducible repeat (first | refine qe ?_ _ | refine qh ?_ | refine qf ?_ _)); refine qw ?_ NB317_326.out _; (with_reducible repeat (first | refine qe ?_ _ | refine qh ?_ | refine qf ?_ _)); exact BK317.out) hb); have n11_ := Aside0.mk (qp (g := gb326) (o := .cells #[.slice Ao37 t318.length co37, .slice Ao42 t321.length co42, .int .i64 t324] 29 (0, 0)) (by (with_reducible repeat (first | refine qe ?_ _ | refine qh ?_ | refine qf ?_ _)); refine blk_put (cs := #[.slice Ao37 t318.length co37, .slice Ao42 t321.length co42, .int .i64 0]) ?_ 2 _ rfl; (with_reducible repeat (first | refine qe ?_ _ | refine qh ?_ | refine qf ?_ _)); refine blk_put (cs := #[.slice Ao37 t318.length co37, .slice none 0 0, .int .i64 0]) ?_ 1 _ rfl; (with_reducible repeat (first | refine qe ?_ _ | refine qh ?_ | refine qf ?_ _)); refine blk_put (cs := #[.slice none 0 0, .slice none 0 0, .int .i64 0]) ?_ 0 _ rfl; (with_reducible repeat (first | refine qe ?_ _ | refine qh ?_ | refine qf ?_ _)); exact BK326.out) hb); have n12_ := Aside0.mk (qx (by repeat (first | (with_reducible first | exact HB.out | apply qo | apply qk | apply qm | refine qd ?_ GE292.out | refine qd ?_ GE309.out | refine qd ?_ GE317.out | refine qd ?_ GE326.out) | exact HB.out)) hb); clear HO296; clear HO299; clear HO303; clear HO306; clear HO312; clear HO315; clear HO320; clear HO323; clear BK292; clear BK309; clear BK317; clear BK326; clear HB; have HO296 := n0_; have HO299 := n1_; have HO303 := n2_; have HO306 := n3_; have HO312 := n4_; have HO315 := n5_; have HO320 := n6_; have HO323 := n7_; have BK292 := n8_; have BK309 := n9_; have BK317 := n10_; have BK326 := n11_; have HB := n12_; clear n0_ n1_ n2_ n3_ n4_ n5_ n6_ n7_ n8_ n9_ n10_ n11_ n12_; (try clear hb); (try clear hb2); (try clear hk); (try clear hi)))
    go_meet
    case rel => exact ⟨_, (true), (by first | rfl | (simp; done) | (simp [*]; done)), H', ⟨by first | omega | exact Nat.le_refl _⟩, ⟨by (with_reducible repeat (first | apply qa | apply qb | apply qc)); exact qi HO303.out (fun _ hk => ⟨hk.1.1.1.1.1.1, ⟨hk.1.1.1.2, ⟨hk.1.1.2, ⟨hk.1.2, hk.2⟩⟩⟩⟩)⟩, ⟨by (with_reducible repeat (first | apply qa | apply qb | apply qc)); exact qi HO306.out (fun _ hk => ⟨hk.1.1.1.1.1.1, ⟨hk.1.1.1.2, ⟨hk.1.1.2, ⟨hk.1.2, hk.2⟩⟩⟩⟩)⟩, ⟨by (with_reducible repeat (first | apply qa | apply qb | apply qc)); exact qi HO312.out (fun _ hk => ⟨hk.1.1.1.2, ⟨hk.1.1.2, ⟨hk.1.1.1.1.1.1, ⟨hk.1.2, hk.2⟩⟩⟩⟩)⟩, ⟨by (with_reducible repeat (first | apply qa | apply qb | apply qc)); exact qi HO315.out (fun _ hk => ⟨hk.1.1.1.2, ⟨hk.1.1.2, ⟨hk.1.1.1.1.1.1, ⟨hk.1.2, hk.2⟩⟩⟩⟩)⟩, ⟨by (with_reducible repeat (first | apply qa | apply qb | apply qc)); exact qi HO320.out (fun _ hk => ⟨hk.1.1.1.2, ⟨hk.1.1.2, ⟨hk.1.2, ⟨hk.2, hk.1.1.1.1.1.1⟩⟩⟩⟩)⟩, ⟨by (with_reducible repeat (first | apply qa | apply qb | apply qc)); exact qi HO323.out (fun _ hk => ⟨hk.1.1.1.2, ⟨hk.1.1.2, ⟨hk.1.2, ⟨hk.2, hk.1.1.1.1.1.1⟩⟩⟩⟩)⟩, ⟨by (with_reducible repeat (first | refine qe ?_ _ | refine qh ?_ | refine qf ?_ _)); exact BK292.out⟩, ⟨by (with_reducible repeat (first | refine qe ?_ _ | refine qh ?_ | refine qf ?_ _)); exact BK309.out⟩, ⟨by (with_reducible repeat (first | refine qe ?_ _ | refine qh ?_ | refine qf ?_ _)); exact BK317.out⟩, ⟨by (with_reducible repeat (first | refine qe ?_ _ | refine qh ?_ | refine qf ?_ _)); exact BK326.out⟩, ⟨by repeat (first | (with_reducible first | exact HB.out | apply qo | apply qk | apply qm | refine qd ?_ GE292.out | refine qd ?_ GE309.out | refine qd ?_ GE317.out | refine qd ?_ GE326.out) | exact HB.out)⟩⟩
  case rest =>
   clear HC13
   try clear c1
   try clear c2
   try clear p2
   try clear c3
   try clear c4
   try clear c5
   try clear c5b0
   try clear c7
   try clear c13
   try clear c15
   try clear c17
   try clear c24
   try clear c31
   try clear c32
   try clear c34
   try clear c35
   try clear c38
   try clear c39
   try clear c40
   try clear c44
   try clear c45
   try clear c46
   try clear c47
   try clear c49
   try clear c50
   try clear c53
   try clear c54
   try clear c55
   try clear c57
   try clear c58
   try clear hcz15_0
   try clear hcz15_1
   try clear hcz15_2
   try clear hcz17_0
   try clear hcz17_1
   try clear hcz17_2
   try clear hcz25_0
   try clear hcz25_1
   try clear hcz25_2
   try clear hcz27_0
   try clear hcz27_1
   try clear hcz27_2
   try clear hcz33_0
   try clear hcz33_1
   try clear hcz33_2
   try clear hcz41_0
   try clear hcz41_1
   try clear hcz41_2
   try clear hcz48_0
   try clear hcz48_1
   try clear hcz48_2
   try clear hcz51_0
   try clear hcz51_1
   try clear hcz51_2
   try clear hcz56_0
   try clear hcz56_1
   try clear hcz56_2
   try clear hcz59_0
   try clear hcz59_1
   try clear hcz59_2
   try clear hcz7_0
   try clear hcz7_1
   try clear hcz7_2
   try clear hfz15_0
   try clear hfz15_1
   try clear hfz15_2
   try clear hfz17_0
   try clear hfz17_1
   try clear hfz17_2
   try clear hfz25_0
   try clear hfz25_1
   try clear hfz25_2
   try clear hfz27_0
   try clear hfz27_1
   try clear hfz27_2
   try clear hfz33_0
   try clear hfz33_1
   try clear hfz33_2
   try clear hfz41_0
   try clear hfz41_1
   try clear hfz41_2
   try clear hfz48_0
   try clear hfz48_1
   try clear hfz48_2
   try clear hfz51_0
   try clear hfz51_1
   try clear hfz51_2
   try clear hfz56_0
   try clear hfz56_1
   try clear hfz56_2
   try clear hfz59_0
   try clear hfz59_1
   try clear hfz59_2
   try clear hfz7_0
   try clear hfz7_1
   try clear hfz7_2
   obtain ⟨kq, x48_12, rfl, HA, HJ12, HO_310000, HO_310001, HO_318000, HO_318001, HO_327000, HO_327001, BK292, BK309, BK317, BK326, HB⟩ := hcut
   cases kq with
   | zero => exact absurd HA.out (by simp [laws_FnExactRaiseJoin.j0])
   | succ kj12 =>
    have H := HA.out
    clear HA
    simp only [laws_FnExactRaiseJoin.j0] at H
    by_cases c61 : x48_12 = true
    ·
     subst c61
     have H1 : (some false) = some r := by rw [if_pos rfl] at H; exact H
     clear H
     have H := H1
     clear H1
     obtain rfl := Option.some.inj H
     go_wp2
     go_ret
     exact ⟨by first | rfl | (simp [errW_none, errW_some] <;> rfl) | (simp [*, errW_none, errW_some] <;> rfl), by repeat (first | (with_reducible first | exact HB.out | apply qo | apply qk | apply qm | refine qd ?_ GE292.out | refine qd ?_ GE309.out | refine qd ?_ GE317.out | refine qd ?_ GE326.out) | exact HB.out)⟩
    ·
     replace c61 := Bool.eq_false_iff.mpr c61
     subst c61
     have H1 : ((laws_toJoin.f kj12 l0_0 l0_1 a0_2).bind fun bt328 => ((laws_eqJoin.f kj12 t310 t313 t316 bt328.1 bt328.2.1 bt328.2.2).bind fun t335 => (if t335 = true then ((laws_markJoin.f kj12 t310 t313 t316 1).bind fun bt336 => (if bt336.1 < 0 then (laws_FnExactRaiseJoin.j1 kj12 a1 a2 t308 true l0_0 l0_1 a0_2 t301 t304 t307 t318 t321 t324) else ((laws_eqJoin.f kj12 t318 t321 t324 t301 t304 t307).bind fun t339 => (if t339 = true then (laws_FnExactRaiseJoin.j1 kj12 a1 a2 t308 (t325 != t308) l0_0 l0_1 a0_2 t301 t304 t307 t318 t321 t324) else (laws_FnExactRaiseJoin.j1 kj12 a1 a2 t308 true l0_0 l0_1 a0_2 t301 t304 t307 t318 t321 t324))))) else (some false)))) = some r := by rw [if_neg (show ¬ (false = true) by decide)] at H; exact H
     clear H
     have H := H1
     clear H1
     replace H := Option.bind_eq_some_iff.mp H
     obtain ⟨⟨t328, t331, t334⟩, A620, H⟩ := H
     replace H : ((laws_eqJoin.f kj12 t310 t313 t316 t328 t331 t334).bind fun t335 => (if t335 = true then ((laws_markJoin.f kj12 t310 t313 t316 1).bind fun bt336 => (if bt336.1 < 0 then (laws_FnExactRaiseJoin.j1 kj12 a1 a2 t308 true l0_0 l0_1 a0_2 t301 t304 t307 t318 t321 t324) else ((laws_eqJoin.f kj12 t318 t321 t324 t301 t304 t307).bind fun t339 => (if t339 = true then (laws_FnExactRaiseJoin.j1 kj12 a1 a2 t308 (t325 != t308) l0_0 l0_1 a0_2 t301 t304 t307 t318 t321 t324) else (laws_FnExactRaiseJoin.j1 kj12 a1 a2 t308 true l0_0 l0_1 a0_2 t301 t304 t307 t318 t321 t324))))) else (some false))) = some r := H
     have A62 := Aside0.mk A620
     clear A620
     replace H := Option.bind_eq_some_iff.mp H
     obtain ⟨t335, A630, H⟩ := H
     replace H : (if t335 = true then ((laws_markJoin.f kj12 t310 t313 t316 1).bind fun bt336 => (if bt336.1 < 0 then (laws_FnExactRaiseJoin.j1 kj12 a1 a2 t308 true l0_0 l0_1 a0_2 t301 t304 t307 t318 t321 t324) else ((laws_eqJoin.f kj12 t318 t321 t324 t301 t304 t307).bind fun t339 => (if t339 = true then (laws_FnExactRaiseJoin.j1 kj12 a1 a2 t308 (t325 != t308) l0_0 l0_1 a0_2 t301 t304 t307 t318 t321 t324) else (laws_FnExactRaiseJoin.j1 kj12 a1 a2 t308 true l0_0 l0_1 a0_2 t301 t304 t307 t318 t321 t324))))) else (some false)) = some r := H
     have A63 := Aside0.mk A630
     clear A630
     by_cases c64 : t335 = true
     ·
      subst c64
      have H1 : ((laws_markJoin.f kj12 t310 t313 t316 1).bind fun bt336 => (if bt336.1 < 0 then (laws_FnExactRaiseJoin.j1 kj12 a1 a2 t308 true l0_0 l0_1 a0_2 t301 t304 t307 t318 t321 t324) else ((laws_eqJoin.f kj12 t318 t321 t324 t301 t304 t307).bind fun t339 => (if t339 = true then (laws_FnExactRaiseJoin.j1 kj12 a1 a2 t308 (t325 != t308) l0_0 l0_1 a0_2 t301 t304 t307 t318 t321 t324) else (laws_FnExactRaiseJoin.j1 kj12 a1 a2 t308 true l0_0 l0_1 a0_2 t301 t304 t307 t318 t321 t324))))) = some r := by rw [if_pos rfl] at H; exact H
      clear H
      have H := H1
      clear H1
      replace H := Option.bind_eq_some_iff.mp H
      obtain ⟨⟨t336, t337, t338⟩, A650, H⟩ := H
      replace H : (if t336 < 0 then (laws_FnExactRaiseJoin.j1 kj12 a1 a2 t308 true l0_0 l0_1 a0_2 t301 t304 t307 t318 t321 t324) else ((laws_eqJoin.f kj12 t318 t321 t324 t301 t304 t307).bind fun t339 => (if t339 = true then (laws_FnExactRaiseJoin.j1 kj12 a1 a2 t308 (t325 != t308) l0_0 l0_1 a0_2 t301 t304 t307 t318 t321 t324) else (laws_FnExactRaiseJoin.j1 kj12 a1 a2 t308 true l0_0 l0_1 a0_2 t301 t304 t307 t318 t321 t324)))) = some r := H
      have A65 := Aside0.mk A650
      clear A650
      have HC66 := Aside0.mk H
      clear H
      try go_wp2
      have n0_ := Aside0.mk (qc HO_310000.out)
      have n1_ := Aside0.mk (qc HO_310001.out)
      have n2_ := Aside0.mk (qc HO_318000.out)
      have n3_ := Aside0.mk (qc HO_318001.out)
      have n4_ := Aside0.mk (qc HO_327000.out)
      have n5_ := Aside0.mk (qc HO_327001.out)
      have n6_ := Aside0.mk (qh BK292.out)
      have n7_ := Aside0.mk (qh BK309.out)
      have n8_ := Aside0.mk (qh BK317.out)
      have n9_ := Aside0.mk (qh BK326.out)
      have n10_ := Aside0.mk (qm HB.out)
      clear HO_310000
      clear HO_310001
      clear HO_318000
      clear HO_318001
      clear HO_327000
      clear HO_327001
      clear BK292
      clear BK309
      clear BK317
      clear BK326
      clear HB
      have HO_310000 := n0_
      have HO_310001 := n1_
      have HO_318000 := n2_
      have HO_318001 := n3_
      have HO_327000 := n4_
      have HO_327001 := n5_
      have BK292 := n6_
      have BK309 := n7_
      have BK317 := n8_
      have BK326 := n9_
      have HB := n10_
      clear n0_ n1_ n2_ n3_ n4_ n5_ n6_ n7_ n8_ n9_ n10_
      refine start_ (n := 5) (S := fun w' => w'.cell? ⟨gb317, 0, none⟩ = some (.slice Ao30 t310.length co30) ∧ w'.cell? ⟨gb317, 1, none⟩ = some (.slice Ao34 t313.length co34) ∧ w'.cell? ⟨gb317, 2, none⟩ = some (.int .i64 t316) ∧ w'.cell? ⟨gb292, 0, none⟩ = some (.slice A0_0 l0_0.length c0_0) ∧ w'.cell? ⟨gb292, 1, none⟩ = some (.slice A0_1 l0_1.length c0_1) ∧ w'.cell? ⟨gb292, 2, none⟩ = some (.int .i64 a0_2)) (ds := []) #[false, false, false, false, false] (by kernel_rfl) rfl rfl ⟨(ql BK317.out 0).trans rfl, (ql BK317.out 1).trans rfl, (ql BK317.out 2).trans rfl, (ql BK292.out 0).trans rfl, (ql BK292.out 1).trans rfl, (ql BK292.out 2).trans rfl⟩ (fun hHeld => ?_)
      generalize wc.drew = w67 at HO_310000 HO_310001 HO_318000 HO_318001 HO_327000 HO_327001 BK292 BK309 BK317 BK326 HB hHeld ⊢
      refine take_ (i := 0) (N := some 49) (v := ?_) (a' := ?_) #[true, false, false, false, false] rfl rfl (by kernel_rfl) (fun _ _ _ h => h) (Or.inl ⟨by rfl, ?_⟩) hHeld ?_ ?_
      rotate_left
      ·
       rintro w' ⟨s0, s1, s2, s3, s4, s5⟩
       go_simp
       with_reducible rfl
      rotate_left
      ·
       simp only [Act.put, List.setIfInBounds_toArray, List.set_cons_zero, List.set_cons_succ, i64_w, i32_w]
       rfl
      refine take_ (i := 1) (N := some 50) (v := ?_) (a' := ?_) #[true, true, false, false, false] rfl rfl (by kernel_rfl) (fun _ _ _ h => h) (Or.inl ⟨by rfl, ?_⟩) hHeld ?_ ?_
      rotate_left
      ·
       rintro w' ⟨s0, s1, s2, s3, s4, s5⟩
       go_simp
       with_reducible rfl
      rotate_left
      ·
       simp only [Act.put, List.setIfInBounds_toArray, List.set_cons_zero, List.set_cons_succ, i64_w, i32_w]
       rfl
      refine one_ (i := 2) (N := some 51) #[true, true, true, false, false] rfl rfl (by kernel_rfl) (by decide) (fun K hK => ?_)
      refine goes_ Try.func15 (by kernel_rfl) rfl #[.agg #[.slice A0_0 l0_0.length c0_0, .slice A0_1 l0_1.length c0_1, .int .i64 a0_2]] (by rfl) rfl rfl (by (try simp only [List.map_toArray, List.map_cons, List.map_nil]); first | done | rfl | (simp only [List.length_drop, List.length_take]; rfl)) ?_
      with_reducible refine (laws_toJoin.calls kj12 _ _ l0_0 _ _ l0_1 a0_2 t328 t331 t334 _ ?side1 ?side2 ?side3 ?side4 A62.out).mono ?_
      (case side1 => repeat (first | exact (Kd.C_below HR0_0.out HB.out) | (with_reducible refine qt ?_ _) | (with_reducible refine qu ?_ _) | (with_reducible refine qv ?_)))
      (case side2 => exact HC0_0.out)
      (case side3 => repeat (first | exact (Kd.C_below HR0_1.out HB.out) | (with_reducible refine qt ?_ _) | (with_reducible refine qu ?_ _) | (with_reducible refine qv ?_)))
      (case side4 => exact HC0_1.out)
      rintro e w68 ⟨v329, v332, rfl, ho0, ho1, hb⟩
      refine ⟨_, rfl, ?_⟩
      have n0_ := Aside0.mk (qi (Kd.R_told (Kd.R_told (Kd.R_old (by (with_reducible repeat (first | apply qa | apply qb | apply qc)); exact HO_310000.out) hb) (qr ho0)) (qr ho1)) (fun _ h_ => h_.1))
      have n1_ := Aside0.mk (qi (Kd.R_told (Kd.R_told (Kd.R_old (by (with_reducible repeat (first | apply qa | apply qb | apply qc)); exact HO_310001.out) hb) (qr ho0)) (qr ho1)) (fun _ h_ => h_.1))
      have n2_ := Aside0.mk (qi (Kd.R_told (Kd.R_told (Kd.R_old (by (with_reducible repeat (first | apply qa | apply qb | apply qc)); exact HO_318000.out) hb) (qr ho0)) (qr ho1)) (fun _ h_ => h_.1))
      have n3_ := Aside0.mk (qi (Kd.R_told (Kd.R_told (Kd.R_old (by (with_reducible repeat (first | apply qa | apply qb | apply qc)); exact HO_318001.out) hb) (qr ho0)) (qr ho1)) (fun _ h_ => h_.1))
      have n4_ := Aside0.mk (qi (Kd.R_told (Kd.R_told (Kd.R_old (by (with_reducible repeat (first | apply qa | apply qb | apply qc)); exact HO_327000.out) hb) (qr ho0)) (qr ho1)) (fun _ h_ => h_.1))
      have n5_ := Aside0.mk (qi (Kd.R_told (Kd.R_told (Kd.R_old (by (with_reducible repeat (first | apply qa | apply qb | apply qc)); exact HO_327001.out) hb) (qr ho0)) (qr ho1)) (fun _ h_ => h_.1))
      have n6_ := Aside0.mk (Kd.R_lower (Kd.R_new' (Kd.R_new' (Kd.R_new' (Kd.R_new' (Kd.R_new' (Kd.R_new' ho0 (qs (by (with_reducible repeat (first | apply qa | apply qb | apply qc)); exact HO_310000.out))) (qs (by (with_reducible repeat (first | apply qa | apply qb | apply qc)); exact HO_310001.out))) (qs (by (with_reducible repeat (first | apply qa | apply qb | apply qc)); exact HO_318000.out))) (qs (by (with_reducible repeat (first | apply qa | apply qb | apply qc)); exact HO_318001.out))) (qs (by (with_reducible repeat (first | apply qa | apply qb | apply qc)); exact HO_327000.out))) (qs (by (with_reducible repeat (first | apply qa | apply qb | apply qc)); exact HO_327001.out))) (qy (by repeat (first | (with_reducible first | exact HB.out | apply qo | apply qk | apply qm | refine qd ?_ GE292.out | refine qd ?_ GE309.out | refine qd ?_ GE317.out | refine qd ?_ GE326.out) | exact HB.out))))
      have n7_ := Aside0.mk (Kd.R_lower (Kd.R_new' (Kd.R_new' (Kd.R_new' (Kd.R_new' (Kd.R_new' (Kd.R_new' ho1 (qs (by (with_reducible repeat (first | apply qa | apply qb | apply qc)); exact HO_310000.out))) (qs (by (with_reducible repeat (first | apply qa | apply qb | apply qc)); exact HO_310001.out))) (qs (by (with_reducible repeat (first | apply qa | apply qb | apply qc)); exact HO_318000.out))) (qs (by (with_reducible repeat (first | apply qa | apply qb | apply qc)); exact HO_318001.out))) (qs (by (with_reducible repeat (first | apply qa | apply qb | apply qc)); exact HO_327000.out))) (qs (by (with_reducible repeat (first | apply qa | apply qb | apply qc)); exact HO_327001.out))) (qy (by repeat (first | (with_reducible first | exact HB.out | apply qo | apply qk | apply qm | refine qd ?_ GE292.out | refine qd ?_ GE309.out | refine qd ?_ GE317.out | refine qd ?_ GE326.out) | exact HB.out))))
      have n8_ := Aside0.mk (qp (g := gb292) (o := .cells #[.slice A0_0 l0_0.length c0_0, .slice A0_1 l0_1.length c0_1, .int .i64 a0_2] 24 (0, 0)) (by (with_reducible repeat (first | refine qe ?_ _ | refine qh ?_ | refine qf ?_ _)); exact BK292.out) hb)
      have n9_ := Aside0.mk (qp (g := gb309) (o := .cells #[.slice Ao23 t301.length co23, .slice Ao26 t304.length co26, .int .i64 t307] 29 (0, 0)) (by (with_reducible repeat (first | refine qe ?_ _ | refine qh ?_ | refine qf ?_ _)); exact BK309.out) hb)
      have n10_ := Aside0.mk (qp (g := gb317) (o := .cells #[.slice Ao30 t310.length co30, .slice Ao34 t313.length co34, .int .i64 t316] 29 (0, 0)) (by (with_reducible repeat (first | refine qe ?_ _ | refine qh ?_ | refine qf ?_ _)); exact BK317.out) hb)
      have n11_ := Aside0.mk (qp (g := gb326) (o := .cells #[.slice Ao37 t318.length co37, .slice Ao42 t321.length co42, .int .i64 t324] 29 (0, 0)) (by (with_reducible repeat (first | refine qe ?_ _ | refine qh ?_ | refine qf ?_ _)); exact BK326.out) hb)
      have n12_ := Aside0.mk (qx (by repeat (first | (with_reducible first | exact HB.out | apply qo | apply qk | apply qm | refine qd ?_ GE292.out | refine qd ?_ GE309.out | refine qd ?_ GE317.out | refine qd ?_ GE326.out) | exact HB.out)) hb)
      clear HO_310000
      clear HO_310001
      clear HO_318000
      clear HO_318001
      clear HO_327000
      clear HO_327001
      clear BK292
      clear BK309
      clear BK317
      clear BK326
      clear HB
      have HO_310000 := n0_
      have HO_310001 := n1_
      have HO_318000 := n2_
      have HO_318001 := n3_
      have HO_327000 := n4_
      have HO_327001 := n5_
      have HO330 := n6_
      have HO333 := n7_
      have BK292 := n8_
      have BK309 := n9_
      have BK317 := n10_
      have BK326 := n11_
      have HB := n12_
      clear n0_ n1_ n2_ n3_ n4_ n5_ n6_ n7_ n8_ n9_ n10_ n11_ n12_
      (try clear hb)
      (try clear hb2)
      (try clear hk)
      (try clear hi)
      (try clear ho0)
      (try clear ho1)
      obtain ⟨Ao69, co69, eo69⟩ := Kd.R_slice HO330.out
      (first | subst eo69 | (injection eo69 with f1_ f2_ f3_; have f4_ := f1_.symm; have f5_ := f3_.symm; clear f1_ f2_ f3_; subst f4_; subst f5_))
      obtain ⟨Ao70, co70, eo70⟩ := Kd.R_slice HO333.out
      (first | subst eo70 | (injection eo70 with f1_ f2_ f3_; have f4_ := f1_.symm; have f5_ := f3_.symm; clear f1_ f2_ f3_; subst f4_; subst f5_))
      refine hK.out _ _ ⟨(ql BK317.out 0).trans rfl, (ql BK317.out 1).trans rfl, (ql BK317.out 2).trans rfl, (ql BK292.out 0).trans rfl, (ql BK292.out 1).trans rfl, (ql BK292.out 2).trans rfl⟩ (fun hHeld => ?_)
      clear hK K
      refine norm_ (a' := ?_) ?_ ?_
      rotate_left
      ·
       show Act.put _ (some 51) _ = _
       simp only [Act.put, List.setIfInBounds_toArray, List.set_cons_zero, List.set_cons_succ, i64_w, i32_w]
       rfl
      refine one_ (i := 3) (N := some 52) #[true, true, true, true, false] rfl rfl (by kernel_rfl) (by decide) (fun K hK => ?_)
      refine goes_ Try.func17 (by kernel_rfl) rfl #[.agg #[.slice Ao30 t310.length co30, .slice Ao34 t313.length co34, .int .i64 t316], .agg #[.slice Ao69 t328.length co69, .slice Ao70 t331.length co70, .int .i64 t334]] (by rfl) rfl rfl (by (try simp only [List.map_toArray, List.map_cons, List.map_nil]); first | done | rfl | (simp only [List.length_drop, List.length_take]; rfl)) ?_
      with_reducible refine (laws_eqJoin.calls kj12 _ _ t310 _ _ t313 t316 _ _ t328 _ _ t331 t334 true _ ?side1 ?side2 ?side3 ?side4 ?side5 ?side6 ?side7 ?side8 A63.out).mono ?_
      (case side1 => repeat (first | exact (Kd.R_reads' HO_318000.out).2.2 | (with_reducible refine qt ?_ _) | (with_reducible refine qu ?_ _) | (with_reducible refine qv ?_)))
      (case side2 => exact (Kd.R_reads' HO_318000.out).2.1)
      (case side3 => repeat (first | exact (Kd.R_reads' HO_318001.out).2.2 | (with_reducible refine qt ?_ _) | (with_reducible refine qu ?_ _) | (with_reducible refine qv ?_)))
      (case side4 => exact (Kd.R_reads' HO_318001.out).2.1)
      (case side5 => repeat (first | exact (Kd.R_reads' HO330.out).2.2 | (with_reducible refine qt ?_ _) | (with_reducible refine qu ?_ _) | (with_reducible refine qv ?_)))
      (case side6 => exact (Kd.R_reads' HO330.out).2.1)
      (case side7 => repeat (first | exact (Kd.R_reads' HO333.out).2.2 | (with_reducible refine qt ?_ _) | (with_reducible refine qu ?_ _) | (with_reducible refine qv ?_)))
      (case side8 => exact (Kd.R_reads' HO333.out).2.1)
      rintro e w71 ⟨rfl, hb⟩
      refine ⟨_, rfl, ?_⟩
      have n0_ := Aside0.mk (qj (by (with_reducible repeat (first | apply qa | apply qb | apply qc)); exact HO_310000.out) hb)
      have n1_ := Aside0.mk (qj (by (with_reducible repeat (first | apply qa | apply qb | apply qc)); exact HO_310001.out) hb)
      have n2_ := Aside0.mk (qj (by (with_reducible repeat (first | apply qa | apply qb | apply qc)); exact HO_318000.out) hb)
      have n3_ := Aside0.mk (qj (by (with_reducible repeat (first | apply qa | apply qb | apply qc)); exact HO_318001.out) hb)
      have n4_ := Aside0.mk (qj (by (with_reducible repeat (first | apply qa | apply qb | apply qc)); exact HO_327000.out) hb)
      have n5_ := Aside0.mk (qj (by (with_reducible repeat (first | apply qa | apply qb | apply qc)); exact HO_327001.out) hb)
      have n6_ := Aside0.mk (qj (by (with_reducible repeat (first | apply qa | apply qb | apply qc)); exact HO330.out) hb)
      have n7_ := Aside0.mk (qj (by (with_reducible repeat (first | apply qa | apply qb | apply qc)); exact HO333.out) hb)
      have n8_ := Aside0.mk (qp (g := gb292) (o := .cells #[.slice A0_0 l0_0.length c0_0, .slice A0_1 l0_1.length c0_1, .int .i64 a0_2] 24 (0, 0)) (by (with_reducible repeat (first | refine qe ?_ _ | refine qh ?_ | refine qf ?_ _)); exact BK292.out) hb)
      have n9_ := Aside0.mk (qp (g := gb309) (o := .cells #[.slice Ao23 t301.length co23, .slice Ao26 t304.length co26, .int .i64 t307] 29 (0, 0)) (by (with_reducible repeat (first | refine qe ?_ _ | refine qh ?_ | refine qf ?_ _)); exact BK309.out) hb)
      have n10_ := Aside0.mk (qp (g := gb317) (o := .cells #[.slice Ao30 t310.length co30, .slice Ao34 t313.length co34, .int .i64 t316] 29 (0, 0)) (by (with_reducible repeat (first | refine qe ?_ _ | refine qh ?_ | refine qf ?_ _)); exact BK317.out) hb)
      have n11_ := Aside0.mk (qp (g := gb326) (o := .cells #[.slice Ao37 t318.length co37, .slice Ao42 t321.length co42, .int .i64 t324] 29 (0, 0)) (by (with_reducible repeat (first | refine qe ?_ _ | refine qh ?_ | refine qf ?_ _)); exact BK326.out) hb)
      have n12_ := Aside0.mk (qx (by repeat (first | (with_reducible first | exact HB.out | apply qo | apply qk | apply qm | refine qd ?_ GE292.out | refine qd ?_ GE309.out | refine qd ?_ GE317.out | refine qd ?_ GE326.out) | exact HB.out)) hb)
      clear HO_310000
      clear HO_310001
      clear HO_318000
      clear HO_318001
      clear HO_327000
      clear HO_327001
      clear HO330
      clear HO333
      clear BK292
      clear BK309
      clear BK317
      clear BK326
      clear HB
      have HO_310000 := n0_
      have HO_310001 := n1_
      have HO_318000 := n2_
      have HO_318001 := n3_
      have HO_327000 := n4_
      have HO_327001 := n5_
      have HO330 := n6_
      have HO333 := n7_
      have BK292 := n8_
      have BK309 := n9_
      have BK317 := n10_
      have BK326 := n11_
      have HB := n12_
      clear n0_ n1_ n2_ n3_ n4_ n5_ n6_ n7_ n8_ n9_ n10_ n11_ n12_
      (try clear hb)
      (try clear hb2)
      (try clear hk)
      (try clear hi)
      refine hK.out _ _ ⟨(ql BK317.out 0).trans rfl, (ql BK317.out 1).trans rfl, (ql BK317.out 2).trans rfl, (ql BK292.out 0).trans rfl, (ql BK292.out 1).trans rfl, (ql BK292.out 2).trans rfl⟩ (fun hHeld => ?_)
      clear hK K
      refine norm_ (a' := ?_) ?_ ?_
      rotate_left
      ·
       show Act.put _ (some 52) _ = _
       simp only [Act.put, List.setIfInBounds_toArray, List.set_cons_zero, List.set_cons_succ, i64_w, i32_w]
       rfl
      refine pure_ (i := 4) (N := some 53) (v := ?_) (a' := ?_) #[true, true, true, true, true] rfl rfl (by kernel_rfl) (fun _ _ _ h => h) (Or.inl ⟨by rfl, ?_⟩) ?_ ?_
      rotate_left
      ·
       intro w'
       go_simp
       with_reducible rfl
      rotate_left
      ·
       simp only [Act.put, List.setIfInBounds_toArray, List.set_cons_zero, List.set_cons_succ, i64_w, i32_w]
       rfl
      refine done_ (by kernel_rfl) ?_
      have hnb72 := NB317_292.out
      have hnc72 := NB292_317.out
      have hnb73 := NB317_309.out
      have hnc73 := NB309_317.out
      have hnb74 := NB317_326.out
      have hnc74 := NB326_317.out
      have hcz75_0 : w71.cell? ⟨gb317, 0, none⟩ = some (.slice Ao30 t310.length co30) := (ql BK317.out 0).trans rfl
      have hcz75_1 : w71.cell? ⟨gb317, 1, none⟩ = some (.slice Ao34 t313.length co34) := (ql BK317.out 1).trans rfl
      have hcz75_2 : w71.cell? ⟨gb317, 2, none⟩ = some (.int .i64 t316) := (ql BK317.out 2).trans rfl
      have hfz75_0 := qn BK317.out 0
      have hfz75_1 := qn BK317.out 1
      have hfz75_2 := qn BK317.out 2
      go_upto_region 14 with (first | ((with_reducible refine qz (f := 36) rfl ?_); refine goesL_ (some 56) rfl rfl Try.func36 (by kernel_rfl) rfl #[.agg #[.slice Ao30 t310.length co30, .slice Ao34 t313.length co34, .int .i64 t316], .int .i64 1] rfl (by (try simp only [List.map_toArray, List.map_cons, List.map_nil]); first | done | rfl | (simp only [List.length_drop, List.length_take]; rfl)) ?_; (with_reducible refine (laws_markJoin.calls kj12 (fun k_ => some k_ = (.slice Ao30 t310.length co30 : Value).ownBlock) (.slice Ao30 t310.length co30) t310 (fun k_ => some k_ = (.slice Ao34 t313.length co34 : Value).ownBlock) (.slice Ao34 t313.length co34) t313 t316 1 t336 t337 t338 w _ ?side1 ?side2 ?side3 ?side4 ?side5 A65.out).mono ?_); (case side1 => repeat (first | (with_reducible first | exact HB.out | apply qo | apply qk | apply qm | refine qd ?_ GE292.out | refine qd ?_ GE309.out | refine qd ?_ GE317.out | refine qd ?_ GE326.out) | exact HB.out)); (case side2 => exact Kd.R_tight rfl HO_318000.out); (case side3 => exact fun k_ e_ => (HO_318000.out.1 k_ e_.symm).1.1.2.2.1); (case side4 => exact Kd.R_tight rfl HO_318001.out); (case side5 => exact fun k_ e_ => (HO_318001.out.1 k_ e_.symm).1.1.2.2.1); rintro e w76 ⟨rfl, hy0, hy1, hb, hkp⟩; refine ⟨_, rfl, ?_⟩; have n0_ := Aside0.mk (qi (ok' := fun k_ => some k_ ≠ (.slice Ao26 t304.length co26 : Value).ownBlock ∧ some k_ ≠ (.slice Ao30 t310.length co30 : Value).ownBlock ∧ some k_ ≠ (.slice Ao34 t313.length co34 : Value).ownBlock ∧ some k_ ≠ (.slice Ao37 t318.length co37 : Value).ownBlock ∧ some k_ ≠ (.slice Ao42 t321.length co42 : Value).ownBlock ∧ some k_ ≠ (.slice Ao69 t328.length co69 : Value).ownBlock ∧ some k_ ≠ (.slice Ao70 t331.length co70 : Value).ownBlock) (Kd.R_keptB (HO_310000.out) hkp (fun k_ hk_ hs_ => Or.elim hs_ (fun e_ => (hk_.1.1.2.1) e_) (fun e_ => (hk_.1.1.2.2.1) e_))) (fun k_ hk_ => ⟨hk_.1.1.1.1, hk_.1.1.1.2.1, hk_.1.1.1.2.2.1, hk_.1.1.1.2.2.2.1, hk_.1.1.1.2.2.2.2, hk_.1.1.2, hk_.1.2⟩)); have n1_ := Aside0.mk (qi (ok' := fun k_ => some k_ ≠ (.slice Ao23 t301.length co23 : Value).ownBlock ∧ some k_ ≠ (.slice Ao30 t310.length co30 : Value).ownBlock ∧ some k_ ≠ (.slice Ao34 t313.length co34 : Value).ownBlock ∧ some k_ ≠ (.slice Ao37 t318.length co37 : Value).ownBlock ∧ some k_ ≠ (.slice Ao42 t321.length co42 : Value).ownBlock ∧ some k_ ≠ (.slice Ao69 t328.length co69 : Value).ownBlock ∧ some k_ ≠ (.slice Ao70 t331.length co70 : Value).ownBlock) (Kd.R_keptB (HO_310001.out) hkp (fun k_ hk_ hs_ => Or.elim hs_ (fun e_ => (hk_.1.1.2.1) e_) (fun e_ => (hk_.1.1.2.2.1) e_))) (fun k_ hk_ => ⟨hk_.1.1.1.1, hk_.1.1.1.2.1, hk_.1.1.1.2.2.1, hk_.1.1.1.2.2.2.1, hk_.1.1.1.2.2.2.2, hk_.1.1.2, hk_.1.2⟩)); have n2_ := Aside0.mk (Kd.R_reok rfl hy0 (fun k_ e_ => HO_318000.out.1 k_ e_)); have n3_ := Aside0.mk (Kd.R_reok rfl hy1 (fun k_ e_ => HO_318001.out.1 k_ e_)); have n4_ := Aside0.mk (qi (ok' := fun k_ => some k_ ≠ (.slice Ao23 t301.length co23 : Value).ownBlock ∧ some k_ ≠ (.slice Ao26 t304.length co26 : Value).ownBlock ∧ some k_ ≠ (.slice Ao30 t310.length co30 : Value).ownBlock ∧ some k_ ≠ (.slice Ao34 t313.length co34 : Value).ownBlock ∧ some k_ ≠ (.slice Ao42 t321.length co42 : Value).ownBlock ∧ some k_ ≠ (.slice Ao69 t328.length co69 : Value).ownBlock ∧ some k_ ≠ (.slice Ao70 t331.length co70 : Value).ownBlock) (Kd.R_keptB (HO_327000.out) hkp (fun k_ hk_ hs_ => Or.elim hs_ (fun e_ => (hk_.1.1.2.2.1) e_) (fun e_ => (hk_.1.1.2.2.2.1) e_))) (fun k_ hk_ => ⟨hk_.1.1.1.1, hk_.1.1.1.2.1, hk_.1.1.1.2.2.1, hk_.1.1.1.2.2.2.1, hk_.1.1.1.2.2.2.2, hk_.1.1.2, hk_.1.2⟩)); have n5_ := Aside0.mk (qi (ok' := fun k_ => some k_ ≠ (.slice Ao23 t301.length co23 : Value).ownBlock ∧ some k_ ≠ (.slice Ao26 t304.length co26 : Value).ownBlock ∧ some k_ ≠ (.slice Ao30 t310.length co30 : Value).ownBlock ∧ some k_ ≠ (.slice Ao34 t313.length co34 : Value).ownBlock ∧ some k_ ≠ (.slice Ao37 t318.length co37 : Value).ownBlock ∧ some k_ ≠ (.slice Ao69 t328.length co69 : Value).ownBlock ∧ some k_ ≠ (.slice Ao70 t331.length co70 : Value).ownBlock) (Kd.R_keptB (HO_327001.out) hkp (fun k_ hk_ hs_ => Or.elim hs_ (fun e_ => (hk_.1.1.2.2.1) e_) (fun e_ => (hk_.1.1.2.2.2.1) e_))) (fun k_ hk_ => ⟨hk_.1.1.1.1, hk_.1.1.1.2.1, hk_.1.1.1.2.2.1, hk_.1.1.1.2.2.2.1, hk_.1.1.1.2.2.2.2, hk_.1.1.2, hk_.1.2⟩)); have n6_ := Aside0.mk (blk_kept (by (with_reducible repeat (first | refine qe ?_ _ | refine qh ?_ | refine qf ?_ _)); exact BK292.out) hkp (fun hs_ => Or.elim hs_ (fun e_ => (fun e_ => (ja HO_318000.out BK292.out (by decide)) e_) e_) (fun e_ => (fun e_ => (ja HO_318001.out BK292.out (by decide)) e_) e_))); have n7_ := Aside0.mk (blk_kept (by (with_reducible repeat (first | refine qe ?_ _ | refine qh ?_ | refine qf ?_ _)); exact BK309.out) hkp (fun hs_ => Or.elim hs_ (fun e_ => (fun e_ => (ja HO_318000.out BK309.out (by decide)) e_) e_) (fun e_ => (fun e_ => (ja HO_318001.out BK309.out (by decide)) e_) e_))); have n8_ := Aside0.mk (blk_kept (by (with_reducible repeat (first | refine qe ?_ _ | refine qh ?_ | refine qf ?_ _)); exact BK317.out) hkp (fun hs_ => Or.elim hs_ (fun e_ => (fun e_ => (ja HO_318000.out BK317.out (by decide)) e_) e_) (fun e_ => (fun e_ => (ja HO_318001.out BK317.out (by decide)) e_) e_))); have n9_ := Aside0.mk (blk_kept (by (with_reducible repeat (first | refine qe ?_ _ | refine qh ?_ | refine qf ?_ _)); exact BK326.out) hkp (fun hs_ => Or.elim hs_ (fun e_ => (fun e_ => (ja HO_318000.out BK326.out (by decide)) e_) e_) (fun e_ => (fun e_ => (ja HO_318001.out BK326.out (by decide)) e_) e_))); have n10_ := Aside0.mk (qi (ok' := fun k_ => some k_ ≠ (.slice Ao23 t301.length co23 : Value).ownBlock ∧ some k_ ≠ (.slice Ao26 t304.length co26 : Value).ownBlock ∧ some k_ ≠ (.slice Ao30 t310.length co30 : Value).ownBlock ∧ some k_ ≠ (.slice Ao34 t313.length co34 : Value).ownBlock ∧ some k_ ≠ (.slice Ao37 t318.length co37 : Value).ownBlock ∧ some k_ ≠ (.slice Ao42 t321.length co42 : Value).ownBlock ∧ some k_ ≠ (.slice Ao70 t331.length co70 : Value).ownBlock) (Kd.R_keptB (HO330.out) hkp (fun k_ hk_ hs_ => Or.elim hs_ (fun e_ => (hk_.1.1.1.2) e_) (fun e_ => (hk_.1.1.2) e_))) (fun k_ hk_ => ⟨hk_.1.1.1.1.1.1.2, hk_.1.1.1.1.1.2, hk_.1.1.1.1.2, hk_.1.1.1.2, hk_.1.1.2, hk_.1.2, hk_.1.1.1.1.1.1.1⟩)); have n11_ := Aside0.mk (qi (ok' := fun k_ => some k_ ≠ (.slice Ao23 t301.length co23 : Value).ownBlock ∧ some k_ ≠ (.slice Ao26 t304.length co26 : Value).ownBlock ∧ some k_ ≠ (.slice Ao30 t310.length co30 : Value).ownBlock ∧ some k_ ≠ (.slice Ao34 t313.length co34 : Value).ownBlock ∧ some k_ ≠ (.slice Ao37 t318.length co37 : Value).ownBlock ∧ some k_ ≠ (.slice Ao42 t321.length co42 : Value).ownBlock ∧ some k_ ≠ (.slice Ao69 t328.length co69 : Value).ownBlock) (Kd.R_keptB (HO333.out) hkp (fun k_ hk_ hs_ => Or.elim hs_ (fun e_ => (hk_.1.1.1.2) e_) (fun e_ => (hk_.1.1.2) e_))) (fun k_ hk_ => ⟨hk_.1.1.1.1.1.1.2, hk_.1.1.1.1.1.2, hk_.1.1.1.1.2, hk_.1.1.1.2, hk_.1.1.2, hk_.1.2, hk_.1.1.1.1.1.1.1⟩)); have n12_ := Aside0.mk (hb); clear HO_310000; clear HO_310001; clear HO_318000; clear HO_318001; clear HO_327000; clear HO_327001; clear BK292; clear BK309; clear BK317; clear BK326; clear HO330; clear HO333; clear HB; have HO_310000 := n0_; have HO_310001 := n1_; have HO_318000 := n2_; have HO_318001 := n3_; have HO_327000 := n4_; have HO_327001 := n5_; have BK292 := n6_; have BK309 := n7_; have BK317 := n8_; have BK326 := n9_; have HO330 := n10_; have HO333 := n11_; have HB := n12_; clear n0_ n1_ n2_ n3_ n4_ n5_ n6_ n7_ n8_ n9_ n10_ n11_ n12_; (try clear hb); (try clear hkp); (try clear hy0); (try clear hy1)))
      (try simp only [Act.put, List.setIfInBounds_toArray, List.set_cons_zero, List.set_cons_succ])
      go_cut [69] (fun v69 wc => ∃ (kq : Nat) (x69_65 : Bool), v69 = .bool x69_65 ∧ Aside0 (laws_FnExactRaiseJoin.j1 kq a1 a2 t308 x69_65 l0_0 l0_1 a0_2 t301 t304 t307 t318 t321 t324 = some r) ∧ Aside0 (kq ≤ kj12) ∧ Aside0 (Kd.R k56 56 wc w.heap.size (fun k_ => some k_ ≠ ((.slice Ao26 t304.length co26) : Value).ownBlock ∧ some k_ ≠ ((.slice Ao30 t310.length co30) : Value).ownBlock ∧ some k_ ≠ ((.slice Ao34 t313.length co34) : Value).ownBlock ∧ some k_ ≠ ((.slice Ao37 t318.length co37) : Value).ownBlock ∧ some k_ ≠ ((.slice Ao42 t321.length co42) : Value).ownBlock) (.slice Ao23 t301.length co23) t301) ∧ Aside0 (Kd.R k56 56 wc w.heap.size (fun k_ => some k_ ≠ ((.slice Ao23 t301.length co23) : Value).ownBlock ∧ some k_ ≠ ((.slice Ao30 t310.length co30) : Value).ownBlock ∧ some k_ ≠ ((.slice Ao34 t313.length co34) : Value).ownBlock ∧ some k_ ≠ ((.slice Ao37 t318.length co37) : Value).ownBlock ∧ some k_ ≠ ((.slice Ao42 t321.length co42) : Value).ownBlock) (.slice Ao26 t304.length co26) t304) ∧ Aside0 (Kd.R k56 56 wc w.heap.size (fun k_ => some k_ ≠ ((.slice Ao23 t301.length co23) : Value).ownBlock ∧ some k_ ≠ ((.slice Ao26 t304.length co26) : Value).ownBlock ∧ some k_ ≠ ((.slice Ao34 t313.length co34) : Value).ownBlock ∧ some k_ ≠ ((.slice Ao37 t318.length co37) : Value).ownBlock ∧ some k_ ≠ ((.slice Ao42 t321.length co42) : Value).ownBlock) (.slice Ao30 t310.length co30) t337) ∧ Aside0 (Kd.R k56 56 wc w.heap.size (fun k_ => some k_ ≠ ((.slice Ao23 t301.length co23) : Value).ownBlock ∧ some k_ ≠ ((.slice Ao26 t304.length co26) : Value).ownBlock ∧ some k_ ≠ ((.slice Ao30 t310.length co30) : Value).ownBlock ∧ some k_ ≠ ((.slice Ao37 t318.length co37) : Value).ownBlock ∧ some k_ ≠ ((.slice Ao42 t321.length co42) : Value).ownBlock) (.slice Ao34 t313.length co34) t338) ∧ Aside0 (Kd.R k56 56 wc w.heap.size (fun k_ => some k_ ≠ ((.slice Ao23 t301.length co23) : Value).ownBlock ∧ some k_ ≠ ((.slice Ao26 t304.length co26) : Value).ownBlock ∧ some k_ ≠ ((.slice Ao30 t310.length co30) : Value).ownBlock ∧ some k_ ≠ ((.slice Ao34 t313.length co34) : Value).ownBlock ∧ some k_ ≠ ((.slice Ao42 t321.length co42) : Value).ownBlock) (.slice Ao37 t318.length co37) t318) ∧ Aside0 (Kd.R k56 56 wc w.heap.size (fun k_ => some k_ ≠ ((.slice Ao23 t301.length co23) : Value).ownBlock ∧ some k_ ≠ ((.slice Ao26 t304.length co26) : Value).ownBlock ∧ some k_ ≠ ((.slice Ao30 t310.length co30) : Value).ownBlock ∧ some k_ ≠ ((.slice Ao34 t313.length co34) : Value).ownBlock ∧ some k_ ≠ ((.slice Ao37 t318.length co37) : Value).ownBlock) (.slice Ao42 t321.length co42) t321) ∧ Aside0 (wc.heap[gb292]? = some (.cells #[(.slice A0_0 l0_0.length c0_0), (.slice A0_1 l0_1.length c0_1), .int .i64 a0_2] 24 (0, 0))) ∧ Aside0 (wc.heap[gb309]? = some (.cells #[(.slice Ao23 t301.length co23), (.slice Ao26 t304.length co26), .int .i64 t307] 29 (0, 0))) ∧ Aside0 (wc.heap[gb317]? = some (.cells #[(.slice Ao30 t310.length co30), (.slice Ao34 t313.length co34), .int .i64 t316] 29 (0, 0))) ∧ Aside0 (wc.heap[gb326]? = some (.cells #[(.slice Ao37 t318.length co37), (.slice Ao42 t321.length co42), .int .i64 t324] 29 (0, 0))) ∧ Aside0 (Below w.heap.size w wc))
      case first =>
       have H := HC66.out
       clear HC66
       by_cases c77 : t336 < 0
       ·
        rw [if_pos c77] at H
        have c77b0 : decide (t336 < 0) = true := decide_eq_true c77
        clear c77
        (first | rw [c77b0] | (simp only [i64_w, i32_w]; rw [c77b0]) | skip)
        have H' := Aside0.mk H
        clear H
        go_wp2
        go_meet
        case rel => exact ⟨_, (true), (by first | rfl | (simp; done) | (simp [*]; done)), H', ⟨by have := HJ12.out; first | omega | exact Nat.le_refl _⟩, ⟨by (with_reducible repeat (first | apply qa | apply qb | apply qc)); exact qi HO_310000.out (fun _ hk => ⟨hk.1, ⟨hk.2.1, ⟨hk.2.2.1, ⟨hk.2.2.2.1, hk.2.2.2.2.1⟩⟩⟩⟩)⟩, ⟨by (with_reducible repeat (first | apply qa | apply qb | apply qc)); exact qi HO_310001.out (fun _ hk => ⟨hk.1, ⟨hk.2.1, ⟨hk.2.2.1, ⟨hk.2.2.2.1, hk.2.2.2.2.1⟩⟩⟩⟩)⟩, ⟨by (with_reducible repeat (first | apply qa | apply qb | apply qc)); exact qi HO_318000.out (fun _ hk => ⟨hk.1.1.1, ⟨hk.1.1.2.1, ⟨hk.1.1.2.2.1, ⟨hk.1.1.2.2.2.1, hk.1.1.2.2.2.2⟩⟩⟩⟩)⟩, ⟨by (with_reducible repeat (first | apply qa | apply qb | apply qc)); exact qi HO_318001.out (fun _ hk => ⟨hk.1.1.1, ⟨hk.1.1.2.1, ⟨hk.1.1.2.2.1, ⟨hk.1.1.2.2.2.1, hk.1.1.2.2.2.2⟩⟩⟩⟩)⟩, ⟨by (with_reducible repeat (first | apply qa | apply qb | apply qc)); exact qi HO_327000.out (fun _ hk => ⟨hk.1, ⟨hk.2.1, ⟨hk.2.2.1, ⟨hk.2.2.2.1, hk.2.2.2.2.1⟩⟩⟩⟩)⟩, ⟨by (with_reducible repeat (first | apply qa | apply qb | apply qc)); exact qi HO_327001.out (fun _ hk => ⟨hk.1, ⟨hk.2.1, ⟨hk.2.2.1, ⟨hk.2.2.2.1, hk.2.2.2.2.1⟩⟩⟩⟩)⟩, ⟨by (with_reducible repeat (first | refine qe ?_ _ | refine qh ?_ | refine qf ?_ _)); exact BK292.out⟩, ⟨by (with_reducible repeat (first | refine qe ?_ _ | refine qh ?_ | refine qf ?_ _)); exact BK309.out⟩, ⟨by (with_reducible repeat (first | refine qe ?_ _ | refine qh ?_ | refine qf ?_ _)); exact BK317.out⟩, ⟨by (with_reducible repeat (first | refine qe ?_ _ | refine qh ?_ | refine qf ?_ _)); exact BK326.out⟩, ⟨by repeat (first | (with_reducible first | exact HB.out | apply qo | apply qk | apply qm | refine qd ?_ GE292.out | refine qd ?_ GE309.out | refine qd ?_ GE317.out | refine qd ?_ GE326.out) | exact HB.out)⟩⟩
       ·
        rw [if_neg c77] at H
        have c77b0 : decide (t336 < 0) = false := decide_eq_false c77
        clear c77
        (first | rw [c77b0] | (simp only [i64_w, i32_w]; rw [c77b0]) | skip)
        replace H := Option.bind_eq_some_iff.mp H
        obtain ⟨t339, A780, H⟩ := H
        replace H : (if t339 = true then (laws_FnExactRaiseJoin.j1 kj12 a1 a2 t308 (t325 != t308) l0_0 l0_1 a0_2 t301 t304 t307 t318 t321 t324) else (laws_FnExactRaiseJoin.j1 kj12 a1 a2 t308 true l0_0 l0_1 a0_2 t301 t304 t307 t318 t321 t324)) = some r := H
        have A78 := Aside0.mk A780
        clear A780
        by_cases c79 : t339 = true
        ·
         subst c79
         have H1 : (laws_FnExactRaiseJoin.j1 kj12 a1 a2 t308 (t325 != t308) l0_0 l0_1 a0_2 t301 t304 t307 t318 t321 t324) = some r := by rw [if_pos rfl] at H; exact H
         clear H
         have H := H1
         clear H1
         have H' := Aside0.mk H
         clear H
         have hnb80 := NB326_292.out
         have hnc80 := NB292_326.out
         have hnb81 := NB326_309.out
         have hnc81 := NB309_326.out
         have hnb82 := NB326_317.out
         have hnc82 := NB317_326.out
         have hcz83_0 : w76.cell? ⟨gb326, 0, none⟩ = some (.slice Ao37 t318.length co37) := (ql BK326.out 0).trans rfl
         have hcz83_1 : w76.cell? ⟨gb326, 1, none⟩ = some (.slice Ao42 t321.length co42) := (ql BK326.out 1).trans rfl
         have hcz83_2 : w76.cell? ⟨gb326, 2, none⟩ = some (.int .i64 t324) := (ql BK326.out 2).trans rfl
         have hfz83_0 := qn BK326.out 0
         have hfz83_1 := qn BK326.out 1
         have hfz83_2 := qn BK326.out 2
         have hnb84 := NB309_292.out
         have hnc84 := NB292_309.out
         have hnb85 := NB309_317.out
         have hnc85 := NB317_309.out
         have hcz86_0 : w76.cell? ⟨gb309, 0, none⟩ = some (.slice Ao23 t301.length co23) := (ql BK309.out 0).trans rfl
         have hcz86_1 : w76.cell? ⟨gb309, 1, none⟩ = some (.slice Ao26 t304.length co26) := (ql BK309.out 1).trans rfl
         have hcz86_2 : w76.cell? ⟨gb309, 2, none⟩ = some (.int .i64 t307) := (ql BK309.out 2).trans rfl
         have hfz86_0 := qn BK309.out 0
         have hfz86_1 := qn BK309.out 1
         have hfz86_2 := qn BK309.out 2
         go_wp2_with (first | (go_at_call 17; (with_reducible refine (laws_eqJoin.calls kj12 _ _ t318 _ _ t321 t324 _ _ t301 _ _ t304 t307 true _ ?side1 ?side2 ?side3 ?side4 ?side5 ?side6 ?side7 ?side8 A78.out).mono ?_); (case side1 => repeat (first | exact (Kd.R_reads' HO_327000.out).2.2 | (with_reducible refine qt ?_ _) | (with_reducible refine qu ?_ _) | (with_reducible refine qv ?_))); (case side2 => exact (Kd.R_reads' HO_327000.out).2.1); (case side3 => repeat (first | exact (Kd.R_reads' HO_327001.out).2.2 | (with_reducible refine qt ?_ _) | (with_reducible refine qu ?_ _) | (with_reducible refine qv ?_))); (case side4 => exact (Kd.R_reads' HO_327001.out).2.1); (case side5 => repeat (first | exact (Kd.R_reads' HO_310000.out).2.2 | (with_reducible refine qt ?_ _) | (with_reducible refine qu ?_ _) | (with_reducible refine qv ?_))); (case side6 => exact (Kd.R_reads' HO_310000.out).2.1); (case side7 => repeat (first | exact (Kd.R_reads' HO_310001.out).2.2 | (with_reducible refine qt ?_ _) | (with_reducible refine qu ?_ _) | (with_reducible refine qv ?_))); (case side8 => exact (Kd.R_reads' HO_310001.out).2.1); rintro e w87 ⟨rfl, hb⟩; have n0_ := Aside0.mk (qj (by (with_reducible repeat (first | apply qa | apply qb | apply qc)); exact HO_310000.out) hb); have n1_ := Aside0.mk (qj (by (with_reducible repeat (first | apply qa | apply qb | apply qc)); exact HO_310001.out) hb); have n2_ := Aside0.mk (qj (by (with_reducible repeat (first | apply qa | apply qb | apply qc)); exact HO_318000.out) hb); have n3_ := Aside0.mk (qj (by (with_reducible repeat (first | apply qa | apply qb | apply qc)); exact HO_318001.out) hb); have n4_ := Aside0.mk (qj (by (with_reducible repeat (first | apply qa | apply qb | apply qc)); exact HO_327000.out) hb); have n5_ := Aside0.mk (qj (by (with_reducible repeat (first | apply qa | apply qb | apply qc)); exact HO_327001.out) hb); have n6_ := Aside0.mk (qj (by (with_reducible repeat (first | apply qa | apply qb | apply qc)); exact HO330.out) hb); have n7_ := Aside0.mk (qj (by (with_reducible repeat (first | apply qa | apply qb | apply qc)); exact HO333.out) hb); have n8_ := Aside0.mk (qp (g := gb292) (o := .cells #[.slice A0_0 l0_0.length c0_0, .slice A0_1 l0_1.length c0_1, .int .i64 a0_2] 24 (0, 0)) (by (with_reducible repeat (first | refine qe ?_ _ | refine qh ?_ | refine qf ?_ _)); exact BK292.out) hb); have n9_ := Aside0.mk (qp (g := gb309) (o := .cells #[.slice Ao23 t301.length co23, .slice Ao26 t304.length co26, .int .i64 t307] 29 (0, 0)) (by (with_reducible repeat (first | refine qe ?_ _ | refine qh ?_ | refine qf ?_ _)); exact BK309.out) hb); have n10_ := Aside0.mk (qp (g := gb317) (o := .cells #[.slice Ao30 t310.length co30, .slice Ao34 t313.length co34, .int .i64 t316] 29 (0, 0)) (by (with_reducible repeat (first | refine qe ?_ _ | refine qh ?_ | refine qf ?_ _)); exact BK317.out) hb); have n11_ := Aside0.mk (qp (g := gb326) (o := .cells #[.slice Ao37 t318.length co37, .slice Ao42 t321.length co42, .int .i64 t324] 29 (0, 0)) (by (with_reducible repeat (first | refine qe ?_ _ | refine qh ?_ | refine qf ?_ _)); exact BK326.out) hb); have n12_ := Aside0.mk (qx (by repeat (first | (with_reducible first | exact HB.out | apply qo | apply qk | apply qm | refine qd ?_ GE292.out | refine qd ?_ GE309.out | refine qd ?_ GE317.out | refine qd ?_ GE326.out) | exact HB.out)) hb); clear HO_310000; clear HO_310001; clear HO_318000; clear HO_318001; clear HO_327000; clear HO_327001; clear HO330; clear HO333; clear BK292; clear BK309; clear BK317; clear BK326; clear HB; have HO_310000 := n0_; have HO_310001 := n1_; have HO_318000 := n2_; have HO_318001 := n3_; have HO_327000 := n4_; have HO_327001 := n5_; have HO330 := n6_; have HO333 := n7_; have BK292 := n8_; have BK309 := n9_; have BK317 := n10_; have BK326 := n11_; have HB := n12_; clear n0_ n1_ n2_ n3_ n4_ n5_ n6_ n7_ n8_ n9_ n10_ n11_ n12_; (try clear hb); (try clear hb2); (try clear hk); (try clear hi)))
         go_meet
         case rel => exact ⟨_, ((t325 != t308)), (by first | rfl | (simp; done) | (simp [*]; done)), H', ⟨by have := HJ12.out; first | omega | exact Nat.le_refl _⟩, ⟨by (with_reducible repeat (first | apply qa | apply qb | apply qc)); exact qi HO_310000.out (fun _ hk => ⟨hk.1, ⟨hk.2.1, ⟨hk.2.2.1, ⟨hk.2.2.2.1, hk.2.2.2.2.1⟩⟩⟩⟩)⟩, ⟨by (with_reducible repeat (first | apply qa | apply qb | apply qc)); exact qi HO_310001.out (fun _ hk => ⟨hk.1, ⟨hk.2.1, ⟨hk.2.2.1, ⟨hk.2.2.2.1, hk.2.2.2.2.1⟩⟩⟩⟩)⟩, ⟨by (with_reducible repeat (first | apply qa | apply qb | apply qc)); exact qi HO_318000.out (fun _ hk => ⟨hk.1.1.1, ⟨hk.1.1.2.1, ⟨hk.1.1.2.2.1, ⟨hk.1.1.2.2.2.1, hk.1.1.2.2.2.2⟩⟩⟩⟩)⟩, ⟨by (with_reducible repeat (first | apply qa | apply qb | apply qc)); exact qi HO_318001.out (fun _ hk => ⟨hk.1.1.1, ⟨hk.1.1.2.1, ⟨hk.1.1.2.2.1, ⟨hk.1.1.2.2.2.1, hk.1.1.2.2.2.2⟩⟩⟩⟩)⟩, ⟨by (with_reducible repeat (first | apply qa | apply qb | apply qc)); exact qi HO_327000.out (fun _ hk => ⟨hk.1, ⟨hk.2.1, ⟨hk.2.2.1, ⟨hk.2.2.2.1, hk.2.2.2.2.1⟩⟩⟩⟩)⟩, ⟨by (with_reducible repeat (first | apply qa | apply qb | apply qc)); exact qi HO_327001.out (fun _ hk => ⟨hk.1, ⟨hk.2.1, ⟨hk.2.2.1, ⟨hk.2.2.2.1, hk.2.2.2.2.1⟩⟩⟩⟩)⟩, ⟨by (with_reducible repeat (first | refine qe ?_ _ | refine qh ?_ | refine qf ?_ _)); exact BK292.out⟩, ⟨by (with_reducible repeat (first | refine qe ?_ _ | refine qh ?_ | refine qf ?_ _)); exact BK309.out⟩, ⟨by (with_reducible repeat (first | refine qe ?_ _ | refine qh ?_ | refine qf ?_ _)); exact BK317.out⟩, ⟨by (with_reducible repeat (first | refine qe ?_ _ | refine qh ?_ | refine qf ?_ _)); exact BK326.out⟩, ⟨by repeat (first | (with_reducible first | exact HB.out | apply qo | apply qk | apply qm | refine qd ?_ GE292.out | refine qd ?_ GE309.out | refine qd ?_ GE317.out | refine qd ?_ GE326.out) | exact HB.out)⟩⟩
        ·
         replace c79 := Bool.eq_false_iff.mpr c79
         subst c79
         have H1 : (laws_FnExactRaiseJoin.j1 kj12 a1 a2 t308 true l0_0 l0_1 a0_2 t301 t304 t307 t318 t321 t324) = some r := by rw [if_neg (show ¬ (false = true) by decide)] at H; exact H
         clear H
         have H := H1
         clear H1
         have H' := Aside0.mk H
         clear H
         have hnb88 := NB326_292.out
         have hnc88 := NB292_326.out
         have hnb89 := NB326_309.out
         have hnc89 := NB309_326.out
         have hnb90 := NB326_317.out
         have hnc90 := NB317_326.out
         have hcz91_0 : w76.cell? ⟨gb326, 0, none⟩ = some (.slice Ao37 t318.length co37) := (ql BK326.out 0).trans rfl
         have hcz91_1 : w76.cell? ⟨gb326, 1, none⟩ = some (.slice Ao42 t321.length co42) := (ql BK326.out 1).trans rfl
         have hcz91_2 : w76.cell? ⟨gb326, 2, none⟩ = some (.int .i64 t324) := (ql BK326.out 2).trans rfl
         have hfz91_0 := qn BK326.out 0
         have hfz91_1 := qn BK326.out 1
         have hfz91_2 := qn BK326.out 2
         have hnb92 := NB309_292.out
         have hnc92 := NB292_309.out
         have hnb93 := NB309_317.out
         have hnc93 := NB317_309.out
         have hcz94_0 : w76.cell? ⟨gb309, 0, none⟩ = some (.slice Ao23 t301.length co23) := (ql BK309.out 0).trans rfl
         have hcz94_1 : w76.cell? ⟨gb309, 1, none⟩ = some (.slice Ao26 t304.length co26) := (ql BK309.out 1).trans rfl
         have hcz94_2 : w76.cell? ⟨gb309, 2, none⟩ = some (.int .i64 t307) := (ql BK309.out 2).trans rfl
         have hfz94_0 := qn BK309.out 0
         have hfz94_1 := qn BK309.out 1
         have hfz94_2 := qn BK309.out 2
         go_wp2_with (first | (go_at_call 17; (with_reducible refine (laws_eqJoin.calls kj12 _ _ t318 _ _ t321 t324 _ _ t301 _ _ t304 t307 false _ ?side1 ?side2 ?side3 ?side4 ?side5 ?side6 ?side7 ?side8 A78.out).mono ?_); (case side1 => repeat (first | exact (Kd.R_reads' HO_327000.out).2.2 | (with_reducible refine qt ?_ _) | (with_reducible refine qu ?_ _) | (with_reducible refine qv ?_))); (case side2 => exact (Kd.R_reads' HO_327000.out).2.1); (case side3 => repeat (first | exact (Kd.R_reads' HO_327001.out).2.2 | (with_reducible refine qt ?_ _) | (with_reducible refine qu ?_ _) | (with_reducible refine qv ?_))); (case side4 => exact (Kd.R_reads' HO_327001.out).2.1); (case side5 => repeat (first | exact (Kd.R_reads' HO_310000.out).2.2 | (with_reducible refine qt ?_ _) | (with_reducible refine qu ?_ _) | (with_reducible refine qv ?_))); (case side6 => exact (Kd.R_reads' HO_310000.out).2.1); (case side7 => repeat (first | exact (Kd.R_reads' HO_310001.out).2.2 | (with_reducible refine qt ?_ _) | (with_reducible refine qu ?_ _) | (with_reducible refine qv ?_))); (case side8 => exact (Kd.R_reads' HO_310001.out).2.1); rintro e w95 ⟨rfl, hb⟩; have n0_ := Aside0.mk (qj (by (with_reducible repeat (first | apply qa | apply qb | apply qc)); exact HO_310000.out) hb); have n1_ := Aside0.mk (qj (by (with_reducible repeat (first | apply qa | apply qb | apply qc)); exact HO_310001.out) hb); have n2_ := Aside0.mk (qj (by (with_reducible repeat (first | apply qa | apply qb | apply qc)); exact HO_318000.out) hb); have n3_ := Aside0.mk (qj (by (with_reducible repeat (first | apply qa | apply qb | apply qc)); exact HO_318001.out) hb); have n4_ := Aside0.mk (qj (by (with_reducible repeat (first | apply qa | apply qb | apply qc)); exact HO_327000.out) hb); have n5_ := Aside0.mk (qj (by (with_reducible repeat (first | apply qa | apply qb | apply qc)); exact HO_327001.out) hb); have n6_ := Aside0.mk (qj (by (with_reducible repeat (first | apply qa | apply qb | apply qc)); exact HO330.out) hb); have n7_ := Aside0.mk (qj (by (with_reducible repeat (first | apply qa | apply qb | apply qc)); exact HO333.out) hb); have n8_ := Aside0.mk (qp (g := gb292) (o := .cells #[.slice A0_0 l0_0.length c0_0, .slice A0_1 l0_1.length c0_1, .int .i64 a0_2] 24 (0, 0)) (by (with_reducible repeat (first | refine qe ?_ _ | refine qh ?_ | refine qf ?_ _)); exact BK292.out) hb); have n9_ := Aside0.mk (qp (g := gb309) (o := .cells #[.slice Ao23 t301.length co23, .slice Ao26 t304.length co26, .int .i64 t307] 29 (0, 0)) (by (with_reducible repeat (first | refine qe ?_ _ | refine qh ?_ | refine qf ?_ _)); exact BK309.out) hb); have n10_ := Aside0.mk (qp (g := gb317) (o := .cells #[.slice Ao30 t310.length co30, .slice Ao34 t313.length co34, .int .i64 t316] 29 (0, 0)) (by (with_reducible repeat (first | refine qe ?_ _ | refine qh ?_ | refine qf ?_ _)); exact BK317.out) hb); have n11_ := Aside0.mk (qp (g := gb326) (o := .cells #[.slice Ao37 t318.length co37, .slice Ao42 t321.length co42, .int .i64 t324] 29 (0, 0)) (by (with_reducible repeat (first | refine qe ?_ _ | refine qh ?_ | refine qf ?_ _)); exact BK326.out) hb); have n12_ := Aside0.mk (qx (by repeat (first | (with_reducible first | exact HB.out | apply qo | apply qk | apply qm | refine qd ?_ GE292.out | refine qd ?_ GE309.out | refine qd ?_ GE317.out | refine qd ?_ GE326.out) | exact HB.out)) hb); clear HO_310000; clear HO_310001; clear HO_318000; clear HO_318001; clear HO_327000; clear HO_327001; clear HO330; clear HO333; clear BK292; clear BK309; clear BK317; clear BK326; clear HB; have HO_310000 := n0_; have HO_310001 := n1_; have HO_318000 := n2_; have HO_318001 := n3_; have HO_327000 := n4_; have HO_327001 := n5_; have HO330 := n6_; have HO333 := n7_; have BK292 := n8_; have BK309 := n9_; have BK317 := n10_; have BK326 := n11_; have HB := n12_; clear n0_ n1_ n2_ n3_ n4_ n5_ n6_ n7_ n8_ n9_ n10_ n11_ n12_; (try clear hb); (try clear hb2); (try clear hk); (try clear hi)))
         go_meet
         case rel => exact ⟨_, (true), (by first | rfl | (simp; done) | (simp [*]; done)), H', ⟨by have := HJ12.out; first | omega | exact Nat.le_refl _⟩, ⟨by (with_reducible repeat (first | apply qa | apply qb | apply qc)); exact qi HO_310000.out (fun _ hk => ⟨hk.1, ⟨hk.2.1, ⟨hk.2.2.1, ⟨hk.2.2.2.1, hk.2.2.2.2.1⟩⟩⟩⟩)⟩, ⟨by (with_reducible repeat (first | apply qa | apply qb | apply qc)); exact qi HO_310001.out (fun _ hk => ⟨hk.1, ⟨hk.2.1, ⟨hk.2.2.1, ⟨hk.2.2.2.1, hk.2.2.2.2.1⟩⟩⟩⟩)⟩, ⟨by (with_reducible repeat (first | apply qa | apply qb | apply qc)); exact qi HO_318000.out (fun _ hk => ⟨hk.1.1.1, ⟨hk.1.1.2.1, ⟨hk.1.1.2.2.1, ⟨hk.1.1.2.2.2.1, hk.1.1.2.2.2.2⟩⟩⟩⟩)⟩, ⟨by (with_reducible repeat (first | apply qa | apply qb | apply qc)); exact qi HO_318001.out (fun _ hk => ⟨hk.1.1.1, ⟨hk.1.1.2.1, ⟨hk.1.1.2.2.1, ⟨hk.1.1.2.2.2.1, hk.1.1.2.2.2.2⟩⟩⟩⟩)⟩, ⟨by (with_reducible repeat (first | apply qa | apply qb | apply qc)); exact qi HO_327000.out (fun _ hk => ⟨hk.1, ⟨hk.2.1, ⟨hk.2.2.1, ⟨hk.2.2.2.1, hk.2.2.2.2.1⟩⟩⟩⟩)⟩, ⟨by (with_reducible repeat (first | apply qa | apply qb | apply qc)); exact qi HO_327001.out (fun _ hk => ⟨hk.1, ⟨hk.2.1, ⟨hk.2.2.1, ⟨hk.2.2.2.1, hk.2.2.2.2.1⟩⟩⟩⟩)⟩, ⟨by (with_reducible repeat (first | refine qe ?_ _ | refine qh ?_ | refine qf ?_ _)); exact BK292.out⟩, ⟨by (with_reducible repeat (first | refine qe ?_ _ | refine qh ?_ | refine qf ?_ _)); exact BK309.out⟩, ⟨by (with_reducible repeat (first | refine qe ?_ _ | refine qh ?_ | refine qf ?_ _)); exact BK317.out⟩, ⟨by (with_reducible repeat (first | refine qe ?_ _ | refine qh ?_ | refine qf ?_ _)); exact BK326.out⟩, ⟨by repeat (first | (with_reducible first | exact HB.out | apply qo | apply qk | apply qm | refine qd ?_ GE292.out | refine qd ?_ GE309.out | refine qd ?_ GE317.out | refine qd ?_ GE326.out) | exact HB.out)⟩⟩
      case rest =>
       clear HC66
       try clear c1
       try clear c2
       try clear p2
       try clear c3
       try clear c4
       try clear c5
       try clear c5b0
       try clear c6
       try clear c7
       try clear c8
       try clear c9
       try clear c13
       try clear c15
       try clear c17
       try clear c24
       try clear c31
       try clear c32
       try clear c34
       try clear c35
       try clear c36
       try clear c38
       try clear c39
       try clear c40
       try clear c44
       try clear c45
       try clear c46
       try clear c47
       try clear c49
       try clear c50
       try clear c53
       try clear c54
       try clear c55
       try clear c57
       try clear c58
       try clear c61
       try clear c64
       try clear c72
       try clear c73
       try clear c74
       try clear c77
       try clear c77b0
       try clear c79
       try clear c80
       try clear c81
       try clear c82
       try clear c84
       try clear c85
       try clear c88
       try clear c89
       try clear c90
       try clear c92
       try clear c93
       try clear hcz15_0
       try clear hcz15_1
       try clear hcz15_2
       try clear hcz17_0
       try clear hcz17_1
       try clear hcz17_2
       try clear hcz25_0
       try clear hcz25_1
       try clear hcz25_2
       try clear hcz27_0
       try clear hcz27_1
       try clear hcz27_2
       try clear hcz33_0
       try clear hcz33_1
       try clear hcz33_2
       try clear hcz41_0
       try clear hcz41_1
       try clear hcz41_2
       try clear hcz48_0
       try clear hcz48_1
       try clear hcz48_2
       try clear hcz51_0
       try clear hcz51_1
       try clear hcz51_2
       try clear hcz56_0
       try clear hcz56_1
       try clear hcz56_2
       try clear hcz59_0
       try clear hcz59_1
       try clear hcz59_2
       try clear hcz75_0
       try clear hcz75_1
       try clear hcz75_2
       try clear hcz7_0
       try clear hcz7_1
       try clear hcz7_2
       try clear hcz83_0
       try clear hcz83_1
       try clear hcz83_2
       try clear hcz86_0
       try clear hcz86_1
       try clear hcz86_2
       try clear hcz91_0
       try clear hcz91_1
       try clear hcz91_2
       try clear hcz94_0
       try clear hcz94_1
       try clear hcz94_2
       try clear hfz15_0
       try clear hfz15_1
       try clear hfz15_2
       try clear hfz17_0
       try clear hfz17_1
       try clear hfz17_2
       try clear hfz25_0
       try clear hfz25_1
       try clear hfz25_2
       try clear hfz27_0
       try clear hfz27_1
       try clear hfz27_2
       try clear hfz33_0
       try clear hfz33_1
       try clear hfz33_2
       try clear hfz41_0
       try clear hfz41_1
       try clear hfz41_2
       try clear hfz48_0
       try clear hfz48_1
       try clear hfz48_2
       try clear hfz51_0
       try clear hfz51_1
       try clear hfz51_2
       try clear hfz56_0
       try clear hfz56_1
       try clear hfz56_2
       try clear hfz59_0
       try clear hfz59_1
       try clear hfz59_2
       try clear hfz75_0
       try clear hfz75_1
       try clear hfz75_2
       try clear hfz7_0
       try clear hfz7_1
       try clear hfz7_2
       try clear hfz83_0
       try clear hfz83_1
       try clear hfz83_2
       try clear hfz86_0
       try clear hfz86_1
       try clear hfz86_2
       try clear hfz91_0
       try clear hfz91_1
       try clear hfz91_2
       try clear hfz94_0
       try clear hfz94_1
       try clear hfz94_2
       try clear p2
       obtain ⟨kq, x69_65, rfl, HA, HJ65, HO_310000, HO_310001, HO_318000, HO_318001, HO_327000, HO_327001, BK292, BK309, BK317, BK326, HB⟩ := hcut
       have hl318000_65 := (Kd.R_reads' HO_318000.out).1
       rw [hl318000_65] at HO_318000
       (try simp only [hl318000_65])
       (try simp only [hl318000_65] at BK292)
       (try simp only [hl318000_65] at BK309)
       (try simp only [hl318000_65] at BK317)
       (try simp only [hl318000_65] at BK326)
       (try simp only [hl318000_65] at HO_310000)
       (try simp only [hl318000_65] at HO_310001)
       (try simp only [hl318000_65] at HO_318001)
       (try simp only [hl318000_65] at HO_327000)
       (try simp only [hl318000_65] at HO_327001)
       have hl318001_65 := (Kd.R_reads' HO_318001.out).1
       rw [hl318001_65] at HO_318001
       (try simp only [hl318001_65])
       (try simp only [hl318001_65] at BK292)
       (try simp only [hl318001_65] at BK309)
       (try simp only [hl318001_65] at BK317)
       (try simp only [hl318001_65] at BK326)
       (try simp only [hl318001_65] at HO_310000)
       (try simp only [hl318001_65] at HO_310001)
       (try simp only [hl318001_65] at HO_318000)
       (try simp only [hl318001_65] at HO_327000)
       (try simp only [hl318001_65] at HO_327001)
       cases kq with
       | zero => exact absurd HA.out (by simp [laws_FnExactRaiseJoin.j1])
       | succ kj65 =>
        have H := HA.out
        clear HA
        simp only [laws_FnExactRaiseJoin.j1] at H
        by_cases c96 : x69_65 = true
        ·
         subst c96
         have H1 : (some false) = some r := by rw [if_pos rfl] at H; exact H
         clear H
         have H := H1
         clear H1
         obtain rfl := Option.some.inj H
         go_wp2
         go_ret
         exact ⟨by first | rfl | (simp [errW_none, errW_some] <;> rfl) | (simp [*, errW_none, errW_some] <;> rfl), by repeat (first | (with_reducible first | exact HB.out | apply qo | apply qk | apply qm | refine qd ?_ GE292.out | refine qd ?_ GE309.out | refine qd ?_ GE317.out | refine qd ?_ GE326.out) | exact HB.out)⟩
        ·
         replace c96 := Bool.eq_false_iff.mpr c96
         subst c96
         have H1 : ((laws_markJoin.f kj65 t318 t321 t324 1).bind fun bt340 => ((laws_heldJoin.f kj65 bt340.2.1 bt340.2.2 t324 1).bind fun t343 => (if t343 < 0 then (some false) else (if t343 = bt340.1 then ((laws_toJoin.f kj65 l0_0 l0_1 a0_2).bind fun bt344 => ((impl_RaiseJoin.f kj65 bt344.1 bt344.2.1 bt344.2.2 a1 a2).bind fun bt351 => ((laws_eqJoin.f kj65 bt351.1 bt351.2.1 bt351.2.2.1 t301 t304 t307).bind fun t360 => (if t360 = true then (laws_FnExactRaiseJoin.j2 kj65 bt340.1 (bt351.2.2.2 != t308) bt340.2.1 bt340.2.2 t324) else (laws_FnExactRaiseJoin.j2 kj65 bt340.1 true bt340.2.1 bt340.2.2 t324))))) else (some false))))) = some r := by rw [if_neg (show ¬ (false = true) by decide)] at H; exact H
         clear H
         have H := H1
         clear H1
         replace H := Option.bind_eq_some_iff.mp H
         obtain ⟨⟨t340, t341, t342⟩, A970, H⟩ := H
         replace H : ((laws_heldJoin.f kj65 t341 t342 t324 1).bind fun t343 => (if t343 < 0 then (some false) else (if t343 = t340 then ((laws_toJoin.f kj65 l0_0 l0_1 a0_2).bind fun bt344 => ((impl_RaiseJoin.f kj65 bt344.1 bt344.2.1 bt344.2.2 a1 a2).bind fun bt351 => ((laws_eqJoin.f kj65 bt351.1 bt351.2.1 bt351.2.2.1 t301 t304 t307).bind fun t360 => (if t360 = true then (laws_FnExactRaiseJoin.j2 kj65 t340 (bt351.2.2.2 != t308) t341 t342 t324) else (laws_FnExactRaiseJoin.j2 kj65 t340 true t341 t342 t324))))) else (some false)))) = some r := H
         have A97 := Aside0.mk A970
         clear A970
         replace H := Option.bind_eq_some_iff.mp H
         obtain ⟨t343, A980, H⟩ := H
         replace H : (if t343 < 0 then (some false) else (if t343 = t340 then ((laws_toJoin.f kj65 l0_0 l0_1 a0_2).bind fun bt344 => ((impl_RaiseJoin.f kj65 bt344.1 bt344.2.1 bt344.2.2 a1 a2).bind fun bt351 => ((laws_eqJoin.f kj65 bt351.1 bt351.2.1 bt351.2.2.1 t301 t304 t307).bind fun t360 => (if t360 = true then (laws_FnExactRaiseJoin.j2 kj65 t340 (bt351.2.2.2 != t308) t341 t342 t324) else (laws_FnExactRaiseJoin.j2 kj65 t340 true t341 t342 t324))))) else (some false))) = some r := H
         have A98 := Aside0.mk A980
         clear A980
         by_cases c99 : t343 < 0
         ·
          rw [if_pos c99] at H
          have c99b0 : decide (t343 < 0) = true := decide_eq_true c99
          clear c99
          obtain rfl := Option.some.inj H
          have hnb100 := NB326_292.out
          have hnc100 := NB292_326.out
          have hnb101 := NB326_309.out
          have hnc101 := NB309_326.out
          have hnb102 := NB326_317.out
          have hnc102 := NB317_326.out
          have hcz103_0 : wc.cell? ⟨gb326, 0, none⟩ = some (.slice Ao37 t318.length co37) := (ql BK326.out 0).trans rfl
          have hcz103_1 : wc.cell? ⟨gb326, 1, none⟩ = some (.slice Ao42 t321.length co42) := (ql BK326.out 1).trans rfl
          have hcz103_2 : wc.cell? ⟨gb326, 2, none⟩ = some (.int .i64 t324) := (ql BK326.out 2).trans rfl
          have hfz103_0 := qn BK326.out 0
          have hfz103_1 := qn BK326.out 1
          have hfz103_2 := qn BK326.out 2
          go_wp2_with (first | ((with_reducible refine qz (f := 36) rfl ?_); refine goesL_ (some 72) rfl rfl Try.func36 (by kernel_rfl) rfl #[.agg #[.slice Ao37 t318.length co37, .slice Ao42 t321.length co42, .int .i64 t324], .int .i64 1] rfl (by (try simp only [List.map_toArray, List.map_cons, List.map_nil]); first | done | rfl | (simp only [List.length_drop, List.length_take]; rfl)) ?_; (with_reducible refine (laws_markJoin.calls kj65 (fun k_ => some k_ = (.slice Ao37 t318.length co37 : Value).ownBlock) (.slice Ao37 t318.length co37) t318 (fun k_ => some k_ = (.slice Ao42 t321.length co42 : Value).ownBlock) (.slice Ao42 t321.length co42) t321 t324 1 t340 t341 t342 w _ ?side1 ?side2 ?side3 ?side4 ?side5 A97.out).mono ?_); (case side1 => repeat (first | (with_reducible first | exact HB.out | apply qo | apply qk | apply qm | refine qd ?_ GE292.out | refine qd ?_ GE309.out | refine qd ?_ GE317.out | refine qd ?_ GE326.out) | exact HB.out)); (case side2 => exact Kd.R_tight rfl HO_327000.out); (case side3 => exact fun k_ e_ => (HO_327000.out.1 k_ e_.symm).2.2.2.2); (case side4 => exact Kd.R_tight rfl HO_327001.out); (case side5 => exact fun k_ e_ => (HO_327001.out.1 k_ e_.symm).2.2.2.2); rintro e w104 ⟨rfl, hy0, hy1, hb, hkp⟩; refine ⟨_, rfl, ?_⟩; have n0_ := Aside0.mk (qi (ok' := fun k_ => some k_ ≠ (.slice Ao26 t304.length co26 : Value).ownBlock ∧ some k_ ≠ (.slice Ao30 t337.length co30 : Value).ownBlock ∧ some k_ ≠ (.slice Ao34 t338.length co34 : Value).ownBlock ∧ some k_ ≠ (.slice Ao37 t318.length co37 : Value).ownBlock ∧ some k_ ≠ (.slice Ao42 t321.length co42 : Value).ownBlock) (Kd.R_keptB (HO_310000.out) hkp (fun k_ hk_ hs_ => Or.elim hs_ (fun e_ => (hk_.2.2.2.1) e_) (fun e_ => (hk_.2.2.2.2) e_))) (fun k_ hk_ => ⟨hk_.1.1, hk_.1.2.1, hk_.1.2.2.1, hk_.1.2.2.2.1, hk_.1.2.2.2.2⟩)); have n1_ := Aside0.mk (qi (ok' := fun k_ => some k_ ≠ (.slice Ao23 t301.length co23 : Value).ownBlock ∧ some k_ ≠ (.slice Ao30 t337.length co30 : Value).ownBlock ∧ some k_ ≠ (.slice Ao34 t338.length co34 : Value).ownBlock ∧ some k_ ≠ (.slice Ao37 t318.length co37 : Value).ownBlock ∧ some k_ ≠ (.slice Ao42 t321.length co42 : Value).ownBlock) (Kd.R_keptB (HO_310001.out) hkp (fun k_ hk_ hs_ => Or.elim hs_ (fun e_ => (hk_.2.2.2.1) e_) (fun e_ => (hk_.2.2.2.2) e_))) (fun k_ hk_ => ⟨hk_.1.1, hk_.1.2.1, hk_.1.2.2.1, hk_.1.2.2.2.1, hk_.1.2.2.2.2⟩)); have n2_ := Aside0.mk (qi (ok' := fun k_ => some k_ ≠ (.slice Ao23 t301.length co23 : Value).ownBlock ∧ some k_ ≠ (.slice Ao26 t304.length co26 : Value).ownBlock ∧ some k_ ≠ (.slice Ao34 t338.length co34 : Value).ownBlock ∧ some k_ ≠ (.slice Ao37 t318.length co37 : Value).ownBlock ∧ some k_ ≠ (.slice Ao42 t321.length co42 : Value).ownBlock) (Kd.R_keptB (HO_318000.out) hkp (fun k_ hk_ hs_ => Or.elim hs_ (fun e_ => (hk_.2.2.2.1) e_) (fun e_ => (hk_.2.2.2.2) e_))) (fun k_ hk_ => ⟨hk_.1.1, hk_.1.2.1, hk_.1.2.2.1, hk_.1.2.2.2.1, hk_.1.2.2.2.2⟩)); have n3_ := Aside0.mk (qi (ok' := fun k_ => some k_ ≠ (.slice Ao23 t301.length co23 : Value).ownBlock ∧ some k_ ≠ (.slice Ao26 t304.length co26 : Value).ownBlock ∧ some k_ ≠ (.slice Ao30 t337.length co30 : Value).ownBlock ∧ some k_ ≠ (.slice Ao37 t318.length co37 : Value).ownBlock ∧ some k_ ≠ (.slice Ao42 t321.length co42 : Value).ownBlock) (Kd.R_keptB (HO_318001.out) hkp (fun k_ hk_ hs_ => Or.elim hs_ (fun e_ => (hk_.2.2.2.1) e_) (fun e_ => (hk_.2.2.2.2) e_))) (fun k_ hk_ => ⟨hk_.1.1, hk_.1.2.1, hk_.1.2.2.1, hk_.1.2.2.2.1, hk_.1.2.2.2.2⟩)); have n4_ := Aside0.mk (Kd.R_reok rfl hy0 (fun k_ e_ => HO_327000.out.1 k_ e_)); have n5_ := Aside0.mk (Kd.R_reok rfl hy1 (fun k_ e_ => HO_327001.out.1 k_ e_)); have n6_ := Aside0.mk (blk_kept (by (with_reducible repeat (first | refine qe ?_ _ | refine qh ?_ | refine qf ?_ _)); exact BK292.out) hkp (fun hs_ => Or.elim hs_ (fun e_ => (fun e_ => (ja HO_327000.out BK292.out (by decide)) e_) e_) (fun e_ => (fun e_ => (ja HO_327001.out BK292.out (by decide)) e_) e_))); have n7_ := Aside0.mk (blk_kept (by (with_reducible repeat (first | refine qe ?_ _ | refine qh ?_ | refine qf ?_ _)); exact BK309.out) hkp (fun hs_ => Or.elim hs_ (fun e_ => (fun e_ => (ja HO_327000.out BK309.out (by decide)) e_) e_) (fun e_ => (fun e_ => (ja HO_327001.out BK309.out (by decide)) e_) e_))); have n8_ := Aside0.mk (blk_kept (by (with_reducible repeat (first | refine qe ?_ _ | refine qh ?_ | refine qf ?_ _)); exact BK317.out) hkp (fun hs_ => Or.elim hs_ (fun e_ => (fun e_ => (ja HO_327000.out BK317.out (by decide)) e_) e_) (fun e_ => (fun e_ => (ja HO_327001.out BK317.out (by decide)) e_) e_))); have n9_ := Aside0.mk (blk_kept (by (with_reducible repeat (first | refine qe ?_ _ | refine qh ?_ | refine qf ?_ _)); exact BK326.out) hkp (fun hs_ => Or.elim hs_ (fun e_ => (fun e_ => (ja HO_327000.out BK326.out (by decide)) e_) e_) (fun e_ => (fun e_ => (ja HO_327001.out BK326.out (by decide)) e_) e_))); have n10_ := Aside0.mk (hb); clear HO_310000; clear HO_310001; clear HO_318000; clear HO_318001; clear HO_327000; clear HO_327001; clear BK292; clear BK309; clear BK317; clear BK326; clear HB; have HO_310000 := n0_; have HO_310001 := n1_; have HO_318000 := n2_; have HO_318001 := n3_; have HO_327000 := n4_; have HO_327001 := n5_; have BK292 := n6_; have BK309 := n7_; have BK317 := n8_; have BK326 := n9_; have HB := n10_; clear n0_ n1_ n2_ n3_ n4_ n5_ n6_ n7_ n8_ n9_ n10_; (try clear hb); (try clear hkp); (try clear hy0); (try clear hy1); have hcz105_0 : w104.cell? ⟨gb326, 0, none⟩ = some (.slice Ao37 t318.length co37) := (ql BK326.out 0).trans rfl; have hcz105_1 : w104.cell? ⟨gb326, 1, none⟩ = some (.slice Ao42 t321.length co42) := (ql BK326.out 1).trans rfl; have hcz105_2 : w104.cell? ⟨gb326, 2, none⟩ = some (.int .i64 t324) := (ql BK326.out 2).trans rfl; have hfz105_0 := qn BK326.out 0; have hfz105_1 := qn BK326.out 1; have hfz105_2 := qn BK326.out 2) | ((with_reducible refine qz (f := 37) rfl ?_); refine goesL_ (some 75) rfl rfl Try.func37 (by kernel_rfl) rfl #[.agg #[.slice Ao37 t341.length co37, .slice Ao42 t342.length co42, .int .i64 t324], .int .i64 1] rfl (by (try simp only [List.map_toArray, List.map_cons, List.map_nil]); first | done | (rw [show t341.length = t318.length from (Kd.R_reads' HO_327000.out).1.symm, show t342.length = t321.length from (Kd.R_reads' HO_327001.out).1.symm] <;> rfl) | rfl | (simp only [List.length_drop, List.length_take]; rfl)) ?_; (with_reducible refine (laws_heldJoin.calls kj65 _ _ t341 _ _ t342 t324 1 t343 _ ?side1 ?side2 ?side3 ?side4 A98.out).mono ?_); (case side1 => repeat (first | exact (Kd.R_reads' HO_327000.out).2.2 | (with_reducible refine qt ?_ _) | (with_reducible refine qu ?_ _) | (with_reducible refine qv ?_))); (case side2 => rw [show t341.length = t318.length from (Kd.R_reads' HO_327000.out).1.symm]; exact (Kd.R_reads' HO_327000.out).2.1); (case side3 => repeat (first | exact (Kd.R_reads' HO_327001.out).2.2 | (with_reducible refine qt ?_ _) | (with_reducible refine qu ?_ _) | (with_reducible refine qv ?_))); (case side4 => rw [show t342.length = t321.length from (Kd.R_reads' HO_327001.out).1.symm]; exact (Kd.R_reads' HO_327001.out).2.1); rintro e w106 ⟨rfl, hb⟩; refine ⟨_, rfl, ?_⟩; have n0_ := Aside0.mk (qj (by (with_reducible repeat (first | apply qa | apply qb | apply qc)); exact HO_310000.out) hb); have n1_ := Aside0.mk (qj (by (with_reducible repeat (first | apply qa | apply qb | apply qc)); exact HO_310001.out) hb); have n2_ := Aside0.mk (qj (by (with_reducible repeat (first | apply qa | apply qb | apply qc)); exact HO_318000.out) hb); have n3_ := Aside0.mk (qj (by (with_reducible repeat (first | apply qa | apply qb | apply qc)); exact HO_318001.out) hb); have n4_ := Aside0.mk (qj (by (with_reducible repeat (first | apply qa | apply qb | apply qc)); exact HO_327000.out) hb); have n5_ := Aside0.mk (qj (by (with_reducible repeat (first | apply qa | apply qb | apply qc)); exact HO_327001.out) hb); have n6_ := Aside0.mk (qp (g := gb292) (o := .cells #[.slice A0_0 l0_0.length c0_0, .slice A0_1 l0_1.length c0_1, .int .i64 a0_2] 24 (0, 0)) (by (with_reducible repeat (first | refine qe ?_ _ | refine qh ?_ | refine qf ?_ _)); exact BK292.out) hb); have n7_ := Aside0.mk (qp (g := gb309) (o := .cells #[.slice Ao23 t301.length co23, .slice Ao26 t304.length co26, .int .i64 t307] 29 (0, 0)) (by (with_reducible repeat (first | refine qe ?_ _ | refine qh ?_ | refine qf ?_ _)); exact BK309.out) hb); have n8_ := Aside0.mk (qp (g := gb317) (o := .cells #[.slice Ao30 t337.length co30, .slice Ao34 t338.length co34, .int .i64 t316] 29 (0, 0)) (by (with_reducible repeat (first | refine qe ?_ _ | refine qh ?_ | refine qf ?_ _)); exact BK317.out) hb); have n9_ := Aside0.mk (qp (g := gb326) (o := .cells #[.slice Ao37 t318.length co37, .slice Ao42 t321.length co42, .int .i64 t324] 29 (0, 0)) (by (with_reducible repeat (first | refine qe ?_ _ | refine qh ?_ | refine qf ?_ _)); exact BK326.out) hb); have n10_ := Aside0.mk (qx (by repeat (first | (with_reducible first | exact HB.out | apply qo | apply qk | apply qm | refine qd ?_ GE292.out | refine qd ?_ GE309.out | refine qd ?_ GE317.out | refine qd ?_ GE326.out) | exact HB.out)) hb); clear HO_310000; clear HO_310001; clear HO_318000; clear HO_318001; clear HO_327000; clear HO_327001; clear BK292; clear BK309; clear BK317; clear BK326; clear HB; have HO_310000 := n0_; have HO_310001 := n1_; have HO_318000 := n2_; have HO_318001 := n3_; have HO_327000 := n4_; have HO_327001 := n5_; have BK292 := n6_; have BK309 := n7_; have BK317 := n8_; have BK326 := n9_; have HB := n10_; clear n0_ n1_ n2_ n3_ n4_ n5_ n6_ n7_ n8_ n9_ n10_; (try clear hb); (try clear hb2); (try clear hk); (try clear hi)))
          go_ret
          exact ⟨by first | rfl | (simp [errW_none, errW_some] <;> rfl) | (simp [*, errW_none, errW_some] <;> rfl), by repeat (first | (with_reducible first | exact HB.out | apply qo | apply qk | apply qm | refine qd ?_ GE292.out | refine qd ?_ GE309.out | refine qd ?_ GE317.out | refine qd ?_ GE326.out) | exact HB.out)⟩
         ·
          rw [if_neg c99] at H
          have c99b0 : decide (t343 < 0) = false := decide_eq_false c99
          clear c99
          by_cases c107 : t343 = t340
          ·
           rw [if_pos c107] at H
           have c107b0 : (t343 == t340) = true := beq_iff_eq.mpr c107
           have c107b1 : (t343 != t340) = false := bne_eq_false_iff_eq.mpr c107
           clear c107
           replace H := Option.bind_eq_some_iff.mp H
           obtain ⟨⟨t344, t347, t350⟩, A1080, H⟩ := H
           replace H : ((impl_RaiseJoin.f kj65 t344 t347 t350 a1 a2).bind fun bt351 => ((laws_eqJoin.f kj65 bt351.1 bt351.2.1 bt351.2.2.1 t301 t304 t307).bind fun t360 => (if t360 = true then (laws_FnExactRaiseJoin.j2 kj65 t340 (bt351.2.2.2 != t308) t341 t342 t324) else (laws_FnExactRaiseJoin.j2 kj65 t340 true t341 t342 t324)))) = some r := H
           have A108 := Aside0.mk A1080
           clear A1080
           replace H := Option.bind_eq_some_iff.mp H
           obtain ⟨⟨t351, t354, t357, t358⟩, A1090, H⟩ := H
           replace H : ((laws_eqJoin.f kj65 t351 t354 t357 t301 t304 t307).bind fun t360 => (if t360 = true then (laws_FnExactRaiseJoin.j2 kj65 t340 (t358 != t308) t341 t342 t324) else (laws_FnExactRaiseJoin.j2 kj65 t340 true t341 t342 t324))) = some r := H
           have A109 := Aside0.mk A1090
           clear A1090
           have HC110 := Aside0.mk H
           clear H
           have hnb111 := NB326_292.out
           have hnc111 := NB292_326.out
           have hnb112 := NB326_309.out
           have hnc112 := NB309_326.out
           have hnb113 := NB326_317.out
           have hnc113 := NB317_326.out
           have hcz114_0 : wc.cell? ⟨gb326, 0, none⟩ = some (.slice Ao37 t318.length co37) := (ql BK326.out 0).trans rfl
           have hcz114_1 : wc.cell? ⟨gb326, 1, none⟩ = some (.slice Ao42 t321.length co42) := (ql BK326.out 1).trans rfl
           have hcz114_2 : wc.cell? ⟨gb326, 2, none⟩ = some (.int .i64 t324) := (ql BK326.out 2).trans rfl
           have hfz114_0 := qn BK326.out 0
           have hfz114_1 := qn BK326.out 1
           have hfz114_2 := qn BK326.out 2
           go_upto_region 25 with (first | ((with_reducible refine qz (f := 36) rfl ?_); refine goesL_ (some 72) rfl rfl Try.func36 (by kernel_rfl) rfl #[.agg #[.slice Ao37 t318.length co37, .slice Ao42 t321.length co42, .int .i64 t324], .int .i64 1] rfl (by (try simp only [List.map_toArray, List.map_cons, List.map_nil]); first | done | rfl | (simp only [List.length_drop, List.length_take]; rfl)) ?_; (with_reducible refine (laws_markJoin.calls kj65 (fun k_ => some k_ = (.slice Ao37 t318.length co37 : Value).ownBlock) (.slice Ao37 t318.length co37) t318 (fun k_ => some k_ = (.slice Ao42 t321.length co42 : Value).ownBlock) (.slice Ao42 t321.length co42) t321 t324 1 t340 t341 t342 w _ ?side1 ?side2 ?side3 ?side4 ?side5 A97.out).mono ?_); (case side1 => repeat (first | (with_reducible first | exact HB.out | apply qo | apply qk | apply qm | refine qd ?_ GE292.out | refine qd ?_ GE309.out | refine qd ?_ GE317.out | refine qd ?_ GE326.out) | exact HB.out)); (case side2 => exact Kd.R_tight rfl HO_327000.out); (case side3 => exact fun k_ e_ => (HO_327000.out.1 k_ e_.symm).2.2.2.2); (case side4 => exact Kd.R_tight rfl HO_327001.out); (case side5 => exact fun k_ e_ => (HO_327001.out.1 k_ e_.symm).2.2.2.2); rintro e w115 ⟨rfl, hy0, hy1, hb, hkp⟩; refine ⟨_, rfl, ?_⟩; have n0_ := Aside0.mk (qi (ok' := fun k_ => some k_ ≠ (.slice Ao26 t304.length co26 : Value).ownBlock ∧ some k_ ≠ (.slice Ao30 t337.length co30 : Value).ownBlock ∧ some k_ ≠ (.slice Ao34 t338.length co34 : Value).ownBlock ∧ some k_ ≠ (.slice Ao37 t318.length co37 : Value).ownBlock ∧ some k_ ≠ (.slice Ao42 t321.length co42 : Value).ownBlock) (Kd.R_keptB (HO_310000.out) hkp (fun k_ hk_ hs_ => Or.elim hs_ (fun e_ => (hk_.2.2.2.1) e_) (fun e_ => (hk_.2.2.2.2) e_))) (fun k_ hk_ => ⟨hk_.1.1, hk_.1.2.1, hk_.1.2.2.1, hk_.1.2.2.2.1, hk_.1.2.2.2.2⟩)); have n1_ := Aside0.mk (qi (ok' := fun k_ => some k_ ≠ (.slice Ao23 t301.length co23 : Value).ownBlock ∧ some k_ ≠ (.slice Ao30 t337.length co30 : Value).ownBlock ∧ some k_ ≠ (.slice Ao34 t338.length co34 : Value).ownBlock ∧ some k_ ≠ (.slice Ao37 t318.length co37 : Value).ownBlock ∧ some k_ ≠ (.slice Ao42 t321.length co42 : Value).ownBlock) (Kd.R_keptB (HO_310001.out) hkp (fun k_ hk_ hs_ => Or.elim hs_ (fun e_ => (hk_.2.2.2.1) e_) (fun e_ => (hk_.2.2.2.2) e_))) (fun k_ hk_ => ⟨hk_.1.1, hk_.1.2.1, hk_.1.2.2.1, hk_.1.2.2.2.1, hk_.1.2.2.2.2⟩)); have n2_ := Aside0.mk (qi (ok' := fun k_ => some k_ ≠ (.slice Ao23 t301.length co23 : Value).ownBlock ∧ some k_ ≠ (.slice Ao26 t304.length co26 : Value).ownBlock ∧ some k_ ≠ (.slice Ao34 t338.length co34 : Value).ownBlock ∧ some k_ ≠ (.slice Ao37 t318.length co37 : Value).ownBlock ∧ some k_ ≠ (.slice Ao42 t321.length co42 : Value).ownBlock) (Kd.R_keptB (HO_318000.out) hkp (fun k_ hk_ hs_ => Or.elim hs_ (fun e_ => (hk_.2.2.2.1) e_) (fun e_ => (hk_.2.2.2.2) e_))) (fun k_ hk_ => ⟨hk_.1.1, hk_.1.2.1, hk_.1.2.2.1, hk_.1.2.2.2.1, hk_.1.2.2.2.2⟩)); have n3_ := Aside0.mk (qi (ok' := fun k_ => some k_ ≠ (.slice Ao23 t301.length co23 : Value).ownBlock ∧ some k_ ≠ (.slice Ao26 t304.length co26 : Value).ownBlock ∧ some k_ ≠ (.slice Ao30 t337.length co30 : Value).ownBlock ∧ some k_ ≠ (.slice Ao37 t318.length co37 : Value).ownBlock ∧ some k_ ≠ (.slice Ao42 t321.length co42 : Value).ownBlock) (Kd.R_keptB (HO_318001.out) hkp (fun k_ hk_ hs_ => Or.elim hs_ (fun e_ => (hk_.2.2.2.1) e_) (fun e_ => (hk_.2.2.2.2) e_))) (fun k_ hk_ => ⟨hk_.1.1, hk_.1.2.1, hk_.1.2.2.1, hk_.1.2.2.2.1, hk_.1.2.2.2.2⟩)); have n4_ := Aside0.mk (Kd.R_reok rfl hy0 (fun k_ e_ => HO_327000.out.1 k_ e_)); have n5_ := Aside0.mk (Kd.R_reok rfl hy1 (fun k_ e_ => HO_327001.out.1 k_ e_)); have n6_ := Aside0.mk (blk_kept (by (with_reducible repeat (first | refine qe ?_ _ | refine qh ?_ | refine qf ?_ _)); exact BK292.out) hkp (fun hs_ => Or.elim hs_ (fun e_ => (fun e_ => (ja HO_327000.out BK292.out (by decide)) e_) e_) (fun e_ => (fun e_ => (ja HO_327001.out BK292.out (by decide)) e_) e_))); have n7_ := Aside0.mk (blk_kept (by (with_reducible repeat (first | refine qe ?_ _ | refine qh ?_ | refine qf ?_ _)); exact BK309.out) hkp (fun hs_ => Or.elim hs_ (fun e_ => (fun e_ => (ja HO_327000.out BK309.out (by decide)) e_) e_) (fun e_ => (fun e_ => (ja HO_327001.out BK309.out (by decide)) e_) e_))); have n8_ := Aside0.mk (blk_kept (by (with_reducible repeat (first | refine qe ?_ _ | refine qh ?_ | refine qf ?_ _)); exact BK317.out) hkp (fun hs_ => Or.elim hs_ (fun e_ => (fun e_ => (ja HO_327000.out BK317.out (by decide)) e_) e_) (fun e_ => (fun e_ => (ja HO_327001.out BK317.out (by decide)) e_) e_))); have n9_ := Aside0.mk (blk_kept (by (with_reducible repeat (first | refine qe ?_ _ | refine qh ?_ | refine qf ?_ _)); exact BK326.out) hkp (fun hs_ => Or.elim hs_ (fun e_ => (fun e_ => (ja HO_327000.out BK326.out (by decide)) e_) e_) (fun e_ => (fun e_ => (ja HO_327001.out BK326.out (by decide)) e_) e_))); have n10_ := Aside0.mk (hb); clear HO_310000; clear HO_310001; clear HO_318000; clear HO_318001; clear HO_327000; clear HO_327001; clear BK292; clear BK309; clear BK317; clear BK326; clear HB; have HO_310000 := n0_; have HO_310001 := n1_; have HO_318000 := n2_; have HO_318001 := n3_; have HO_327000 := n4_; have HO_327001 := n5_; have BK292 := n6_; have BK309 := n7_; have BK317 := n8_; have BK326 := n9_; have HB := n10_; clear n0_ n1_ n2_ n3_ n4_ n5_ n6_ n7_ n8_ n9_ n10_; (try clear hb); (try clear hkp); (try clear hy0); (try clear hy1); have hcz116_0 : w115.cell? ⟨gb326, 0, none⟩ = some (.slice Ao37 t318.length co37) := (ql BK326.out 0).trans rfl; have hcz116_1 : w115.cell? ⟨gb326, 1, none⟩ = some (.slice Ao42 t321.length co42) := (ql BK326.out 1).trans rfl; have hcz116_2 : w115.cell? ⟨gb326, 2, none⟩ = some (.int .i64 t324) := (ql BK326.out 2).trans rfl; have hfz116_0 := qn BK326.out 0; have hfz116_1 := qn BK326.out 1; have hfz116_2 := qn BK326.out 2) | ((with_reducible refine qz (f := 37) rfl ?_); refine goesL_ (some 75) rfl rfl Try.func37 (by kernel_rfl) rfl #[.agg #[.slice Ao37 t341.length co37, .slice Ao42 t342.length co42, .int .i64 t324], .int .i64 1] rfl (by (try simp only [List.map_toArray, List.map_cons, List.map_nil]); first | done | (rw [show t341.length = t318.length from (Kd.R_reads' HO_327000.out).1.symm, show t342.length = t321.length from (Kd.R_reads' HO_327001.out).1.symm] <;> rfl) | rfl | (simp only [List.length_drop, List.length_take]; rfl)) ?_; (with_reducible refine (laws_heldJoin.calls kj65 _ _ t341 _ _ t342 t324 1 t343 _ ?side1 ?side2 ?side3 ?side4 A98.out).mono ?_); (case side1 => repeat (first | exact (Kd.R_reads' HO_327000.out).2.2 | (with_reducible refine qt ?_ _) | (with_reducible refine qu ?_ _) | (with_reducible refine qv ?_))); (case side2 => rw [show t341.length = t318.length from (Kd.R_reads' HO_327000.out).1.symm]; exact (Kd.R_reads' HO_327000.out).2.1); (case side3 => repeat (first | exact (Kd.R_reads' HO_327001.out).2.2 | (with_reducible refine qt ?_ _) | (with_reducible refine qu ?_ _) | (with_reducible refine qv ?_))); (case side4 => rw [show t342.length = t321.length from (Kd.R_reads' HO_327001.out).1.symm]; exact (Kd.R_reads' HO_327001.out).2.1); rintro e w117 ⟨rfl, hb⟩; refine ⟨_, rfl, ?_⟩; have n0_ := Aside0.mk (qj (by (with_reducible repeat (first | apply qa | apply qb | apply qc)); exact HO_310000.out) hb); have n1_ := Aside0.mk (qj (by (with_reducible repeat (first | apply qa | apply qb | apply qc)); exact HO_310001.out) hb); have n2_ := Aside0.mk (qj (by (with_reducible repeat (first | apply qa | apply qb | apply qc)); exact HO_318000.out) hb); have n3_ := Aside0.mk (qj (by (with_reducible repeat (first | apply qa | apply qb | apply qc)); exact HO_318001.out) hb); have n4_ := Aside0.mk (qj (by (with_reducible repeat (first | apply qa | apply qb | apply qc)); exact HO_327000.out) hb); have n5_ := Aside0.mk (qj (by (with_reducible repeat (first | apply qa | apply qb | apply qc)); exact HO_327001.out) hb); have n6_ := Aside0.mk (qp (g := gb292) (o := .cells #[.slice A0_0 l0_0.length c0_0, .slice A0_1 l0_1.length c0_1, .int .i64 a0_2] 24 (0, 0)) (by (with_reducible repeat (first | refine qe ?_ _ | refine qh ?_ | refine qf ?_ _)); exact BK292.out) hb); have n7_ := Aside0.mk (qp (g := gb309) (o := .cells #[.slice Ao23 t301.length co23, .slice Ao26 t304.length co26, .int .i64 t307] 29 (0, 0)) (by (with_reducible repeat (first | refine qe ?_ _ | refine qh ?_ | refine qf ?_ _)); exact BK309.out) hb); have n8_ := Aside0.mk (qp (g := gb317) (o := .cells #[.slice Ao30 t337.length co30, .slice Ao34 t338.length co34, .int .i64 t316] 29 (0, 0)) (by (with_reducible repeat (first | refine qe ?_ _ | refine qh ?_ | refine qf ?_ _)); exact BK317.out) hb); have n9_ := Aside0.mk (qp (g := gb326) (o := .cells #[.slice Ao37 t318.length co37, .slice Ao42 t321.length co42, .int .i64 t324] 29 (0, 0)) (by (with_reducible repeat (first | refine qe ?_ _ | refine qh ?_ | refine qf ?_ _)); exact BK326.out) hb); have n10_ := Aside0.mk (qx (by repeat (first | (with_reducible first | exact HB.out | apply qo | apply qk | apply qm | refine qd ?_ GE292.out | refine qd ?_ GE309.out | refine qd ?_ GE317.out | refine qd ?_ GE326.out) | exact HB.out)) hb); clear HO_310000; clear HO_310001; clear HO_318000; clear HO_318001; clear HO_327000; clear HO_327001; clear BK292; clear BK309; clear BK317; clear BK326; clear HB; have HO_310000 := n0_; have HO_310001 := n1_; have HO_318000 := n2_; have HO_318001 := n3_; have HO_327000 := n4_; have HO_327001 := n5_; have BK292 := n6_; have BK309 := n7_; have BK317 := n8_; have BK326 := n9_; have HB := n10_; clear n0_ n1_ n2_ n3_ n4_ n5_ n6_ n7_ n8_ n9_ n10_; (try clear hb); (try clear hb2); (try clear hk); (try clear hi); have hnb118 := NB292_309.out; have hnc118 := NB309_292.out; have hnb119 := NB292_317.out; have hnc119 := NB317_292.out; have hcz120_0 : w117.cell? ⟨gb292, 0, none⟩ = some (.slice A0_0 l0_0.length c0_0) := (ql BK292.out 0).trans rfl; have hcz120_1 : w117.cell? ⟨gb292, 1, none⟩ = some (.slice A0_1 l0_1.length c0_1) := (ql BK292.out 1).trans rfl; have hcz120_2 : w117.cell? ⟨gb292, 2, none⟩ = some (.int .i64 a0_2) := (ql BK292.out 2).trans rfl; have hfz120_0 := qn BK292.out 0; have hfz120_1 := qn BK292.out 1; have hfz120_2 := qn BK292.out 2) | ((with_reducible refine qz (f := 15) rfl ?_); refine goesL_ (some 83) rfl rfl Try.func15 (by kernel_rfl) rfl #[.agg #[.slice A0_0 l0_0.length c0_0, .slice A0_1 l0_1.length c0_1, .int .i64 a0_2]] rfl (by (try simp only [List.map_toArray, List.map_cons, List.map_nil]); first | done | rfl | (simp only [List.length_drop, List.length_take]; rfl)) ?_; (with_reducible refine (laws_toJoin.calls kj65 _ _ l0_0 _ _ l0_1 a0_2 t344 t347 t350 _ ?side1 ?side2 ?side3 ?side4 A108.out).mono ?_); (case side1 => repeat (first | exact (Kd.C_below HR0_0.out HB.out) | (with_reducible refine qt ?_ _) | (with_reducible refine qu ?_ _) | (with_reducible refine qv ?_))); (case side2 => exact HC0_0.out); (case side3 => repeat (first | exact (Kd.C_below HR0_1.out HB.out) | (with_reducible refine qt ?_ _) | (with_reducible refine qu ?_ _) | (with_reducible refine qv ?_))); (case side4 => exact HC0_1.out); rintro e w121 ⟨v345, v348, rfl, ho0, ho1, hb⟩; refine ⟨_, rfl, ?_⟩; have n0_ := Aside0.mk (qi (Kd.R_told (Kd.R_told (Kd.R_old (by (with_reducible repeat (first | apply qa | apply qb | apply qc)); exact HO_310000.out) hb) (qr ho0)) (qr ho1)) (fun _ h_ => h_.1)); have n1_ := Aside0.mk (qi (Kd.R_told (Kd.R_told (Kd.R_old (by (with_reducible repeat (first | apply qa | apply qb | apply qc)); exact HO_310001.out) hb) (qr ho0)) (qr ho1)) (fun _ h_ => h_.1)); have n2_ := Aside0.mk (qi (Kd.R_told (Kd.R_told (Kd.R_old (by (with_reducible repeat (first | apply qa | apply qb | apply qc)); exact HO_318000.out) hb) (qr ho0)) (qr ho1)) (fun _ h_ => h_.1)); have n3_ := Aside0.mk (qi (Kd.R_told (Kd.R_told (Kd.R_old (by (with_reducible repeat (first | apply qa | apply qb | apply qc)); exact HO_318001.out) hb) (qr ho0)) (qr ho1)) (fun _ h_ => h_.1)); have n4_ := Aside0.mk (qi (Kd.R_told (Kd.R_told (Kd.R_old (by (with_reducible repeat (first | apply qa | apply qb | apply qc)); exact HO_327000.out) hb) (qr ho0)) (qr ho1)) (fun _ h_ => h_.1)); have n5_ := Aside0.mk (qi (Kd.R_told (Kd.R_told (Kd.R_old (by (with_reducible repeat (first | apply qa | apply qb | apply qc)); exact HO_327001.out) hb) (qr ho0)) (qr ho1)) (fun _ h_ => h_.1)); have n6_ := Aside0.mk (Kd.R_lower (Kd.R_new' (Kd.R_new' (Kd.R_new' (Kd.R_new' (Kd.R_new' (Kd.R_new' ho0 (qs (by (with_reducible repeat (first | apply qa | apply qb | apply qc)); exact HO_310000.out))) (qs (by (with_reducible repeat (first | apply qa | apply qb | apply qc)); exact HO_310001.out))) (qs (by (with_reducible repeat (first | apply qa | apply qb | apply qc)); exact HO_318000.out))) (qs (by (with_reducible repeat (first | apply qa | apply qb | apply qc)); exact HO_318001.out))) (qs (by (with_reducible repeat (first | apply qa | apply qb | apply qc)); exact HO_327000.out))) (qs (by (with_reducible repeat (first | apply qa | apply qb | apply qc)); exact HO_327001.out))) (qy (by repeat (first | (with_reducible first | exact HB.out | apply qo | apply qk | apply qm | refine qd ?_ GE292.out | refine qd ?_ GE309.out | refine qd ?_ GE317.out | refine qd ?_ GE326.out) | exact HB.out)))); have n7_ := Aside0.mk (Kd.R_lower (Kd.R_new' (Kd.R_new' (Kd.R_new' (Kd.R_new' (Kd.R_new' (Kd.R_new' ho1 (qs (by (with_reducible repeat (first | apply qa | apply qb | apply qc)); exact HO_310000.out))) (qs (by (with_reducible repeat (first | apply qa | apply qb | apply qc)); exact HO_310001.out))) (qs (by (with_reducible repeat (first | apply qa | apply qb | apply qc)); exact HO_318000.out))) (qs (by (with_reducible repeat (first | apply qa | apply qb | apply qc)); exact HO_318001.out))) (qs (by (with_reducible repeat (first | apply qa | apply qb | apply qc)); exact HO_327000.out))) (qs (by (with_reducible repeat (first | apply qa | apply qb | apply qc)); exact HO_327001.out))) (qy (by repeat (first | (with_reducible first | exact HB.out | apply qo | apply qk | apply qm | refine qd ?_ GE292.out | refine qd ?_ GE309.out | refine qd ?_ GE317.out | refine qd ?_ GE326.out) | exact HB.out)))); have n8_ := Aside0.mk (qp (g := gb292) (o := .cells #[.slice A0_0 l0_0.length c0_0, .slice A0_1 l0_1.length c0_1, .int .i64 a0_2] 24 (0, 0)) (by (with_reducible repeat (first | refine qe ?_ _ | refine qh ?_ | refine qf ?_ _)); exact BK292.out) hb); have n9_ := Aside0.mk (qp (g := gb309) (o := .cells #[.slice Ao23 t301.length co23, .slice Ao26 t304.length co26, .int .i64 t307] 29 (0, 0)) (by (with_reducible repeat (first | refine qe ?_ _ | refine qh ?_ | refine qf ?_ _)); exact BK309.out) hb); have n10_ := Aside0.mk (qp (g := gb317) (o := .cells #[.slice Ao30 t337.length co30, .slice Ao34 t338.length co34, .int .i64 t316] 29 (0, 0)) (by (with_reducible repeat (first | refine qe ?_ _ | refine qh ?_ | refine qf ?_ _)); exact BK317.out) hb); have n11_ := Aside0.mk (qp (g := gb326) (o := .cells #[.slice Ao37 t318.length co37, .slice Ao42 t321.length co42, .int .i64 t324] 29 (0, 0)) (by (with_reducible repeat (first | refine qe ?_ _ | refine qh ?_ | refine qf ?_ _)); exact BK326.out) hb); have n12_ := Aside0.mk (qx (by repeat (first | (with_reducible first | exact HB.out | apply qo | apply qk | apply qm | refine qd ?_ GE292.out | refine qd ?_ GE309.out | refine qd ?_ GE317.out | refine qd ?_ GE326.out) | exact HB.out)) hb); clear HO_310000; clear HO_310001; clear HO_318000; clear HO_318001; clear HO_327000; clear HO_327001; clear BK292; clear BK309; clear BK317; clear BK326; clear HB; have HO_310000 := n0_; have HO_310001 := n1_; have HO_318000 := n2_; have HO_318001 := n3_; have HO_327000 := n4_; have HO_327001 := n5_; have HO346 := n6_; have HO349 := n7_; have BK292 := n8_; have BK309 := n9_; have BK317 := n10_; have BK326 := n11_; have HB := n12_; clear n0_ n1_ n2_ n3_ n4_ n5_ n6_ n7_ n8_ n9_ n10_ n11_ n12_; (try clear hb); (try clear hb2); (try clear hk); (try clear hi); (try clear ho0); (try clear ho1); obtain ⟨Ao122, co122, eo122⟩ := Kd.R_slice HO346.out; subst eo122; obtain ⟨Ao123, co123, eo123⟩ := Kd.R_slice HO349.out; subst eo123) | ((with_reducible refine qz (f := 35) rfl ?_); refine goesL_ (some 86) rfl rfl Try.func35 (by kernel_rfl) rfl #[.agg #[.slice Ao122 t344.length co122, .slice Ao123 t347.length co123, .int .i64 t350], .int .i64 a1, .int .i64 a2] rfl (by (try simp only [List.map_toArray, List.map_cons, List.map_nil]); first | done | rfl | (simp only [List.length_drop, List.length_take]; rfl)) ?_; (with_reducible refine (impl_RaiseJoin.calls kj65 _ _ t344 _ _ t347 t350 a1 a2 t351 t354 t357 t358 _ ?side1 ?side2 ?side3 ?side4 A109.out).mono ?_); (case side1 => repeat (first | exact (Kd.R_reads' HO346.out).2.2 | (with_reducible refine qt ?_ _) | (with_reducible refine qu ?_ _) | (with_reducible refine qv ?_))); (case side2 => exact (Kd.R_reads' HO346.out).2.1); (case side3 => repeat (first | exact (Kd.R_reads' HO349.out).2.2 | (with_reducible refine qt ?_ _) | (with_reducible refine qu ?_ _) | (with_reducible refine qv ?_))); (case side4 => exact (Kd.R_reads' HO349.out).2.1); rintro e w124 ⟨v352, v355, rfl, ho0, ho1, hb⟩; refine ⟨_, rfl, ?_⟩; have n0_ := Aside0.mk (qi (Kd.R_told (Kd.R_told (Kd.R_old (by (with_reducible repeat (first | apply qa | apply qb | apply qc)); exact HO_310000.out) hb) (qr ho0)) (qr ho1)) (fun _ h_ => h_.1)); have n1_ := Aside0.mk (qi (Kd.R_told (Kd.R_told (Kd.R_old (by (with_reducible repeat (first | apply qa | apply qb | apply qc)); exact HO_310001.out) hb) (qr ho0)) (qr ho1)) (fun _ h_ => h_.1)); have n2_ := Aside0.mk (qi (Kd.R_told (Kd.R_told (Kd.R_old (by (with_reducible repeat (first | apply qa | apply qb | apply qc)); exact HO_318000.out) hb) (qr ho0)) (qr ho1)) (fun _ h_ => h_.1)); have n3_ := Aside0.mk (qi (Kd.R_told (Kd.R_told (Kd.R_old (by (with_reducible repeat (first | apply qa | apply qb | apply qc)); exact HO_318001.out) hb) (qr ho0)) (qr ho1)) (fun _ h_ => h_.1)); have n4_ := Aside0.mk (qi (Kd.R_told (Kd.R_told (Kd.R_old (by (with_reducible repeat (first | apply qa | apply qb | apply qc)); exact HO_327000.out) hb) (qr ho0)) (qr ho1)) (fun _ h_ => h_.1)); have n5_ := Aside0.mk (qi (Kd.R_told (Kd.R_told (Kd.R_old (by (with_reducible repeat (first | apply qa | apply qb | apply qc)); exact HO_327001.out) hb) (qr ho0)) (qr ho1)) (fun _ h_ => h_.1)); have n6_ := Aside0.mk (qi (Kd.R_told (Kd.R_told (Kd.R_old (by (with_reducible repeat (first | apply qa | apply qb | apply qc)); exact HO346.out) hb) (qr ho0)) (qr ho1)) (fun _ h_ => h_.1)); have n7_ := Aside0.mk (qi (Kd.R_told (Kd.R_told (Kd.R_old (by (with_reducible repeat (first | apply qa | apply qb | apply qc)); exact HO349.out) hb) (qr ho0)) (qr ho1)) (fun _ h_ => h_.1)); have n8_ := Aside0.mk (Kd.R_lower (Kd.R_new' (Kd.R_new' (Kd.R_new' (Kd.R_new' (Kd.R_new' (Kd.R_new' (Kd.R_new' (Kd.R_new' ho0 (qs (by (with_reducible repeat (first | apply qa | apply qb | apply qc)); exact HO_310000.out))) (qs (by (with_reducible repeat (first | apply qa | apply qb | apply qc)); exact HO_310001.out))) (qs (by (with_reducible repeat (first | apply qa | apply qb | apply qc)); exact HO_318000.out))) (qs (by (with_reducible repeat (first | apply qa | apply qb | apply qc)); exact HO_318001.out))) (qs (by (with_reducible repeat (first | apply qa | apply qb | apply qc)); exact HO_327000.out))) (qs (by (with_reducible repeat (first | apply qa | apply qb | apply qc)); exact HO_327001.out))) (qs (by (with_reducible repeat (first | apply qa | apply qb | apply qc)); exact HO346.out))) (qs (by (with_reducible repeat (first | apply qa | apply qb | apply qc)); exact HO349.out))) (qy (by repeat (first | (with_reducible first | exact HB.out | apply qo | apply qk | apply qm | refine qd ?_ GE292.out | refine qd ?_ GE309.out | refine qd ?_ GE317.out | refine qd ?_ GE326.out) | exact HB.out)))); have n9_ := Aside0.mk (Kd.R_lower (Kd.R_new' (Kd.R_new' (Kd.R_new' (Kd.R_new' (Kd.R_new' (Kd.R_new' (Kd.R_new' (Kd.R_new' ho1 (qs (by (with_reducible repeat (first | apply qa | apply qb | apply qc)); exact HO_310000.out))) (qs (by (with_reducible repeat (first | apply qa | apply qb | apply qc)); exact HO_310001.out))) (qs (by (with_reducible repeat (first | apply qa | apply qb | apply qc)); exact HO_318000.out))) (qs (by (with_reducible repeat (first | apply qa | apply qb | apply qc)); exact HO_318001.out))) (qs (by (with_reducible repeat (first | apply qa | apply qb | apply qc)); exact HO_327000.out))) (qs (by (with_reducible repeat (first | apply qa | apply qb | apply qc)); exact HO_327001.out))) (qs (by (with_reducible repeat (first | apply qa | apply qb | apply qc)); exact HO346.out))) (qs (by (with_reducible repeat (first | apply qa | apply qb | apply qc)); exact HO349.out))) (qy (by repeat (first | (with_reducible first | exact HB.out | apply qo | apply qk | apply qm | refine qd ?_ GE292.out | refine qd ?_ GE309.out | refine qd ?_ GE317.out | refine qd ?_ GE326.out) | exact HB.out)))); have n10_ := Aside0.mk (qp (g := gb292) (o := .cells #[.slice A0_0 l0_0.length c0_0, .slice A0_1 l0_1.length c0_1, .int .i64 a0_2] 24 (0, 0)) (by (with_reducible repeat (first | refine qe ?_ _ | refine qh ?_ | refine qf ?_ _)); exact BK292.out) hb); have n11_ := Aside0.mk (qp (g := gb309) (o := .cells #[.slice Ao23 t301.length co23, .slice Ao26 t304.length co26, .int .i64 t307] 29 (0, 0)) (by (with_reducible repeat (first | refine qe ?_ _ | refine qh ?_ | refine qf ?_ _)); exact BK309.out) hb); have n12_ := Aside0.mk (qp (g := gb317) (o := .cells #[.slice Ao30 t337.length co30, .slice Ao34 t338.length co34, .int .i64 t316] 29 (0, 0)) (by (with_reducible repeat (first | refine qe ?_ _ | refine qh ?_ | refine qf ?_ _)); exact BK317.out) hb); have n13_ := Aside0.mk (qp (g := gb326) (o := .cells #[.slice Ao37 t318.length co37, .slice Ao42 t321.length co42, .int .i64 t324] 29 (0, 0)) (by (with_reducible repeat (first | refine qe ?_ _ | refine qh ?_ | refine qf ?_ _)); exact BK326.out) hb); have n14_ := Aside0.mk (qx (by repeat (first | (with_reducible first | exact HB.out | apply qo | apply qk | apply qm | refine qd ?_ GE292.out | refine qd ?_ GE309.out | refine qd ?_ GE317.out | refine qd ?_ GE326.out) | exact HB.out)) hb); clear HO_310000; clear HO_310001; clear HO_318000; clear HO_318001; clear HO_327000; clear HO_327001; clear HO346; clear HO349; clear BK292; clear BK309; clear BK317; clear BK326; clear HB; have HO_310000 := n0_; have HO_310001 := n1_; have HO_318000 := n2_; have HO_318001 := n3_; have HO_327000 := n4_; have HO_327001 := n5_; have HO346 := n6_; have HO349 := n7_; have HO353 := n8_; have HO356 := n9_; have BK292 := n10_; have BK309 := n11_; have BK317 := n12_; have BK326 := n13_; have HB := n14_; clear n0_ n1_ n2_ n3_ n4_ n5_ n6_ n7_ n8_ n9_ n10_ n11_ n12_ n13_ n14_; (try clear hb); (try clear hb2); (try clear hk); (try clear hi); (try clear ho0); (try clear ho1)) | ((with_reducible refine gate_dst (N := 16) rfl ?_); refine box_event ?hg (N := 16) ?hd (cs := #[.slice none 0 0, .slice none 0 0, .int .i64 0]) (t := 29) ?hr ?_; (case hd => rfl); (case hg => rfl); (case hr => first | (go_simp; done) | (go_simp; rfl)); intro gb359 hg w125 hbox hb; have n0_ := Aside0.mk (qj (by (with_reducible repeat (first | apply qa | apply qb | apply qc)); exact HO_310000.out) hb); have n1_ := Aside0.mk (qj (by (with_reducible repeat (first | apply qa | apply qb | apply qc)); exact HO_310001.out) hb); have n2_ := Aside0.mk (qj (by (with_reducible repeat (first | apply qa | apply qb | apply qc)); exact HO_318000.out) hb); have n3_ := Aside0.mk (qj (by (with_reducible repeat (first | apply qa | apply qb | apply qc)); exact HO_318001.out) hb); have n4_ := Aside0.mk (qj (by (with_reducible repeat (first | apply qa | apply qb | apply qc)); exact HO_327000.out) hb); have n5_ := Aside0.mk (qj (by (with_reducible repeat (first | apply qa | apply qb | apply qc)); exact HO_327001.out) hb); have n6_ := Aside0.mk (qj (by (with_reducible repeat (first | apply qa | apply qb | apply qc)); exact HO346.out) hb); have n7_ := Aside0.mk (qj (by (with_reducible repeat (first | apply qa | apply qb | apply qc)); exact HO349.out) hb); have n8_ := Aside0.mk (qj (by (with_reducible repeat (first | apply qa | apply qb | apply qc)); exact HO353.out) hb); have n9_ := Aside0.mk (qj (by (with_reducible repeat (first | apply qa | apply qb | apply qc)); exact HO356.out) hb); have n10_ := Aside0.mk (qp (g := gb292) (o := .cells #[.slice A0_0 l0_0.length c0_0, .slice A0_1 l0_1.length c0_1, .int .i64 a0_2] 24 (0, 0)) (by (with_reducible repeat (first | refine qe ?_ _ | refine qh ?_ | refine qf ?_ _)); exact BK292.out) hb); have n11_ := Aside0.mk (qp (g := gb309) (o := .cells #[.slice Ao23 t301.length co23, .slice Ao26 t304.length co26, .int .i64 t307] 29 (0, 0)) (by (with_reducible repeat (first | refine qe ?_ _ | refine qh ?_ | refine qf ?_ _)); exact BK309.out) hb); have n12_ := Aside0.mk (qp (g := gb317) (o := .cells #[.slice Ao30 t337.length co30, .slice Ao34 t338.length co34, .int .i64 t316] 29 (0, 0)) (by (with_reducible repeat (first | refine qe ?_ _ | refine qh ?_ | refine qf ?_ _)); exact BK317.out) hb); have n13_ := Aside0.mk (qp (g := gb326) (o := .cells #[.slice Ao37 t318.length co37, .slice Ao42 t321.length co42, .int .i64 t324] 29 (0, 0)) (by (with_reducible repeat (first | refine qe ?_ _ | refine qh ?_ | refine qf ?_ _)); exact BK326.out) hb); have n14_ := Aside0.mk (qx (by repeat (first | (with_reducible first | exact HB.out | apply qo | apply qk | apply qm | refine qd ?_ GE292.out | refine qd ?_ GE309.out | refine qd ?_ GE317.out | refine qd ?_ GE326.out) | exact HB.out)) hb); have n15_ := Aside0.mk (hbox); have n16_ := Aside0.mk ((by rw [hg]; exact (qy (by repeat (first | (with_reducible first | exact HB.out | apply qo | apply qk | apply qm | refine qd ?_ GE292.out | refine qd ?_ GE309.out | refine qd ?_ GE317.out | refine qd ?_ GE326.out) | exact HB.out))) : w.heap.size ≤ gb359)); have n17_ := Aside0.mk ((by rw [hg]; exact (qy (by repeat (first | (with_reducible first | exact HB.out | apply qo | apply qk | apply qm | refine qd ?_ GE292.out | refine qd ?_ GE309.out | refine qd ?_ GE317.out | refine qd ?_ GE326.out) | exact HB.out))) : w.heap.size ≤ gb359)); have n18_ := Aside0.mk ((by rw [hg]; exact Nat.ne_of_lt (blk_lt (g := gb292) (o := .cells #[.slice A0_0 l0_0.length c0_0, .slice A0_1 l0_1.length c0_1, .int .i64 a0_2] 24 (0, 0)) (by (with_reducible repeat (first | refine qe ?_ _ | refine qh ?_ | refine qf ?_ _)); exact BK292.out)) : gb292 ≠ gb359)); have n19_ := Aside0.mk ((by rw [hg]; exact Nat.ne_of_gt (blk_lt (g := gb292) (o := .cells #[.slice A0_0 l0_0.length c0_0, .slice A0_1 l0_1.length c0_1, .int .i64 a0_2] 24 (0, 0)) (by (with_reducible repeat (first | refine qe ?_ _ | refine qh ?_ | refine qf ?_ _)); exact BK292.out)) : gb359 ≠ gb292)); have n20_ := Aside0.mk ((by rw [hg]; exact Nat.ne_of_lt (blk_lt (g := gb309) (o := .cells #[.slice Ao23 t301.length co23, .slice Ao26 t304.length co26, .int .i64 t307] 29 (0, 0)) (by (with_reducible repeat (first | refine qe ?_ _ | refine qh ?_ | refine qf ?_ _)); exact BK309.out)) : gb309 ≠ gb359)); have n21_ := Aside0.mk ((by rw [hg]; exact Nat.ne_of_gt (blk_lt (g := gb309) (o := .cells #[.slice Ao23 t301.length co23, .slice Ao26 t304.length co26, .int .i64 t307] 29 (0, 0)) (by (with_reducible repeat (first | refine qe ?_ _ | refine qh ?_ | refine qf ?_ _)); exact BK309.out)) : gb359 ≠ gb309)); have n22_ := Aside0.mk ((by rw [hg]; exact Nat.ne_of_lt (blk_lt (g := gb317) (o := .cells #[.slice Ao30 t337.length co30, .slice Ao34 t338.length co34, .int .i64 t316] 29 (0, 0)) (by (with_reducible repeat (first | refine qe ?_ _ | refine qh ?_ | refine qf ?_ _)); exact BK317.out)) : gb317 ≠ gb359)); have n23_ := Aside0.mk ((by rw [hg]; exact Nat.ne_of_gt (blk_lt (g := gb317) (o := .cells #[.slice Ao30 t337.length co30, .slice Ao34 t338.length co34, .int .i64 t316] 29 (0, 0)) (by (with_reducible repeat (first | refine qe ?_ _ | refine qh ?_ | refine qf ?_ _)); exact BK317.out)) : gb359 ≠ gb317)); have n24_ := Aside0.mk ((by rw [hg]; exact Nat.ne_of_lt (blk_lt (g := gb326) (o := .cells #[.slice Ao37 t318.length co37, .slice Ao42 t321.length co42, .int .i64 t324] 29 (0, 0)) (by (with_reducible repeat (first | refine qe ?_ _ | refine qh ?_ | refine qf ?_ _)); exact BK326.out)) : gb326 ≠ gb359)); have n25_ := Aside0.mk ((by rw [hg]; exact Nat.ne_of_gt (blk_lt (g := gb326) (o := .cells #[.slice Ao37 t318.length co37, .slice Ao42 t321.length co42, .int .i64 t324] 29 (0, 0)) (by (with_reducible repeat (first | refine qe ?_ _ | refine qh ?_ | refine qf ?_ _)); exact BK326.out)) : gb359 ≠ gb326)); clear HO_310000; clear HO_310001; clear HO_318000; clear HO_318001; clear HO_327000; clear HO_327001; clear HO346; clear HO349; clear HO353; clear HO356; clear BK292; clear BK309; clear BK317; clear BK326; clear HB; have HO_310000 := n0_; have HO_310001 := n1_; have HO_318000 := n2_; have HO_318001 := n3_; have HO_327000 := n4_; have HO_327001 := n5_; have HO346 := n6_; have HO349 := n7_; have HO353 := n8_; have HO356 := n9_; have BK292 := n10_; have BK309 := n11_; have BK317 := n12_; have BK326 := n13_; have HB := n14_; have BK359 := n15_; have GW359 := n16_; have GE359 := n17_; have NB292_359 := n18_; have NB359_292 := n19_; have NB309_359 := n20_; have NB359_309 := n21_; have NB317_359 := n22_; have NB359_317 := n23_; have NB326_359 := n24_; have NB359_326 := n25_; clear n0_ n1_ n2_ n3_ n4_ n5_ n6_ n7_ n8_ n9_ n10_ n11_ n12_ n13_ n14_ n15_ n16_ n17_ n18_ n19_ n20_ n21_ n22_ n23_ n24_ n25_; clear hb hbox hg; obtain ⟨Ao126, co126, eo126⟩ := Kd.R_slice HO353.out; subst eo126; have hnb127 := NB359_292.out; have hnc127 := NB292_359.out; have hnb128 := NB359_309.out; have hnc128 := NB309_359.out; have hnb129 := NB359_317.out; have hnc129 := NB317_359.out; have hnb130 := NB359_326.out; have hnc130 := NB326_359.out; have hcz131_0 : w125.cell? ⟨gb359, 0, none⟩ = some (.slice none 0 0) := (ql BK359.out 0).trans rfl; have hcz131_1 : w125.cell? ⟨gb359, 1, none⟩ = some (.slice none 0 0) := (ql BK359.out 1).trans rfl; have hcz131_2 : w125.cell? ⟨gb359, 2, none⟩ = some (.int .i64 0) := (ql BK359.out 2).trans rfl; have hfz131_0 := qn BK359.out 0; have hfz131_1 := qn BK359.out 1; have hfz131_2 := qn BK359.out 2; obtain ⟨Ao132, co132, eo132⟩ := Kd.R_slice HO356.out; subst eo132))
           (try simp only [Act.put, List.setIfInBounds_toArray, List.set_cons_zero, List.set_cons_succ])
           go_cut [97] (fun v97 wc => ∃ (kq : Nat) (x97_109 : Bool), v97 = .bool x97_109 ∧ Aside0 (laws_FnExactRaiseJoin.j2 kq t340 x97_109 t341 t342 t324 = some r) ∧ Aside0 (kq ≤ kj65) ∧ Aside0 (Kd.R k56 56 wc w.heap.size (fun k_ => some k_ ≠ ((.slice Ao26 t304.length co26) : Value).ownBlock ∧ some k_ ≠ ((.slice Ao30 t337.length co30) : Value).ownBlock ∧ some k_ ≠ ((.slice Ao34 t338.length co34) : Value).ownBlock ∧ some k_ ≠ ((.slice Ao37 t318.length co37) : Value).ownBlock ∧ some k_ ≠ ((.slice Ao42 t321.length co42) : Value).ownBlock ∧ some k_ ≠ ((.slice Ao126 t351.length co126) : Value).ownBlock ∧ some k_ ≠ ((.slice Ao132 t354.length co132) : Value).ownBlock) (.slice Ao23 t301.length co23) t301) ∧ Aside0 (Kd.R k56 56 wc w.heap.size (fun k_ => some k_ ≠ ((.slice Ao23 t301.length co23) : Value).ownBlock ∧ some k_ ≠ ((.slice Ao30 t337.length co30) : Value).ownBlock ∧ some k_ ≠ ((.slice Ao34 t338.length co34) : Value).ownBlock ∧ some k_ ≠ ((.slice Ao37 t318.length co37) : Value).ownBlock ∧ some k_ ≠ ((.slice Ao42 t321.length co42) : Value).ownBlock ∧ some k_ ≠ ((.slice Ao126 t351.length co126) : Value).ownBlock ∧ some k_ ≠ ((.slice Ao132 t354.length co132) : Value).ownBlock) (.slice Ao26 t304.length co26) t304) ∧ Aside0 (Kd.R k56 56 wc w.heap.size (fun k_ => some k_ ≠ ((.slice Ao23 t301.length co23) : Value).ownBlock ∧ some k_ ≠ ((.slice Ao26 t304.length co26) : Value).ownBlock ∧ some k_ ≠ ((.slice Ao34 t338.length co34) : Value).ownBlock ∧ some k_ ≠ ((.slice Ao37 t318.length co37) : Value).ownBlock ∧ some k_ ≠ ((.slice Ao42 t321.length co42) : Value).ownBlock ∧ some k_ ≠ ((.slice Ao126 t351.length co126) : Value).ownBlock ∧ some k_ ≠ ((.slice Ao132 t354.length co132) : Value).ownBlock) (.slice Ao30 t337.length co30) t337) ∧ Aside0 (Kd.R k56 56 wc w.heap.size (fun k_ => some k_ ≠ ((.slice Ao23 t301.length co23) : Value).ownBlock ∧ some k_ ≠ ((.slice Ao26 t304.length co26) : Value).ownBlock ∧ some k_ ≠ ((.slice Ao30 t337.length co30) : Value).ownBlock ∧ some k_ ≠ ((.slice Ao37 t318.length co37) : Value).ownBlock ∧ some k_ ≠ ((.slice Ao42 t321.length co42) : Value).ownBlock ∧ some k_ ≠ ((.slice Ao126 t351.length co126) : Value).ownBlock ∧ some k_ ≠ ((.slice Ao132 t354.length co132) : Value).ownBlock) (.slice Ao34 t338.length co34) t338) ∧ Aside0 (Kd.R k56 56 wc w.heap.size (fun k_ => some k_ ≠ ((.slice Ao23 t301.length co23) : Value).ownBlock ∧ some k_ ≠ ((.slice Ao26 t304.length co26) : Value).ownBlock ∧ some k_ ≠ ((.slice Ao30 t337.length co30) : Value).ownBlock ∧ some k_ ≠ ((.slice Ao34 t338.length co34) : Value).ownBlock ∧ some k_ ≠ ((.slice Ao42 t321.length co42) : Value).ownBlock ∧ some k_ ≠ ((.slice Ao126 t351.length co126) : Value).ownBlock ∧ some k_ ≠ ((.slice Ao132 t354.length co132) : Value).ownBlock) (.slice Ao37 t318.length co37) t341) ∧ Aside0 (Kd.R k56 56 wc w.heap.size (fun k_ => some k_ ≠ ((.slice Ao23 t301.length co23) : Value).ownBlock ∧ some k_ ≠ ((.slice Ao26 t304.length co26) : Value).ownBlock ∧ some k_ ≠ ((.slice Ao30 t337.length co30) : Value).ownBlock ∧ some k_ ≠ ((.slice Ao34 t338.length co34) : Value).ownBlock ∧ some k_ ≠ ((.slice Ao37 t318.length co37) : Value).ownBlock ∧ some k_ ≠ ((.slice Ao126 t351.length co126) : Value).ownBlock ∧ some k_ ≠ ((.slice Ao132 t354.length co132) : Value).ownBlock) (.slice Ao42 t321.length co42) t342) ∧ Aside0 (Kd.R k56 56 wc w.heap.size (fun k_ => some k_ ≠ ((.slice Ao23 t301.length co23) : Value).ownBlock ∧ some k_ ≠ ((.slice Ao26 t304.length co26) : Value).ownBlock ∧ some k_ ≠ ((.slice Ao30 t337.length co30) : Value).ownBlock ∧ some k_ ≠ ((.slice Ao34 t338.length co34) : Value).ownBlock ∧ some k_ ≠ ((.slice Ao37 t318.length co37) : Value).ownBlock ∧ some k_ ≠ ((.slice Ao42 t321.length co42) : Value).ownBlock ∧ some k_ ≠ ((.slice Ao132 t354.length co132) : Value).ownBlock) (.slice Ao126 t351.length co126) t351) ∧ Aside0 (Kd.R k56 56 wc w.heap.size (fun k_ => some k_ ≠ ((.slice Ao23 t301.length co23) : Value).ownBlock ∧ some k_ ≠ ((.slice Ao26 t304.length co26) : Value).ownBlock ∧ some k_ ≠ ((.slice Ao30 t337.length co30) : Value).ownBlock ∧ some k_ ≠ ((.slice Ao34 t338.length co34) : Value).ownBlock ∧ some k_ ≠ ((.slice Ao37 t318.length co37) : Value).ownBlock ∧ some k_ ≠ ((.slice Ao42 t321.length co42) : Value).ownBlock ∧ some k_ ≠ ((.slice Ao126 t351.length co126) : Value).ownBlock) (.slice Ao132 t354.length co132) t354) ∧ Aside0 (wc.heap[gb292]? = some (.cells #[(.slice A0_0 l0_0.length c0_0), (.slice A0_1 l0_1.length c0_1), .int .i64 a0_2] 24 (0, 0))) ∧ Aside0 (wc.heap[gb309]? = some (.cells #[(.slice Ao23 t301.length co23), (.slice Ao26 t304.length co26), .int .i64 t307] 29 (0, 0))) ∧ Aside0 (wc.heap[gb317]? = some (.cells #[(.slice Ao30 t337.length co30), (.slice Ao34 t338.length co34), .int .i64 t316] 29 (0, 0))) ∧ Aside0 (wc.heap[gb326]? = some (.cells #[(.slice Ao37 t318.length co37), (.slice Ao42 t321.length co42), .int .i64 t324] 29 (0, 0))) ∧ Aside0 (wc.heap[gb359]? = some (.cells #[(.slice Ao126 t351.length co126), (.slice Ao132 t354.length co132), .int .i64 t357] 29 (0, 0))) ∧ Aside0 (Below w.heap.size w wc))
           case first =>
            have H := HC110.out
            clear HC110
            replace H := Option.bind_eq_some_iff.mp H
            obtain ⟨t360, A1330, H⟩ := H
            replace H : (if t360 = true then (laws_FnExactRaiseJoin.j2 kj65 t340 (t358 != t308) t341 t342 t324) else (laws_FnExactRaiseJoin.j2 kj65 t340 true t341 t342 t324)) = some r := H
            have A133 := Aside0.mk A1330
            clear A1330
            by_cases c134 : t360 = true
            ·
             subst c134
             have H1 : (laws_FnExactRaiseJoin.j2 kj65 t340 (t358 != t308) t341 t342 t324) = some r := by rw [if_pos rfl] at H; exact H
             clear H
             have H := H1
             clear H1
             have H' := Aside0.mk H
             clear H
             have hnb135 := NB359_292.out
             have hnc135 := NB292_359.out
             have hnb136 := NB359_309.out
             have hnc136 := NB309_359.out
             have hnb137 := NB359_317.out
             have hnc137 := NB317_359.out
             have hnb138 := NB359_326.out
             have hnc138 := NB326_359.out
             have hcz139_0 : w125.cell? ⟨gb359, 0, none⟩ = some (.slice none 0 0) := (ql BK359.out 0).trans rfl
             have hcz139_1 : w125.cell? ⟨gb359, 1, none⟩ = some (.slice none 0 0) := (ql BK359.out 1).trans rfl
             have hcz139_2 : w125.cell? ⟨gb359, 2, none⟩ = some (.int .i64 0) := (ql BK359.out 2).trans rfl
             have hfz139_0 := qn BK359.out 0
             have hfz139_1 := qn BK359.out 1
             have hfz139_2 := qn BK359.out 2
             have hnb140 := NB309_292.out
             have hnc140 := NB292_309.out
             have hnb141 := NB309_317.out
             have hnc141 := NB317_309.out
             have hnb142 := NB309_326.out
             have hnc142 := NB326_309.out
             have hcz143_0 : w125.cell? ⟨gb309, 0, none⟩ = some (.slice Ao23 t301.length co23) := (ql BK309.out 0).trans rfl
             have hcz143_1 : w125.cell? ⟨gb309, 1, none⟩ = some (.slice Ao26 t304.length co26) := (ql BK309.out 1).trans rfl
             have hcz143_2 : w125.cell? ⟨gb309, 2, none⟩ = some (.int .i64 t307) := (ql BK309.out 2).trans rfl
             have hfz143_0 := qn BK309.out 0
             have hfz143_1 := qn BK309.out 1
             have hfz143_2 := qn BK309.out 2
             go_wp2_with (first | ((with_reducible refine qz (f := 17) rfl ?_); refine goesL_ (some 91) rfl rfl Try.func17 (by kernel_rfl) rfl #[.agg #[.slice Ao126 t351.length co126, .slice Ao132 t354.length co132, .int .i64 t357], .agg #[.slice Ao23 t301.length co23, .slice Ao26 t304.length co26, .int .i64 t307]] rfl (by (try simp only [List.map_toArray, List.map_cons, List.map_nil]); first | done | rfl | (simp only [List.length_drop, List.length_take]; rfl)) ?_; (with_reducible refine (laws_eqJoin.calls kj65 _ _ t351 _ _ t354 t357 _ _ t301 _ _ t304 t307 true _ ?side1 ?side2 ?side3 ?side4 ?side5 ?side6 ?side7 ?side8 A133.out).mono ?_); (case side1 => refine (Kd.R_reads' (e := 56) (base := w.heap.size) (ok := fun k_ => ((((((((some k_ ≠ (.slice Ao132 t354.length co132 : Value).ownBlock ∧ some k_ ≠ (.slice Ao23 t301.length co23 : Value).ownBlock) ∧ some k_ ≠ (.slice Ao26 t304.length co26 : Value).ownBlock) ∧ some k_ ≠ (.slice Ao30 t337.length co30 : Value).ownBlock) ∧ some k_ ≠ (.slice Ao34 t338.length co34 : Value).ownBlock) ∧ some k_ ≠ (.slice Ao37 t318.length co37 : Value).ownBlock) ∧ some k_ ≠ (.slice Ao42 t321.length co42 : Value).ownBlock) ∧ some k_ ≠ (.slice Ao122 t344.length co122 : Value).ownBlock) ∧ some k_ ≠ (.slice Ao123 t347.length co123 : Value).ownBlock)) (n := t351.length) (c := co126) ?_).2.2; exact (by (with_reducible repeat (first | apply qa | apply qb | apply qc)); exact (qi (qg (p := ⟨gb359, 2, none⟩) (qg (p := ⟨gb359, 1, none⟩) (qg (p := ⟨gb359, 0, none⟩) (qq HO353.out BK359.out (by decide)) (fun _ hk => hk.2) (.slice Ao126 t351.length co126)) (fun _ hk => hk.2) (.slice Ao132 t354.length co132)) (fun _ hk => hk.2) (.int .i64 t357)) (fun _ h_ => h_.1)))); (case side2 => exact (Kd.R_reads' HO353.out).2.1); (case side3 => refine (Kd.R_reads' (e := 56) (base := w.heap.size) (ok := fun k_ => ((((((((some k_ ≠ (.slice Ao126 t351.length co126 : Value).ownBlock ∧ some k_ ≠ (.slice Ao23 t301.length co23 : Value).ownBlock) ∧ some k_ ≠ (.slice Ao26 t304.length co26 : Value).ownBlock) ∧ some k_ ≠ (.slice Ao30 t337.length co30 : Value).ownBlock) ∧ some k_ ≠ (.slice Ao34 t338.length co34 : Value).ownBlock) ∧ some k_ ≠ (.slice Ao37 t318.length co37 : Value).ownBlock) ∧ some k_ ≠ (.slice Ao42 t321.length co42 : Value).ownBlock) ∧ some k_ ≠ (.slice Ao122 t344.length co122 : Value).ownBlock) ∧ some k_ ≠ (.slice Ao123 t347.length co123 : Value).ownBlock)) (n := t354.length) (c := co132) ?_).2.2; exact (by (with_reducible repeat (first | apply qa | apply qb | apply qc)); exact (qi (qg (p := ⟨gb359, 2, none⟩) (qg (p := ⟨gb359, 1, none⟩) (qg (p := ⟨gb359, 0, none⟩) (qq HO356.out BK359.out (by decide)) (fun _ hk => hk.2) (.slice Ao126 t351.length co126)) (fun _ hk => hk.2) (.slice Ao132 t354.length co132)) (fun _ hk => hk.2) (.int .i64 t357)) (fun _ h_ => h_.1)))); (case side4 => exact (Kd.R_reads' HO356.out).2.1); (case side5 => refine (Kd.R_reads' (e := 56) (base := w.heap.size) (ok := fun k_ => (((((some k_ ≠ (.slice Ao26 t304.length co26 : Value).ownBlock ∧ (some k_ ≠ (.slice Ao30 t337.length co30 : Value).ownBlock ∧ (some k_ ≠ (.slice Ao34 t338.length co34 : Value).ownBlock ∧ (some k_ ≠ (.slice Ao37 t318.length co37 : Value).ownBlock ∧ some k_ ≠ (.slice Ao42 t321.length co42 : Value).ownBlock)))) ∧ some k_ ≠ (.slice Ao122 t344.length co122 : Value).ownBlock) ∧ some k_ ≠ (.slice Ao123 t347.length co123 : Value).ownBlock) ∧ some k_ ≠ (.slice Ao126 t351.length co126 : Value).ownBlock) ∧ some k_ ≠ (.slice Ao132 t354.length co132 : Value).ownBlock)) (n := t301.length) (c := co23) ?_).2.2; exact (by (with_reducible repeat (first | apply qa | apply qb | apply qc)); exact (qi (qg (p := ⟨gb359, 2, none⟩) (qg (p := ⟨gb359, 1, none⟩) (qg (p := ⟨gb359, 0, none⟩) (qq HO_310000.out BK359.out (by decide)) (fun _ hk => hk.2) (.slice Ao126 t351.length co126)) (fun _ hk => hk.2) (.slice Ao132 t354.length co132)) (fun _ hk => hk.2) (.int .i64 t357)) (fun _ h_ => h_.1)))); (case side6 => exact (Kd.R_reads' HO_310000.out).2.1); (case side7 => refine (Kd.R_reads' (e := 56) (base := w.heap.size) (ok := fun k_ => (((((some k_ ≠ (.slice Ao23 t301.length co23 : Value).ownBlock ∧ (some k_ ≠ (.slice Ao30 t337.length co30 : Value).ownBlock ∧ (some k_ ≠ (.slice Ao34 t338.length co34 : Value).ownBlock ∧ (some k_ ≠ (.slice Ao37 t318.length co37 : Value).ownBlock ∧ some k_ ≠ (.slice Ao42 t321.length co42 : Value).ownBlock)))) ∧ some k_ ≠ (.slice Ao122 t344.length co122 : Value).ownBlock) ∧ some k_ ≠ (.slice Ao123 t347.length co123 : Value).ownBlock) ∧ some k_ ≠ (.slice Ao126 t351.length co126 : Value).ownBlock) ∧ some k_ ≠ (.slice Ao132 t354.length co132 : Value).ownBlock)) (n := t304.length) (c := co26) ?_).2.2; exact (by (with_reducible repeat (first | apply qa | apply qb | apply qc)); exact (qi (qg (p := ⟨gb359, 2, none⟩) (qg (p := ⟨gb359, 1, none⟩) (qg (p := ⟨gb359, 0, none⟩) (qq HO_310001.out BK359.out (by decide)) (fun _ hk => hk.2) (.slice Ao126 t351.length co126)) (fun _ hk => hk.2) (.slice Ao132 t354.length co132)) (fun _ hk => hk.2) (.int .i64 t357)) (fun _ h_ => h_.1)))); (case side8 => exact (Kd.R_reads' HO_310001.out).2.1); rintro e w144 ⟨rfl, hb⟩; refine ⟨_, rfl, ?_⟩; have n0_ := Aside0.mk (qj (by (with_reducible repeat (first | apply qa | apply qb | apply qc)); exact (qi (qg (p := ⟨gb359, 2, none⟩) (qg (p := ⟨gb359, 1, none⟩) (qg (p := ⟨gb359, 0, none⟩) (qq HO_310000.out BK359.out (by decide)) (fun _ hk => hk.2) (.slice Ao126 t351.length co126)) (fun _ hk => hk.2) (.slice Ao132 t354.length co132)) (fun _ hk => hk.2) (.int .i64 t357)) (fun _ h_ => h_.1))) hb); have n1_ := Aside0.mk (qj (by (with_reducible repeat (first | apply qa | apply qb | apply qc)); exact (qi (qg (p := ⟨gb359, 2, none⟩) (qg (p := ⟨gb359, 1, none⟩) (qg (p := ⟨gb359, 0, none⟩) (qq HO_310001.out BK359.out (by decide)) (fun _ hk => hk.2) (.slice Ao126 t351.length co126)) (fun _ hk => hk.2) (.slice Ao132 t354.length co132)) (fun _ hk => hk.2) (.int .i64 t357)) (fun _ h_ => h_.1))) hb); have n2_ := Aside0.mk (qj (by (with_reducible repeat (first | apply qa | apply qb | apply qc)); exact (qi (qg (p := ⟨gb359, 2, none⟩) (qg (p := ⟨gb359, 1, none⟩) (qg (p := ⟨gb359, 0, none⟩) (qq HO_318000.out BK359.out (by decide)) (fun _ hk => hk.2) (.slice Ao126 t351.length co126)) (fun _ hk => hk.2) (.slice Ao132 t354.length co132)) (fun _ hk => hk.2) (.int .i64 t357)) (fun _ h_ => h_.1))) hb); have n3_ := Aside0.mk (qj (by (with_reducible repeat (first | apply qa | apply qb | apply qc)); exact (qi (qg (p := ⟨gb359, 2, none⟩) (qg (p := ⟨gb359, 1, none⟩) (qg (p := ⟨gb359, 0, none⟩) (qq HO_318001.out BK359.out (by decide)) (fun _ hk => hk.2) (.slice Ao126 t351.length co126)) (fun _ hk => hk.2) (.slice Ao132 t354.length co132)) (fun _ hk => hk.2) (.int .i64 t357)) (fun _ h_ => h_.1))) hb); have n4_ := Aside0.mk (qj (by (with_reducible repeat (first | apply qa | apply qb | apply qc)); exact (qi (qg (p := ⟨gb359, 2, none⟩) (qg (p := ⟨gb359, 1, none⟩) (qg (p := ⟨gb359, 0, none⟩) (qq HO_327000.out BK359.out (by decide)) (fun _ hk => hk.2) (.slice Ao126 t351.length co126)) (fun _ hk => hk.2) (.slice Ao132 t354.length co132)) (fun _ hk => hk.2) (.int .i64 t357)) (fun _ h_ => h_.1))) hb); have n5_ := Aside0.mk (qj (by (with_reducible repeat (first | apply qa | apply qb | apply qc)); exact (qi (qg (p := ⟨gb359, 2, none⟩) (qg (p := ⟨gb359, 1, none⟩) (qg (p := ⟨gb359, 0, none⟩) (qq HO_327001.out BK359.out (by decide)) (fun _ hk => hk.2) (.slice Ao126 t351.length co126)) (fun _ hk => hk.2) (.slice Ao132 t354.length co132)) (fun _ hk => hk.2) (.int .i64 t357)) (fun _ h_ => h_.1))) hb); have n6_ := Aside0.mk (qj (by (with_reducible repeat (first | apply qa | apply qb | apply qc)); exact (qi (qg (p := ⟨gb359, 2, none⟩) (qg (p := ⟨gb359, 1, none⟩) (qg (p := ⟨gb359, 0, none⟩) (qq HO346.out BK359.out (by decide)) (fun _ hk => hk.2) (.slice Ao126 t351.length co126)) (fun _ hk => hk.2) (.slice Ao132 t354.length co132)) (fun _ hk => hk.2) (.int .i64 t357)) (fun _ h_ => h_.1))) hb); have n7_ := Aside0.mk (qj (by (with_reducible repeat (first | apply qa | apply qb | apply qc)); exact (qi (qg (p := ⟨gb359, 2, none⟩) (qg (p := ⟨gb359, 1, none⟩) (qg (p := ⟨gb359, 0, none⟩) (qq HO349.out BK359.out (by decide)) (fun _ hk => hk.2) (.slice Ao126 t351.length co126)) (fun _ hk => hk.2) (.slice Ao132 t354.length co132)) (fun _ hk => hk.2) (.int .i64 t357)) (fun _ h_ => h_.1))) hb); have n8_ := Aside0.mk (qj (by (with_reducible repeat (first | apply qa | apply qb | apply qc)); exact (qi (qg (p := ⟨gb359, 2, none⟩) (qg (p := ⟨gb359, 1, none⟩) (qg (p := ⟨gb359, 0, none⟩) (qq HO353.out BK359.out (by decide)) (fun _ hk => hk.2) (.slice Ao126 t351.length co126)) (fun _ hk => hk.2) (.slice Ao132 t354.length co132)) (fun _ hk => hk.2) (.int .i64 t357)) (fun _ h_ => h_.1))) hb); have n9_ := Aside0.mk (qj (by (with_reducible repeat (first | apply qa | apply qb | apply qc)); exact (qi (qg (p := ⟨gb359, 2, none⟩) (qg (p := ⟨gb359, 1, none⟩) (qg (p := ⟨gb359, 0, none⟩) (qq HO356.out BK359.out (by decide)) (fun _ hk => hk.2) (.slice Ao126 t351.length co126)) (fun _ hk => hk.2) (.slice Ao132 t354.length co132)) (fun _ hk => hk.2) (.int .i64 t357)) (fun _ h_ => h_.1))) hb); have n10_ := Aside0.mk (qp (g := gb292) (o := .cells #[.slice A0_0 l0_0.length c0_0, .slice A0_1 l0_1.length c0_1, .int .i64 a0_2] 24 (0, 0)) (by (with_reducible repeat (first | refine qe ?_ _ | refine qh ?_ | refine qf ?_ _)); refine qw ?_ NB292_359.out _; (with_reducible repeat (first | refine qe ?_ _ | refine qh ?_ | refine qf ?_ _)); refine qw ?_ NB292_359.out _; (with_reducible repeat (first | refine qe ?_ _ | refine qh ?_ | refine qf ?_ _)); refine qw ?_ NB292_359.out _; (with_reducible repeat (first | refine qe ?_ _ | refine qh ?_ | refine qf ?_ _)); exact BK292.out) hb); have n11_ := Aside0.mk (qp (g := gb309) (o := .cells #[.slice Ao23 t301.length co23, .slice Ao26 t304.length co26, .int .i64 t307] 29 (0, 0)) (by (with_reducible repeat (first | refine qe ?_ _ | refine qh ?_ | refine qf ?_ _)); refine qw ?_ NB309_359.out _; (with_reducible repeat (first | refine qe ?_ _ | refine qh ?_ | refine qf ?_ _)); refine qw ?_ NB309_359.out _; (with_reducible repeat (first | refine qe ?_ _ | refine qh ?_ | refine qf ?_ _)); refine qw ?_ NB309_359.out _; (with_reducible repeat (first | refine qe ?_ _ | refine qh ?_ | refine qf ?_ _)); exact BK309.out) hb); have n12_ := Aside0.mk (qp (g := gb317) (o := .cells #[.slice Ao30 t337.length co30, .slice Ao34 t338.length co34, .int .i64 t316] 29 (0, 0)) (by (with_reducible repeat (first | refine qe ?_ _ | refine qh ?_ | refine qf ?_ _)); refine qw ?_ NB317_359.out _; (with_reducible repeat (first | refine qe ?_ _ | refine qh ?_ | refine qf ?_ _)); refine qw ?_ NB317_359.out _; (with_reducible repeat (first | refine qe ?_ _ | refine qh ?_ | refine qf ?_ _)); refine qw ?_ NB317_359.out _; (with_reducible repeat (first | refine qe ?_ _ | refine qh ?_ | refine qf ?_ _)); exact BK317.out) hb); have n13_ := Aside0.mk (qp (g := gb326) (o := .cells #[.slice Ao37 t318.length co37, .slice Ao42 t321.length co42, .int .i64 t324] 29 (0, 0)) (by (with_reducible repeat (first | refine qe ?_ _ | refine qh ?_ | refine qf ?_ _)); refine qw ?_ NB326_359.out _; (with_reducible repeat (first | refine qe ?_ _ | refine qh ?_ | refine qf ?_ _)); refine qw ?_ NB326_359.out _; (with_reducible repeat (first | refine qe ?_ _ | refine qh ?_ | refine qf ?_ _)); refine qw ?_ NB326_359.out _; (with_reducible repeat (first | refine qe ?_ _ | refine qh ?_ | refine qf ?_ _)); exact BK326.out) hb); have n14_ := Aside0.mk (qp (g := gb359) (o := .cells #[.slice Ao126 t351.length co126, .slice Ao132 t354.length co132, .int .i64 t357] 29 (0, 0)) (by (with_reducible repeat (first | refine qe ?_ _ | refine qh ?_ | refine qf ?_ _)); refine blk_put (cs := #[.slice Ao126 t351.length co126, .slice Ao132 t354.length co132, .int .i64 0]) ?_ 2 _ rfl; (with_reducible repeat (first | refine qe ?_ _ | refine qh ?_ | refine qf ?_ _)); refine blk_put (cs := #[.slice Ao126 t351.length co126, .slice none 0 0, .int .i64 0]) ?_ 1 _ rfl; (with_reducible repeat (first | refine qe ?_ _ | refine qh ?_ | refine qf ?_ _)); refine blk_put (cs := #[.slice none 0 0, .slice none 0 0, .int .i64 0]) ?_ 0 _ rfl; (with_reducible repeat (first | refine qe ?_ _ | refine qh ?_ | refine qf ?_ _)); exact BK359.out) hb); have n15_ := Aside0.mk (qx (by repeat (first | (with_reducible first | exact HB.out | apply qo | apply qk | apply qm | refine qd ?_ GE292.out | refine qd ?_ GE309.out | refine qd ?_ GE317.out | refine qd ?_ GE326.out | refine qd ?_ GE359.out) | exact HB.out)) hb); clear HO_310000; clear HO_310001; clear HO_318000; clear HO_318001; clear HO_327000; clear HO_327001; clear HO346; clear HO349; clear HO353; clear HO356; clear BK292; clear BK309; clear BK317; clear BK326; clear BK359; clear HB; have HO_310000 := n0_; have HO_310001 := n1_; have HO_318000 := n2_; have HO_318001 := n3_; have HO_327000 := n4_; have HO_327001 := n5_; have HO346 := n6_; have HO349 := n7_; have HO353 := n8_; have HO356 := n9_; have BK292 := n10_; have BK309 := n11_; have BK317 := n12_; have BK326 := n13_; have BK359 := n14_; have HB := n15_; clear n0_ n1_ n2_ n3_ n4_ n5_ n6_ n7_ n8_ n9_ n10_ n11_ n12_ n13_ n14_ n15_; (try clear hb); (try clear hb2); (try clear hk); (try clear hi)))
             go_meet
             case rel => exact ⟨_, ((t358 != t308)), (by first | rfl | (simp; done) | (simp [*]; done)), H', ⟨by have := HJ12.out; have := HJ65.out; first | omega | exact Nat.le_refl _⟩, ⟨by (try simp only [hl318000_65]); (try simp only [hl318001_65]); (with_reducible repeat (first | apply qa | apply qb | apply qc)); exact qi HO_310000.out (fun _ hk => ⟨hk.1.1.1.1.1, ⟨hk.1.1.1.1.2.1, ⟨hk.1.1.1.1.2.2.1, ⟨hk.1.1.1.1.2.2.2.1, ⟨hk.1.1.1.1.2.2.2.2, ⟨hk.1.2, hk.2⟩⟩⟩⟩⟩⟩)⟩, ⟨by (try simp only [hl318000_65]); (try simp only [hl318001_65]); (with_reducible repeat (first | apply qa | apply qb | apply qc)); exact qi HO_310001.out (fun _ hk => ⟨hk.1.1.1.1.1, ⟨hk.1.1.1.1.2.1, ⟨hk.1.1.1.1.2.2.1, ⟨hk.1.1.1.1.2.2.2.1, ⟨hk.1.1.1.1.2.2.2.2, ⟨hk.1.2, hk.2⟩⟩⟩⟩⟩⟩)⟩, ⟨by (try simp only [hl318000_65]); (try simp only [hl318001_65]); (with_reducible repeat (first | apply qa | apply qb | apply qc)); exact qi HO_318000.out (fun _ hk => ⟨hk.1.1.1.1.1, ⟨hk.1.1.1.1.2.1, ⟨hk.1.1.1.1.2.2.1, ⟨hk.1.1.1.1.2.2.2.1, ⟨hk.1.1.1.1.2.2.2.2, ⟨hk.1.2, hk.2⟩⟩⟩⟩⟩⟩)⟩, ⟨by (try simp only [hl318000_65]); (try simp only [hl318001_65]); (with_reducible repeat (first | apply qa | apply qb | apply qc)); exact qi HO_318001.out (fun _ hk => ⟨hk.1.1.1.1.1, ⟨hk.1.1.1.1.2.1, ⟨hk.1.1.1.1.2.2.1, ⟨hk.1.1.1.1.2.2.2.1, ⟨hk.1.1.1.1.2.2.2.2, ⟨hk.1.2, hk.2⟩⟩⟩⟩⟩⟩)⟩, ⟨by (try simp only [hl318000_65]); (try simp only [hl318001_65]); (with_reducible repeat (first | apply qa | apply qb | apply qc)); exact qi HO_327000.out (fun _ hk => ⟨hk.1.1.1.1.1, ⟨hk.1.1.1.1.2.1, ⟨hk.1.1.1.1.2.2.1, ⟨hk.1.1.1.1.2.2.2.1, ⟨hk.1.1.1.1.2.2.2.2, ⟨hk.1.2, hk.2⟩⟩⟩⟩⟩⟩)⟩, ⟨by (try simp only [hl318000_65]); (try simp only [hl318001_65]); (with_reducible repeat (first | apply qa | apply qb | apply qc)); exact qi HO_327001.out (fun _ hk => ⟨hk.1.1.1.1.1, ⟨hk.1.1.1.1.2.1, ⟨hk.1.1.1.1.2.2.1, ⟨hk.1.1.1.1.2.2.2.1, ⟨hk.1.1.1.1.2.2.2.2, ⟨hk.1.2, hk.2⟩⟩⟩⟩⟩⟩)⟩, ⟨by (try simp only [hl318000_65]); (try simp only [hl318001_65]); (with_reducible repeat (first | apply qa | apply qb | apply qc)); exact qi HO353.out (fun _ hk => ⟨hk.1.1.1.1.1.1.1.2, ⟨hk.1.1.1.1.1.1.2, ⟨hk.1.1.1.1.1.2, ⟨hk.1.1.1.1.2, ⟨hk.1.1.1.2, ⟨hk.1.1.2, hk.1.1.1.1.1.1.1.1⟩⟩⟩⟩⟩⟩)⟩, ⟨by (try simp only [hl318000_65]); (try simp only [hl318001_65]); (with_reducible repeat (first | apply qa | apply qb | apply qc)); exact qi HO356.out (fun _ hk => ⟨hk.1.1.1.1.1.1.1.2, ⟨hk.1.1.1.1.1.1.2, ⟨hk.1.1.1.1.1.2, ⟨hk.1.1.1.1.2, ⟨hk.1.1.1.2, ⟨hk.1.1.2, hk.1.1.1.1.1.1.1.1⟩⟩⟩⟩⟩⟩)⟩, ⟨by (try simp only [hl318000_65]); (try simp only [hl318001_65]); (with_reducible repeat (first | refine qe ?_ _ | refine qh ?_ | refine qf ?_ _)); exact BK292.out⟩, ⟨by (try simp only [hl318000_65]); (try simp only [hl318001_65]); (with_reducible repeat (first | refine qe ?_ _ | refine qh ?_ | refine qf ?_ _)); exact BK309.out⟩, ⟨by (try simp only [hl318000_65]); (try simp only [hl318001_65]); (with_reducible repeat (first | refine qe ?_ _ | refine qh ?_ | refine qf ?_ _)); exact BK317.out⟩, ⟨by (try simp only [hl318000_65]); (try simp only [hl318001_65]); (with_reducible repeat (first | refine qe ?_ _ | refine qh ?_ | refine qf ?_ _)); exact BK326.out⟩, ⟨by (try simp only [hl318000_65]); (try simp only [hl318001_65]); (with_reducible repeat (first | refine qe ?_ _ | refine qh ?_ | refine qf ?_ _)); exact BK359.out⟩, ⟨by repeat (first | (with_reducible first | exact HB.out | apply qo | apply qk | apply qm | refine qd ?_ GE292.out | refine qd ?_ GE309.out | refine qd ?_ GE317.out | refine qd ?_ GE326.out | refine qd ?_ GE359.out) | exact HB.out)⟩⟩
            ·
             replace c134 := Bool.eq_false_iff.mpr c134
             subst c134
             have H1 : (laws_FnExactRaiseJoin.j2 kj65 t340 true t341 t342 t324) = some r := by rw [if_neg (show ¬ (false = true) by decide)] at H; exact H
             clear H
             have H := H1
             clear H1
             have H' := Aside0.mk H
             clear H
             have hnb145 := NB359_292.out
             have hnc145 := NB292_359.out
             have hnb146 := NB359_309.out
             have hnc146 := NB309_359.out
             have hnb147 := NB359_317.out
             have hnc147 := NB317_359.out
             have hnb148 := NB359_326.out
             have hnc148 := NB326_359.out
             have hcz149_0 : w125.cell? ⟨gb359, 0, none⟩ = some (.slice none 0 0) := (ql BK359.out 0).trans rfl
             have hcz149_1 : w125.cell? ⟨gb359, 1, none⟩ = some (.slice none 0 0) := (ql BK359.out 1).trans rfl
             have hcz149_2 : w125.cell? ⟨gb359, 2, none⟩ = some (.int .i64 0) := (ql BK359.out 2).trans rfl
             have hfz149_0 := qn BK359.out 0
             have hfz149_1 := qn BK359.out 1
             have hfz149_2 := qn BK359.out 2
             have hnb150 := NB309_292.out
             have hnc150 := NB292_309.out
             have hnb151 := NB309_317.out
             have hnc151 := NB317_309.out
             have hnb152 := NB309_326.out
             have hnc152 := NB326_309.out
             have hcz153_0 : w125.cell? ⟨gb309, 0, none⟩ = some (.slice Ao23 t301.length co23) := (ql BK309.out 0).trans rfl
             have hcz153_1 : w125.cell? ⟨gb309, 1, none⟩ = some (.slice Ao26 t304.length co26) := (ql BK309.out 1).trans rfl
             have hcz153_2 : w125.cell? ⟨gb309, 2, none⟩ = some (.int .i64 t307) := (ql BK309.out 2).trans rfl
             have hfz153_0 := qn BK309.out 0
             have hfz153_1 := qn BK309.out 1
             have hfz153_2 := qn BK309.out 2
             go_wp2_with (first | ((with_reducible refine qz (f := 17) rfl ?_); refine goesL_ (some 91) rfl rfl Try.func17 (by kernel_rfl) rfl #[.agg #[.slice Ao126 t351.length co126, .slice Ao132 t354.length co132, .int .i64 t357], .agg #[.slice Ao23 t301.length co23, .slice Ao26 t304.length co26, .int .i64 t307]] rfl (by (try simp only [List.map_toArray, List.map_cons, List.map_nil]); first | done | rfl | (simp only [List.length_drop, List.length_take]; rfl)) ?_; (with_reducible refine (laws_eqJoin.calls kj65 _ _ t351 _ _ t354 t357 _ _ t301 _ _ t304 t307 false _ ?side1 ?side2 ?side3 ?side4 ?side5 ?side6 ?side7 ?side8 A133.out).mono ?_); (case side1 => refine (Kd.R_reads' (e := 56) (base := w.heap.size) (ok := fun k_ => ((((((((some k_ ≠ (.slice Ao132 t354.length co132 : Value).ownBlock ∧ some k_ ≠ (.slice Ao23 t301.length co23 : Value).ownBlock) ∧ some k_ ≠ (.slice Ao26 t304.length co26 : Value).ownBlock) ∧ some k_ ≠ (.slice Ao30 t337.length co30 : Value).ownBlock) ∧ some k_ ≠ (.slice Ao34 t338.length co34 : Value).ownBlock) ∧ some k_ ≠ (.slice Ao37 t318.length co37 : Value).ownBlock) ∧ some k_ ≠ (.slice Ao42 t321.length co42 : Value).ownBlock) ∧ some k_ ≠ (.slice Ao122 t344.length co122 : Value).ownBlock) ∧ some k_ ≠ (.slice Ao123 t347.length co123 : Value).ownBlock)) (n := t351.length) (c := co126) ?_).2.2; exact (by (with_reducible repeat (first | apply qa | apply qb | apply qc)); exact (qi (qg (p := ⟨gb359, 2, none⟩) (qg (p := ⟨gb359, 1, none⟩) (qg (p := ⟨gb359, 0, none⟩) (qq HO353.out BK359.out (by decide)) (fun _ hk => hk.2) (.slice Ao126 t351.length co126)) (fun _ hk => hk.2) (.slice Ao132 t354.length co132)) (fun _ hk => hk.2) (.int .i64 t357)) (fun _ h_ => h_.1)))); (case side2 => exact (Kd.R_reads' HO353.out).2.1); (case side3 => refine (Kd.R_reads' (e := 56) (base := w.heap.size) (ok := fun k_ => ((((((((some k_ ≠ (.slice Ao126 t351.length co126 : Value).ownBlock ∧ some k_ ≠ (.slice Ao23 t301.length co23 : Value).ownBlock) ∧ some k_ ≠ (.slice Ao26 t304.length co26 : Value).ownBlock) ∧ some k_ ≠ (.slice Ao30 t337.length co30 : Value).ownBlock) ∧ some k_ ≠ (.slice Ao34 t338.length co34 : Value).ownBlock) ∧ some k_ ≠ (.slice Ao37 t318.length co37 : Value).ownBlock) ∧ some k_ ≠ (.slice Ao42 t321.length co42 : Value).ownBlock) ∧ some k_ ≠ (.slice Ao122 t344.length co122 : Value).ownBlock) ∧ some k_ ≠ (.slice Ao123 t347.length co123 : Value).ownBlock)) (n := t354.length) (c := co132) ?_).2.2; exact (by (with_reducible repeat (first | apply qa | apply qb | apply qc)); exact (qi (qg (p := ⟨gb359, 2, none⟩) (qg (p := ⟨gb359, 1, none⟩) (qg (p := ⟨gb359, 0, none⟩) (qq HO356.out BK359.out (by decide)) (fun _ hk => hk.2) (.slice Ao126 t351.length co126)) (fun _ hk => hk.2) (.slice Ao132 t354.length co132)) (fun _ hk => hk.2) (.int .i64 t357)) (fun _ h_ => h_.1)))); (case side4 => exact (Kd.R_reads' HO356.out).2.1); (case side5 => refine (Kd.R_reads' (e := 56) (base := w.heap.size) (ok := fun k_ => (((((some k_ ≠ (.slice Ao26 t304.length co26 : Value).ownBlock ∧ (some k_ ≠ (.slice Ao30 t337.length co30 : Value).ownBlock ∧ (some k_ ≠ (.slice Ao34 t338.length co34 : Value).ownBlock ∧ (some k_ ≠ (.slice Ao37 t318.length co37 : Value).ownBlock ∧ some k_ ≠ (.slice Ao42 t321.length co42 : Value).ownBlock)))) ∧ some k_ ≠ (.slice Ao122 t344.length co122 : Value).ownBlock) ∧ some k_ ≠ (.slice Ao123 t347.length co123 : Value).ownBlock) ∧ some k_ ≠ (.slice Ao126 t351.length co126 : Value).ownBlock) ∧ some k_ ≠ (.slice Ao132 t354.length co132 : Value).ownBlock)) (n := t301.length) (c := co23) ?_).2.2; exact (by (with_reducible repeat (first | apply qa | apply qb | apply qc)); exact (qi (qg (p := ⟨gb359, 2, none⟩) (qg (p := ⟨gb359, 1, none⟩) (qg (p := ⟨gb359, 0, none⟩) (qq HO_310000.out BK359.out (by decide)) (fun _ hk => hk.2) (.slice Ao126 t351.length co126)) (fun _ hk => hk.2) (.slice Ao132 t354.length co132)) (fun _ hk => hk.2) (.int .i64 t357)) (fun _ h_ => h_.1)))); (case side6 => exact (Kd.R_reads' HO_310000.out).2.1); (case side7 => refine (Kd.R_reads' (e := 56) (base := w.heap.size) (ok := fun k_ => (((((some k_ ≠ (.slice Ao23 t301.length co23 : Value).ownBlock ∧ (some k_ ≠ (.slice Ao30 t337.length co30 : Value).ownBlock ∧ (some k_ ≠ (.slice Ao34 t338.length co34 : Value).ownBlock ∧ (some k_ ≠ (.slice Ao37 t318.length co37 : Value).ownBlock ∧ some k_ ≠ (.slice Ao42 t321.length co42 : Value).ownBlock)))) ∧ some k_ ≠ (.slice Ao122 t344.length co122 : Value).ownBlock) ∧ some k_ ≠ (.slice Ao123 t347.length co123 : Value).ownBlock) ∧ some k_ ≠ (.slice Ao126 t351.length co126 : Value).ownBlock) ∧ some k_ ≠ (.slice Ao132 t354.length co132 : Value).ownBlock)) (n := t304.length) (c := co26) ?_).2.2; exact (by (with_reducible repeat (first | apply qa | apply qb | apply qc)); exact (qi (qg (p := ⟨gb359, 2, none⟩) (qg (p := ⟨gb359, 1, none⟩) (qg (p := ⟨gb359, 0, none⟩) (qq HO_310001.out BK359.out (by decide)) (fun _ hk => hk.2) (.slice Ao126 t351.length co126)) (fun _ hk => hk.2) (.slice Ao132 t354.length co132)) (fun _ hk => hk.2) (.int .i64 t357)) (fun _ h_ => h_.1)))); (case side8 => exact (Kd.R_reads' HO_310001.out).2.1); rintro e w154 ⟨rfl, hb⟩; refine ⟨_, rfl, ?_⟩; have n0_ := Aside0.mk (qj (by (with_reducible repeat (first | apply qa | apply qb | apply qc)); exact (qi (qg (p := ⟨gb359, 2, none⟩) (qg (p := ⟨gb359, 1, none⟩) (qg (p := ⟨gb359, 0, none⟩) (qq HO_310000.out BK359.out (by decide)) (fun _ hk => hk.2) (.slice Ao126 t351.length co126)) (fun _ hk => hk.2) (.slice Ao132 t354.length co132)) (fun _ hk => hk.2) (.int .i64 t357)) (fun _ h_ => h_.1))) hb); have n1_ := Aside0.mk (qj (by (with_reducible repeat (first | apply qa | apply qb | apply qc)); exact (qi (qg (p := ⟨gb359, 2, none⟩) (qg (p := ⟨gb359, 1, none⟩) (qg (p := ⟨gb359, 0, none⟩) (qq HO_310001.out BK359.out (by decide)) (fun _ hk => hk.2) (.slice Ao126 t351.length co126)) (fun _ hk => hk.2) (.slice Ao132 t354.length co132)) (fun _ hk => hk.2) (.int .i64 t357)) (fun _ h_ => h_.1))) hb); have n2_ := Aside0.mk (qj (by (with_reducible repeat (first | apply qa | apply qb | apply qc)); exact (qi (qg (p := ⟨gb359, 2, none⟩) (qg (p := ⟨gb359, 1, none⟩) (qg (p := ⟨gb359, 0, none⟩) (qq HO_318000.out BK359.out (by decide)) (fun _ hk => hk.2) (.slice Ao126 t351.length co126)) (fun _ hk => hk.2) (.slice Ao132 t354.length co132)) (fun _ hk => hk.2) (.int .i64 t357)) (fun _ h_ => h_.1))) hb); have n3_ := Aside0.mk (qj (by (with_reducible repeat (first | apply qa | apply qb | apply qc)); exact (qi (qg (p := ⟨gb359, 2, none⟩) (qg (p := ⟨gb359, 1, none⟩) (qg (p := ⟨gb359, 0, none⟩) (qq HO_318001.out BK359.out (by decide)) (fun _ hk => hk.2) (.slice Ao126 t351.length co126)) (fun _ hk => hk.2) (.slice Ao132 t354.length co132)) (fun _ hk => hk.2) (.int .i64 t357)) (fun _ h_ => h_.1))) hb); have n4_ := Aside0.mk (qj (by (with_reducible repeat (first | apply qa | apply qb | apply qc)); exact (qi (qg (p := ⟨gb359, 2, none⟩) (qg (p := ⟨gb359, 1, none⟩) (qg (p := ⟨gb359, 0, none⟩) (qq HO_327000.out BK359.out (by decide)) (fun _ hk => hk.2) (.slice Ao126 t351.length co126)) (fun _ hk => hk.2) (.slice Ao132 t354.length co132)) (fun _ hk => hk.2) (.int .i64 t357)) (fun _ h_ => h_.1))) hb); have n5_ := Aside0.mk (qj (by (with_reducible repeat (first | apply qa | apply qb | apply qc)); exact (qi (qg (p := ⟨gb359, 2, none⟩) (qg (p := ⟨gb359, 1, none⟩) (qg (p := ⟨gb359, 0, none⟩) (qq HO_327001.out BK359.out (by decide)) (fun _ hk => hk.2) (.slice Ao126 t351.length co126)) (fun _ hk => hk.2) (.slice Ao132 t354.length co132)) (fun _ hk => hk.2) (.int .i64 t357)) (fun _ h_ => h_.1))) hb); have n6_ := Aside0.mk (qj (by (with_reducible repeat (first | apply qa | apply qb | apply qc)); exact (qi (qg (p := ⟨gb359, 2, none⟩) (qg (p := ⟨gb359, 1, none⟩) (qg (p := ⟨gb359, 0, none⟩) (qq HO346.out BK359.out (by decide)) (fun _ hk => hk.2) (.slice Ao126 t351.length co126)) (fun _ hk => hk.2) (.slice Ao132 t354.length co132)) (fun _ hk => hk.2) (.int .i64 t357)) (fun _ h_ => h_.1))) hb); have n7_ := Aside0.mk (qj (by (with_reducible repeat (first | apply qa | apply qb | apply qc)); exact (qi (qg (p := ⟨gb359, 2, none⟩) (qg (p := ⟨gb359, 1, none⟩) (qg (p := ⟨gb359, 0, none⟩) (qq HO349.out BK359.out (by decide)) (fun _ hk => hk.2) (.slice Ao126 t351.length co126)) (fun _ hk => hk.2) (.slice Ao132 t354.length co132)) (fun _ hk => hk.2) (.int .i64 t357)) (fun _ h_ => h_.1))) hb); have n8_ := Aside0.mk (qj (by (with_reducible repeat (first | apply qa | apply qb | apply qc)); exact (qi (qg (p := ⟨gb359, 2, none⟩) (qg (p := ⟨gb359, 1, none⟩) (qg (p := ⟨gb359, 0, none⟩) (qq HO353.out BK359.out (by decide)) (fun _ hk => hk.2) (.slice Ao126 t351.length co126)) (fun _ hk => hk.2) (.slice Ao132 t354.length co132)) (fun _ hk => hk.2) (.int .i64 t357)) (fun _ h_ => h_.1))) hb); have n9_ := Aside0.mk (qj (by (with_reducible repeat (first | apply qa | apply qb | apply qc)); exact (qi (qg (p := ⟨gb359, 2, none⟩) (qg (p := ⟨gb359, 1, none⟩) (qg (p := ⟨gb359, 0, none⟩) (qq HO356.out BK359.out (by decide)) (fun _ hk => hk.2) (.slice Ao126 t351.length co126)) (fun _ hk => hk.2) (.slice Ao132 t354.length co132)) (fun _ hk => hk.2) (.int .i64 t357)) (fun _ h_ => h_.1))) hb); have n10_ := Aside0.mk (qp (g := gb292) (o := .cells #[.slice A0_0 l0_0.length c0_0, .slice A0_1 l0_1.length c0_1, .int .i64 a0_2] 24 (0, 0)) (by (with_reducible repeat (first | refine qe ?_ _ | refine qh ?_ | refine qf ?_ _)); refine qw ?_ NB292_359.out _; (with_reducible repeat (first | refine qe ?_ _ | refine qh ?_ | refine qf ?_ _)); refine qw ?_ NB292_359.out _; (with_reducible repeat (first | refine qe ?_ _ | refine qh ?_ | refine qf ?_ _)); refine qw ?_ NB292_359.out _; (with_reducible repeat (first | refine qe ?_ _ | refine qh ?_ | refine qf ?_ _)); exact BK292.out) hb); have n11_ := Aside0.mk (qp (g := gb309) (o := .cells #[.slice Ao23 t301.length co23, .slice Ao26 t304.length co26, .int .i64 t307] 29 (0, 0)) (by (with_reducible repeat (first | refine qe ?_ _ | refine qh ?_ | refine qf ?_ _)); refine qw ?_ NB309_359.out _; (with_reducible repeat (first | refine qe ?_ _ | refine qh ?_ | refine qf ?_ _)); refine qw ?_ NB309_359.out _; (with_reducible repeat (first | refine qe ?_ _ | refine qh ?_ | refine qf ?_ _)); refine qw ?_ NB309_359.out _; (with_reducible repeat (first | refine qe ?_ _ | refine qh ?_ | refine qf ?_ _)); exact BK309.out) hb); have n12_ := Aside0.mk (qp (g := gb317) (o := .cells #[.slice Ao30 t337.length co30, .slice Ao34 t338.length co34, .int .i64 t316] 29 (0, 0)) (by (with_reducible repeat (first | refine qe ?_ _ | refine qh ?_ | refine qf ?_ _)); refine qw ?_ NB317_359.out _; (with_reducible repeat (first | refine qe ?_ _ | refine qh ?_ | refine qf ?_ _)); refine qw ?_ NB317_359.out _; (with_reducible repeat (first | refine qe ?_ _ | refine qh ?_ | refine qf ?_ _)); refine qw ?_ NB317_359.out _; (with_reducible repeat (first | refine qe ?_ _ | refine qh ?_ | refine qf ?_ _)); exact BK317.out) hb); have n13_ := Aside0.mk (qp (g := gb326) (o := .cells #[.slice Ao37 t318.length co37, .slice Ao42 t321.length co42, .int .i64 t324] 29 (0, 0)) (by (with_reducible repeat (first | refine qe ?_ _ | refine qh ?_ | refine qf ?_ _)); refine qw ?_ NB326_359.out _; (with_reducible repeat (first | refine qe ?_ _ | refine qh ?_ | refine qf ?_ _)); refine qw ?_ NB326_359.out _; (with_reducible repeat (first | refine qe ?_ _ | refine qh ?_ | refine qf ?_ _)); refine qw ?_ NB326_359.out _; (with_reducible repeat (first | refine qe ?_ _ | refine qh ?_ | refine qf ?_ _)); exact BK326.out) hb); have n14_ := Aside0.mk (qp (g := gb359) (o := .cells #[.slice Ao126 t351.length co126, .slice Ao132 t354.length co132, .int .i64 t357] 29 (0, 0)) (by (with_reducible repeat (first | refine qe ?_ _ | refine qh ?_ | refine qf ?_ _)); refine blk_put (cs := #[.slice Ao126 t351.length co126, .slice Ao132 t354.length co132, .int .i64 0]) ?_ 2 _ rfl; (with_reducible repeat (first | refine qe ?_ _ | refine qh ?_ | refine qf ?_ _)); refine blk_put (cs := #[.slice Ao126 t351.length co126, .slice none 0 0, .int .i64 0]) ?_ 1 _ rfl; (with_reducible repeat (first | refine qe ?_ _ | refine qh ?_ | refine qf ?_ _)); refine blk_put (cs := #[.slice none 0 0, .slice none 0 0, .int .i64 0]) ?_ 0 _ rfl; (with_reducible repeat (first | refine qe ?_ _ | refine qh ?_ | refine qf ?_ _)); exact BK359.out) hb); have n15_ := Aside0.mk (qx (by repeat (first | (with_reducible first | exact HB.out | apply qo | apply qk | apply qm | refine qd ?_ GE292.out | refine qd ?_ GE309.out | refine qd ?_ GE317.out | refine qd ?_ GE326.out | refine qd ?_ GE359.out) | exact HB.out)) hb); clear HO_310000; clear HO_310001; clear HO_318000; clear HO_318001; clear HO_327000; clear HO_327001; clear HO346; clear HO349; clear HO353; clear HO356; clear BK292; clear BK309; clear BK317; clear BK326; clear BK359; clear HB; have HO_310000 := n0_; have HO_310001 := n1_; have HO_318000 := n2_; have HO_318001 := n3_; have HO_327000 := n4_; have HO_327001 := n5_; have HO346 := n6_; have HO349 := n7_; have HO353 := n8_; have HO356 := n9_; have BK292 := n10_; have BK309 := n11_; have BK317 := n12_; have BK326 := n13_; have BK359 := n14_; have HB := n15_; clear n0_ n1_ n2_ n3_ n4_ n5_ n6_ n7_ n8_ n9_ n10_ n11_ n12_ n13_ n14_ n15_; (try clear hb); (try clear hb2); (try clear hk); (try clear hi)))
             go_meet
             case rel => exact ⟨_, (true), (by first | rfl | (simp; done) | (simp [*]; done)), H', ⟨by have := HJ12.out; have := HJ65.out; first | omega | exact Nat.le_refl _⟩, ⟨by (try simp only [hl318000_65]); (try simp only [hl318001_65]); (with_reducible repeat (first | apply qa | apply qb | apply qc)); exact qi HO_310000.out (fun _ hk => ⟨hk.1.1.1.1.1, ⟨hk.1.1.1.1.2.1, ⟨hk.1.1.1.1.2.2.1, ⟨hk.1.1.1.1.2.2.2.1, ⟨hk.1.1.1.1.2.2.2.2, ⟨hk.1.2, hk.2⟩⟩⟩⟩⟩⟩)⟩, ⟨by (try simp only [hl318000_65]); (try simp only [hl318001_65]); (with_reducible repeat (first | apply qa | apply qb | apply qc)); exact qi HO_310001.out (fun _ hk => ⟨hk.1.1.1.1.1, ⟨hk.1.1.1.1.2.1, ⟨hk.1.1.1.1.2.2.1, ⟨hk.1.1.1.1.2.2.2.1, ⟨hk.1.1.1.1.2.2.2.2, ⟨hk.1.2, hk.2⟩⟩⟩⟩⟩⟩)⟩, ⟨by (try simp only [hl318000_65]); (try simp only [hl318001_65]); (with_reducible repeat (first | apply qa | apply qb | apply qc)); exact qi HO_318000.out (fun _ hk => ⟨hk.1.1.1.1.1, ⟨hk.1.1.1.1.2.1, ⟨hk.1.1.1.1.2.2.1, ⟨hk.1.1.1.1.2.2.2.1, ⟨hk.1.1.1.1.2.2.2.2, ⟨hk.1.2, hk.2⟩⟩⟩⟩⟩⟩)⟩, ⟨by (try simp only [hl318000_65]); (try simp only [hl318001_65]); (with_reducible repeat (first | apply qa | apply qb | apply qc)); exact qi HO_318001.out (fun _ hk => ⟨hk.1.1.1.1.1, ⟨hk.1.1.1.1.2.1, ⟨hk.1.1.1.1.2.2.1, ⟨hk.1.1.1.1.2.2.2.1, ⟨hk.1.1.1.1.2.2.2.2, ⟨hk.1.2, hk.2⟩⟩⟩⟩⟩⟩)⟩, ⟨by (try simp only [hl318000_65]); (try simp only [hl318001_65]); (with_reducible repeat (first | apply qa | apply qb | apply qc)); exact qi HO_327000.out (fun _ hk => ⟨hk.1.1.1.1.1, ⟨hk.1.1.1.1.2.1, ⟨hk.1.1.1.1.2.2.1, ⟨hk.1.1.1.1.2.2.2.1, ⟨hk.1.1.1.1.2.2.2.2, ⟨hk.1.2, hk.2⟩⟩⟩⟩⟩⟩)⟩, ⟨by (try simp only [hl318000_65]); (try simp only [hl318001_65]); (with_reducible repeat (first | apply qa | apply qb | apply qc)); exact qi HO_327001.out (fun _ hk => ⟨hk.1.1.1.1.1, ⟨hk.1.1.1.1.2.1, ⟨hk.1.1.1.1.2.2.1, ⟨hk.1.1.1.1.2.2.2.1, ⟨hk.1.1.1.1.2.2.2.2, ⟨hk.1.2, hk.2⟩⟩⟩⟩⟩⟩)⟩, ⟨by (try simp only [hl318000_65]); (try simp only [hl318001_65]); (with_reducible repeat (first | apply qa | apply qb | apply qc)); exact qi HO353.out (fun _ hk => ⟨hk.1.1.1.1.1.1.1.2, ⟨hk.1.1.1.1.1.1.2, ⟨hk.1.1.1.1.1.2, ⟨hk.1.1.1.1.2, ⟨hk.1.1.1.2, ⟨hk.1.1.2, hk.1.1.1.1.1.1.1.1⟩⟩⟩⟩⟩⟩)⟩, ⟨by (try simp only [hl318000_65]); (try simp only [hl318001_65]); (with_reducible repeat (first | apply qa | apply qb | apply qc)); exact qi HO356.out (fun _ hk => ⟨hk.1.1.1.1.1.1.1.2, ⟨hk.1.1.1.1.1.1.2, ⟨hk.1.1.1.1.1.2, ⟨hk.1.1.1.1.2, ⟨hk.1.1.1.2, ⟨hk.1.1.2, hk.1.1.1.1.1.1.1.1⟩⟩⟩⟩⟩⟩)⟩, ⟨by (try simp only [hl318000_65]); (try simp only [hl318001_65]); (with_reducible repeat (first | refine qe ?_ _ | refine qh ?_ | refine qf ?_ _)); exact BK292.out⟩, ⟨by (try simp only [hl318000_65]); (try simp only [hl318001_65]); (with_reducible repeat (first | refine qe ?_ _ | refine qh ?_ | refine qf ?_ _)); exact BK309.out⟩, ⟨by (try simp only [hl318000_65]); (try simp only [hl318001_65]); (with_reducible repeat (first | refine qe ?_ _ | refine qh ?_ | refine qf ?_ _)); exact BK317.out⟩, ⟨by (try simp only [hl318000_65]); (try simp only [hl318001_65]); (with_reducible repeat (first | refine qe ?_ _ | refine qh ?_ | refine qf ?_ _)); exact BK326.out⟩, ⟨by (try simp only [hl318000_65]); (try simp only [hl318001_65]); (with_reducible repeat (first | refine qe ?_ _ | refine qh ?_ | refine qf ?_ _)); exact BK359.out⟩, ⟨by repeat (first | (with_reducible first | exact HB.out | apply qo | apply qk | apply qm | refine qd ?_ GE292.out | refine qd ?_ GE309.out | refine qd ?_ GE317.out | refine qd ?_ GE326.out | refine qd ?_ GE359.out) | exact HB.out)⟩⟩
           case rest =>
            clear HC110
            try clear c1
            try clear c2
            try clear p2
            try clear c3
            try clear c4
            try clear c5
            try clear c5b0
            try clear c6
            try clear c7
            try clear c8
            try clear c9
            try clear c10
            try clear c11
            try clear c12
            try clear c13
            try clear c14
            try clear c15
            try clear c17
            try clear c24
            try clear c31
            try clear c32
            try clear c34
            try clear c35
            try clear c36
            try clear c37
            try clear c38
            try clear c39
            try clear c40
            try clear c44
            try clear c45
            try clear c46
            try clear c47
            try clear c49
            try clear c50
            try clear c53
            try clear c54
            try clear c55
            try clear c57
            try clear c58
            try clear c61
            try clear c64
            try clear c72
            try clear c73
            try clear c74
            try clear c77
            try clear c77b0
            try clear c79
            try clear c80
            try clear c81
            try clear c82
            try clear c84
            try clear c85
            try clear c88
            try clear c89
            try clear c90
            try clear c92
            try clear c93
            try clear c96
            try clear c99
            try clear c99b0
            try clear c100
            try clear c101
            try clear c102
            try clear c107
            try clear c107b0
            try clear c107b1
            try clear c111
            try clear c112
            try clear c113
            try clear c118
            try clear c119
            try clear c127
            try clear c128
            try clear c129
            try clear c130
            try clear c134
            try clear c135
            try clear c136
            try clear c137
            try clear c138
            try clear c140
            try clear c141
            try clear c142
            try clear c145
            try clear c146
            try clear c147
            try clear c148
            try clear c150
            try clear c151
            try clear c152
            try clear hcz103_0
            try clear hcz103_1
            try clear hcz103_2
            try clear hcz105_0
            try clear hcz105_1
            try clear hcz105_2
            try clear hcz114_0
            try clear hcz114_1
            try clear hcz114_2
            try clear hcz116_0
            try clear hcz116_1
            try clear hcz116_2
            try clear hcz120_0
            try clear hcz120_1
            try clear hcz120_2
            try clear hcz131_0
            try clear hcz131_1
            try clear hcz131_2
            try clear hcz139_0
            try clear hcz139_1
            try clear hcz139_2
            try clear hcz143_0
            try clear hcz143_1
            try clear hcz143_2
            try clear hcz149_0
            try clear hcz149_1
            try clear hcz149_2
            try clear hcz153_0
            try clear hcz153_1
            try clear hcz153_2
            try clear hcz15_0
            try clear hcz15_1
            try clear hcz15_2
            try clear hcz17_0
            try clear hcz17_1
            try clear hcz17_2
            try clear hcz25_0
            try clear hcz25_1
            try clear hcz25_2
            try clear hcz27_0
            try clear hcz27_1
            try clear hcz27_2
            try clear hcz33_0
            try clear hcz33_1
            try clear hcz33_2
            try clear hcz41_0
            try clear hcz41_1
            try clear hcz41_2
            try clear hcz48_0
            try clear hcz48_1
            try clear hcz48_2
            try clear hcz51_0
            try clear hcz51_1
            try clear hcz51_2
            try clear hcz56_0
            try clear hcz56_1
            try clear hcz56_2
            try clear hcz59_0
            try clear hcz59_1
            try clear hcz59_2
            try clear hcz75_0
            try clear hcz75_1
            try clear hcz75_2
            try clear hcz7_0
            try clear hcz7_1
            try clear hcz7_2
            try clear hcz83_0
            try clear hcz83_1
            try clear hcz83_2
            try clear hcz86_0
            try clear hcz86_1
            try clear hcz86_2
            try clear hcz91_0
            try clear hcz91_1
            try clear hcz91_2
            try clear hcz94_0
            try clear hcz94_1
            try clear hcz94_2
            try clear hfz103_0
            try clear hfz103_1
            try clear hfz103_2
            try clear hfz105_0
            try clear hfz105_1
            try clear hfz105_2
            try clear hfz114_0
            try clear hfz114_1
            try clear hfz114_2
            try clear hfz116_0
            try clear hfz116_1
            try clear hfz116_2
            try clear hfz120_0
            try clear hfz120_1
            try clear hfz120_2
            try clear hfz131_0
            try clear hfz131_1
            try clear hfz131_2
            try clear hfz139_0
            try clear hfz139_1
            try clear hfz139_2
            try clear hfz143_0
            try clear hfz143_1
            try clear hfz143_2
            try clear hfz149_0
            try clear hfz149_1
            try clear hfz149_2
            try clear hfz153_0
            try clear hfz153_1
            try clear hfz153_2
            try clear hfz15_0
            try clear hfz15_1
            try clear hfz15_2
            try clear hfz17_0
            try clear hfz17_1
            try clear hfz17_2
            try clear hfz25_0
            try clear hfz25_1
            try clear hfz25_2
            try clear hfz27_0
            try clear hfz27_1
            try clear hfz27_2
            try clear hfz33_0
            try clear hfz33_1
            try clear hfz33_2
            try clear hfz41_0
            try clear hfz41_1
            try clear hfz41_2
            try clear hfz48_0
            try clear hfz48_1
            try clear hfz48_2
            try clear hfz51_0
            try clear hfz51_1
            try clear hfz51_2
            try clear hfz56_0
            try clear hfz56_1
            try clear hfz56_2
            try clear hfz59_0
            try clear hfz59_1
            try clear hfz59_2
            try clear hfz75_0
            try clear hfz75_1
            try clear hfz75_2
            try clear hfz7_0
            try clear hfz7_1
            try clear hfz7_2
            try clear hfz83_0
            try clear hfz83_1
            try clear hfz83_2
            try clear hfz86_0
            try clear hfz86_1
            try clear hfz86_2
            try clear hfz91_0
            try clear hfz91_1
            try clear hfz91_2
            try clear hfz94_0
            try clear hfz94_1
            try clear hfz94_2
            try clear p2
            obtain ⟨kq, x97_109, rfl, HA, HJ109, HO_310000, HO_310001, HO_318000, HO_318001, HO_327000, HO_327001, HO_360000, HO_360001, BK292, BK309, BK317, BK326, BK359, HB⟩ := hcut
            have hl327000_109 := (Kd.R_reads' HO_327000.out).1
            rw [hl327000_109] at HO_327000
            (try simp only [hl327000_109])
            (try simp only [hl327000_109] at BK292)
            (try simp only [hl327000_109] at BK309)
            (try simp only [hl327000_109] at BK317)
            (try simp only [hl327000_109] at BK326)
            (try simp only [hl327000_109] at BK359)
            (try simp only [hl327000_109] at HO_310000)
            (try simp only [hl327000_109] at HO_310001)
            (try simp only [hl327000_109] at HO_318000)
            (try simp only [hl327000_109] at HO_318001)
            (try simp only [hl327000_109] at HO_327001)
            (try simp only [hl327000_109] at HO_360000)
            (try simp only [hl327000_109] at HO_360001)
            have hl327001_109 := (Kd.R_reads' HO_327001.out).1
            rw [hl327001_109] at HO_327001
            (try simp only [hl327001_109])
            (try simp only [hl327001_109] at BK292)
            (try simp only [hl327001_109] at BK309)
            (try simp only [hl327001_109] at BK317)
            (try simp only [hl327001_109] at BK326)
            (try simp only [hl327001_109] at BK359)
            (try simp only [hl327001_109] at HO_310000)
            (try simp only [hl327001_109] at HO_310001)
            (try simp only [hl327001_109] at HO_318000)
            (try simp only [hl327001_109] at HO_318001)
            (try simp only [hl327001_109] at HO_327000)
            (try simp only [hl327001_109] at HO_360000)
            (try simp only [hl327001_109] at HO_360001)
            cases kq with
            | zero => exact absurd HA.out (by simp [laws_FnExactRaiseJoin.j2])
            | succ kj109 =>
             have H := HA.out
             clear HA
             simp only [laws_FnExactRaiseJoin.j2] at H
             by_cases c155 : x97_109 = true
             ·
              subst c155
              have H1 : (some false) = some r := by rw [if_pos rfl] at H; exact H
              clear H
              have H := H1
              clear H1
              obtain rfl := Option.some.inj H
              go_wp2
              go_ret
              exact ⟨by first | rfl | (simp [errW_none, errW_some] <;> rfl) | (simp [*, errW_none, errW_some] <;> rfl), by repeat (first | (with_reducible first | exact HB.out | apply qo | apply qk | apply qm | refine qd ?_ GE292.out | refine qd ?_ GE309.out | refine qd ?_ GE317.out | refine qd ?_ GE326.out | refine qd ?_ GE359.out) | exact HB.out)⟩
             ·
              replace c155 := Bool.eq_false_iff.mpr c155
              subst c155
              have H1 : ((laws_heldJoin.f kj109 t341 t342 t324 1).bind fun t361 => (if t361 < 0 then (some false) else (if t361 = t340 then (some true) else (some false)))) = some r := by rw [if_neg (show ¬ (false = true) by decide)] at H; exact H
              clear H
              have H := H1
              clear H1
              replace H := Option.bind_eq_some_iff.mp H
              obtain ⟨t361, A1560, H⟩ := H
              replace H : (if t361 < 0 then (some false) else (if t361 = t340 then (some true) else (some false))) = some r := H
              have A156 := Aside0.mk A1560
              clear A1560
              by_cases c157 : t361 < 0
              ·
               rw [if_pos c157] at H
               have c157b0 : decide (t361 < 0) = true := decide_eq_true c157
               clear c157
               obtain rfl := Option.some.inj H
               have hnb158 := NB326_292.out
               have hnc158 := NB292_326.out
               have hnb159 := NB326_309.out
               have hnc159 := NB309_326.out
               have hnb160 := NB326_317.out
               have hnc160 := NB317_326.out
               have hnb161 := NB326_359.out
               have hnc161 := NB359_326.out
               have hcz162_0 : wc.cell? ⟨gb326, 0, none⟩ = some (.slice Ao37 t341.length co37) := (ql BK326.out 0).trans rfl
               have hcz162_1 : wc.cell? ⟨gb326, 1, none⟩ = some (.slice Ao42 t342.length co42) := (ql BK326.out 1).trans rfl
               have hcz162_2 : wc.cell? ⟨gb326, 2, none⟩ = some (.int .i64 t324) := (ql BK326.out 2).trans rfl
               have hfz162_0 := qn BK326.out 0
               have hfz162_1 := qn BK326.out 1
               have hfz162_2 := qn BK326.out 2
               go_wp2_with (first | ((with_reducible refine qz (f := 37) rfl ?_); refine goesL_ (some 100) rfl rfl Try.func37 (by kernel_rfl) rfl #[.agg #[.slice Ao37 t341.length co37, .slice Ao42 t342.length co42, .int .i64 t324], .int .i64 1] rfl (by (try simp only [List.map_toArray, List.map_cons, List.map_nil]); first | done | rfl | (simp only [List.length_drop, List.length_take]; rfl)) ?_; (with_reducible refine (laws_heldJoin.calls kj109 _ _ t341 _ _ t342 t324 1 t361 _ ?side1 ?side2 ?side3 ?side4 A156.out).mono ?_); (case side1 => repeat (first | exact (Kd.R_reads' HO_327000.out).2.2 | (with_reducible refine qt ?_ _) | (with_reducible refine qu ?_ _) | (with_reducible refine qv ?_))); (case side2 => exact (Kd.R_reads' HO_327000.out).2.1); (case side3 => repeat (first | exact (Kd.R_reads' HO_327001.out).2.2 | (with_reducible refine qt ?_ _) | (with_reducible refine qu ?_ _) | (with_reducible refine qv ?_))); (case side4 => exact (Kd.R_reads' HO_327001.out).2.1); rintro e w163 ⟨rfl, hb⟩; refine ⟨_, rfl, ?_⟩; have n0_ := Aside0.mk (qj (by (with_reducible repeat (first | apply qa | apply qb | apply qc)); exact HO_310000.out) hb); have n1_ := Aside0.mk (qj (by (with_reducible repeat (first | apply qa | apply qb | apply qc)); exact HO_310001.out) hb); have n2_ := Aside0.mk (qj (by (with_reducible repeat (first | apply qa | apply qb | apply qc)); exact HO_318000.out) hb); have n3_ := Aside0.mk (qj (by (with_reducible repeat (first | apply qa | apply qb | apply qc)); exact HO_318001.out) hb); have n4_ := Aside0.mk (qj (by (with_reducible repeat (first | apply qa | apply qb | apply qc)); exact HO_327000.out) hb); have n5_ := Aside0.mk (qj (by (with_reducible repeat (first | apply qa | apply qb | apply qc)); exact HO_327001.out) hb); have n6_ := Aside0.mk (qj (by (with_reducible repeat (first | apply qa | apply qb | apply qc)); exact HO_360000.out) hb); have n7_ := Aside0.mk (qj (by (with_reducible repeat (first | apply qa | apply qb | apply qc)); exact HO_360001.out) hb); have n8_ := Aside0.mk (qp (g := gb292) (o := .cells #[.slice A0_0 l0_0.length c0_0, .slice A0_1 l0_1.length c0_1, .int .i64 a0_2] 24 (0, 0)) (by (with_reducible repeat (first | refine qe ?_ _ | refine qh ?_ | refine qf ?_ _)); exact BK292.out) hb); have n9_ := Aside0.mk (qp (g := gb309) (o := .cells #[.slice Ao23 t301.length co23, .slice Ao26 t304.length co26, .int .i64 t307] 29 (0, 0)) (by (with_reducible repeat (first | refine qe ?_ _ | refine qh ?_ | refine qf ?_ _)); exact BK309.out) hb); have n10_ := Aside0.mk (qp (g := gb317) (o := .cells #[.slice Ao30 t337.length co30, .slice Ao34 t338.length co34, .int .i64 t316] 29 (0, 0)) (by (with_reducible repeat (first | refine qe ?_ _ | refine qh ?_ | refine qf ?_ _)); exact BK317.out) hb); have n11_ := Aside0.mk (qp (g := gb326) (o := .cells #[.slice Ao37 t341.length co37, .slice Ao42 t342.length co42, .int .i64 t324] 29 (0, 0)) (by (with_reducible repeat (first | refine qe ?_ _ | refine qh ?_ | refine qf ?_ _)); exact BK326.out) hb); have n12_ := Aside0.mk (qp (g := gb359) (o := .cells #[.slice Ao126 t351.length co126, .slice Ao132 t354.length co132, .int .i64 t357] 29 (0, 0)) (by (with_reducible repeat (first | refine qe ?_ _ | refine qh ?_ | refine qf ?_ _)); exact BK359.out) hb); have n13_ := Aside0.mk (qx (by repeat (first | (with_reducible first | exact HB.out | apply qo | apply qk | apply qm | refine qd ?_ GE292.out | refine qd ?_ GE309.out | refine qd ?_ GE317.out | refine qd ?_ GE326.out | refine qd ?_ GE359.out) | exact HB.out)) hb); clear HO_310000; clear HO_310001; clear HO_318000; clear HO_318001; clear HO_327000; clear HO_327001; clear HO_360000; clear HO_360001; clear BK292; clear BK309; clear BK317; clear BK326; clear BK359; clear HB; have HO_310000 := n0_; have HO_310001 := n1_; have HO_318000 := n2_; have HO_318001 := n3_; have HO_327000 := n4_; have HO_327001 := n5_; have HO_360000 := n6_; have HO_360001 := n7_; have BK292 := n8_; have BK309 := n9_; have BK317 := n10_; have BK326 := n11_; have BK359 := n12_; have HB := n13_; clear n0_ n1_ n2_ n3_ n4_ n5_ n6_ n7_ n8_ n9_ n10_ n11_ n12_ n13_; (try clear hb); (try clear hb2); (try clear hk); (try clear hi)))
               go_ret
               exact ⟨by first | rfl | (simp [errW_none, errW_some] <;> rfl) | (simp [*, errW_none, errW_some] <;> rfl), by repeat (first | (with_reducible first | exact HB.out | apply qo | apply qk | apply qm | refine qd ?_ GE292.out | refine qd ?_ GE309.out | refine qd ?_ GE317.out | refine qd ?_ GE326.out | refine qd ?_ GE359.out) | exact HB.out)⟩
              ·
               rw [if_neg c157] at H
               have c157b0 : decide (t361 < 0) = false := decide_eq_false c157
               clear c157
               by_cases c164 : t361 = t340
               ·
                rw [if_pos c164] at H
                have c164b0 : (t361 == t340) = true := beq_iff_eq.mpr c164
                have c164b1 : (t361 != t340) = false := bne_eq_false_iff_eq.mpr c164
                clear c164
                obtain rfl := Option.some.inj H
                have hnb165 := NB326_292.out
                have hnc165 := NB292_326.out
                have hnb166 := NB326_309.out
                have hnc166 := NB309_326.out
                have hnb167 := NB326_317.out
                have hnc167 := NB317_326.out
                have hnb168 := NB326_359.out
                have hnc168 := NB359_326.out
                have hcz169_0 : wc.cell? ⟨gb326, 0, none⟩ = some (.slice Ao37 t341.length co37) := (ql BK326.out 0).trans rfl
                have hcz169_1 : wc.cell? ⟨gb326, 1, none⟩ = some (.slice Ao42 t342.length co42) := (ql BK326.out 1).trans rfl
                have hcz169_2 : wc.cell? ⟨gb326, 2, none⟩ = some (.int .i64 t324) := (ql BK326.out 2).trans rfl
                have hfz169_0 := qn BK326.out 0
                have hfz169_1 := qn BK326.out 1
                have hfz169_2 := qn BK326.out 2
                go_wp2_with (first | ((with_reducible refine qz (f := 37) rfl ?_); refine goesL_ (some 100) rfl rfl Try.func37 (by kernel_rfl) rfl #[.agg #[.slice Ao37 t341.length co37, .slice Ao42 t342.length co42, .int .i64 t324], .int .i64 1] rfl (by (try simp only [List.map_toArray, List.map_cons, List.map_nil]); first | done | rfl | (simp only [List.length_drop, List.length_take]; rfl)) ?_; (with_reducible refine (laws_heldJoin.calls kj109 _ _ t341 _ _ t342 t324 1 t361 _ ?side1 ?side2 ?side3 ?side4 A156.out).mono ?_); (case side1 => repeat (first | exact (Kd.R_reads' HO_327000.out).2.2 | (with_reducible refine qt ?_ _) | (with_reducible refine qu ?_ _) | (with_reducible refine qv ?_))); (case side2 => exact (Kd.R_reads' HO_327000.out).2.1); (case side3 => repeat (first | exact (Kd.R_reads' HO_327001.out).2.2 | (with_reducible refine qt ?_ _) | (with_reducible refine qu ?_ _) | (with_reducible refine qv ?_))); (case side4 => exact (Kd.R_reads' HO_327001.out).2.1); rintro e w170 ⟨rfl, hb⟩; refine ⟨_, rfl, ?_⟩; have n0_ := Aside0.mk (qj (by (with_reducible repeat (first | apply qa | apply qb | apply qc)); exact HO_310000.out) hb); have n1_ := Aside0.mk (qj (by (with_reducible repeat (first | apply qa | apply qb | apply qc)); exact HO_310001.out) hb); have n2_ := Aside0.mk (qj (by (with_reducible repeat (first | apply qa | apply qb | apply qc)); exact HO_318000.out) hb); have n3_ := Aside0.mk (qj (by (with_reducible repeat (first | apply qa | apply qb | apply qc)); exact HO_318001.out) hb); have n4_ := Aside0.mk (qj (by (with_reducible repeat (first | apply qa | apply qb | apply qc)); exact HO_327000.out) hb); have n5_ := Aside0.mk (qj (by (with_reducible repeat (first | apply qa | apply qb | apply qc)); exact HO_327001.out) hb); have n6_ := Aside0.mk (qj (by (with_reducible repeat (first | apply qa | apply qb | apply qc)); exact HO_360000.out) hb); have n7_ := Aside0.mk (qj (by (with_reducible repeat (first | apply qa | apply qb | apply qc)); exact HO_360001.out) hb); have n8_ := Aside0.mk (qp (g := gb292) (o := .cells #[.slice A0_0 l0_0.length c0_0, .slice A0_1 l0_1.length c0_1, .int .i64 a0_2] 24 (0, 0)) (by (with_reducible repeat (first | refine qe ?_ _ | refine qh ?_ | refine qf ?_ _)); exact BK292.out) hb); have n9_ := Aside0.mk (qp (g := gb309) (o := .cells #[.slice Ao23 t301.length co23, .slice Ao26 t304.length co26, .int .i64 t307] 29 (0, 0)) (by (with_reducible repeat (first | refine qe ?_ _ | refine qh ?_ | refine qf ?_ _)); exact BK309.out) hb); have n10_ := Aside0.mk (qp (g := gb317) (o := .cells #[.slice Ao30 t337.length co30, .slice Ao34 t338.length co34, .int .i64 t316] 29 (0, 0)) (by (with_reducible repeat (first | refine qe ?_ _ | refine qh ?_ | refine qf ?_ _)); exact BK317.out) hb); have n11_ := Aside0.mk (qp (g := gb326) (o := .cells #[.slice Ao37 t341.length co37, .slice Ao42 t342.length co42, .int .i64 t324] 29 (0, 0)) (by (with_reducible repeat (first | refine qe ?_ _ | refine qh ?_ | refine qf ?_ _)); exact BK326.out) hb); have n12_ := Aside0.mk (qp (g := gb359) (o := .cells #[.slice Ao126 t351.length co126, .slice Ao132 t354.length co132, .int .i64 t357] 29 (0, 0)) (by (with_reducible repeat (first | refine qe ?_ _ | refine qh ?_ | refine qf ?_ _)); exact BK359.out) hb); have n13_ := Aside0.mk (qx (by repeat (first | (with_reducible first | exact HB.out | apply qo | apply qk | apply qm | refine qd ?_ GE292.out | refine qd ?_ GE309.out | refine qd ?_ GE317.out | refine qd ?_ GE326.out | refine qd ?_ GE359.out) | exact HB.out)) hb); clear HO_310000; clear HO_310001; clear HO_318000; clear HO_318001; clear HO_327000; clear HO_327001; clear HO_360000; clear HO_360001; clear BK292; clear BK309; clear BK317; clear BK326; clear BK359; clear HB; have HO_310000 := n0_; have HO_310001 := n1_; have HO_318000 := n2_; have HO_318001 := n3_; have HO_327000 := n4_; have HO_327001 := n5_; have HO_360000 := n6_; have HO_360001 := n7_; have BK292 := n8_; have BK309 := n9_; have BK317 := n10_; have BK326 := n11_; have BK359 := n12_; have HB := n13_; clear n0_ n1_ n2_ n3_ n4_ n5_ n6_ n7_ n8_ n9_ n10_ n11_ n12_ n13_; (try clear hb); (try clear hb2); (try clear hk); (try clear hi)))
                go_ret
                exact ⟨by first | rfl | (simp [errW_none, errW_some] <;> rfl) | (simp [*, errW_none, errW_some] <;> rfl), by repeat (first | (with_reducible first | exact HB.out | apply qo | apply qk | apply qm | refine qd ?_ GE292.out | refine qd ?_ GE309.out | refine qd ?_ GE317.out | refine qd ?_ GE326.out | refine qd ?_ GE359.out) | exact HB.out)⟩
               ·
                rw [if_neg c164] at H
                have c164b0 : (t361 == t340) = false := beq_eq_false_iff_ne.mpr c164
                have c164b1 : (t361 != t340) = true := bne_iff_ne.mpr c164
                obtain rfl := Option.some.inj H
                have hnb171 := NB326_292.out
                have hnc171 := NB292_326.out
                have hnb172 := NB326_309.out
                have hnc172 := NB309_326.out
                have hnb173 := NB326_317.out
                have hnc173 := NB317_326.out
                have hnb174 := NB326_359.out
                have hnc174 := NB359_326.out
                have hcz175_0 : wc.cell? ⟨gb326, 0, none⟩ = some (.slice Ao37 t341.length co37) := (ql BK326.out 0).trans rfl
                have hcz175_1 : wc.cell? ⟨gb326, 1, none⟩ = some (.slice Ao42 t342.length co42) := (ql BK326.out 1).trans rfl
                have hcz175_2 : wc.cell? ⟨gb326, 2, none⟩ = some (.int .i64 t324) := (ql BK326.out 2).trans rfl
                have hfz175_0 := qn BK326.out 0
                have hfz175_1 := qn BK326.out 1
                have hfz175_2 := qn BK326.out 2
                go_wp2_with (first | ((with_reducible refine qz (f := 37) rfl ?_); refine goesL_ (some 100) rfl rfl Try.func37 (by kernel_rfl) rfl #[.agg #[.slice Ao37 t341.length co37, .slice Ao42 t342.length co42, .int .i64 t324], .int .i64 1] rfl (by (try simp only [List.map_toArray, List.map_cons, List.map_nil]); first | done | rfl | (simp only [List.length_drop, List.length_take]; rfl)) ?_; (with_reducible refine (laws_heldJoin.calls kj109 _ _ t341 _ _ t342 t324 1 t361 _ ?side1 ?side2 ?side3 ?side4 A156.out).mono ?_); (case side1 => repeat (first | exact (Kd.R_reads' HO_327000.out).2.2 | (with_reducible refine qt ?_ _) | (with_reducible refine qu ?_ _) | (with_reducible refine qv ?_))); (case side2 => exact (Kd.R_reads' HO_327000.out).2.1); (case side3 => repeat (first | exact (Kd.R_reads' HO_327001.out).2.2 | (with_reducible refine qt ?_ _) | (with_reducible refine qu ?_ _) | (with_reducible refine qv ?_))); (case side4 => exact (Kd.R_reads' HO_327001.out).2.1); rintro e w176 ⟨rfl, hb⟩; refine ⟨_, rfl, ?_⟩; have n0_ := Aside0.mk (qj (by (with_reducible repeat (first | apply qa | apply qb | apply qc)); exact HO_310000.out) hb); have n1_ := Aside0.mk (qj (by (with_reducible repeat (first | apply qa | apply qb | apply qc)); exact HO_310001.out) hb); have n2_ := Aside0.mk (qj (by (with_reducible repeat (first | apply qa | apply qb | apply qc)); exact HO_318000.out) hb); have n3_ := Aside0.mk (qj (by (with_reducible repeat (first | apply qa | apply qb | apply qc)); exact HO_318001.out) hb); have n4_ := Aside0.mk (qj (by (with_reducible repeat (first | apply qa | apply qb | apply qc)); exact HO_327000.out) hb); have n5_ := Aside0.mk (qj (by (with_reducible repeat (first | apply qa | apply qb | apply qc)); exact HO_327001.out) hb); have n6_ := Aside0.mk (qj (by (with_reducible repeat (first | apply qa | apply qb | apply qc)); exact HO_360000.out) hb); have n7_ := Aside0.mk (qj (by (with_reducible repeat (first | apply qa | apply qb | apply qc)); exact HO_360001.out) hb); have n8_ := Aside0.mk (qp (g := gb292) (o := .cells #[.slice A0_0 l0_0.length c0_0, .slice A0_1 l0_1.length c0_1, .int .i64 a0_2] 24 (0, 0)) (by (with_reducible repeat (first | refine qe ?_ _ | refine qh ?_ | refine qf ?_ _)); exact BK292.out) hb); have n9_ := Aside0.mk (qp (g := gb309) (o := .cells #[.slice Ao23 t301.length co23, .slice Ao26 t304.length co26, .int .i64 t307] 29 (0, 0)) (by (with_reducible repeat (first | refine qe ?_ _ | refine qh ?_ | refine qf ?_ _)); exact BK309.out) hb); have n10_ := Aside0.mk (qp (g := gb317) (o := .cells #[.slice Ao30 t337.length co30, .slice Ao34 t338.length co34, .int .i64 t316] 29 (0, 0)) (by (with_reducible repeat (first | refine qe ?_ _ | refine qh ?_ | refine qf ?_ _)); exact BK317.out) hb); have n11_ := Aside0.mk (qp (g := gb326) (o := .cells #[.slice Ao37 t341.length co37, .slice Ao42 t342.length co42, .int .i64 t324] 29 (0, 0)) (by (with_reducible repeat (first | refine qe ?_ _ | refine qh ?_ | refine qf ?_ _)); exact BK326.out) hb); have n12_ := Aside0.mk (qp (g := gb359) (o := .cells #[.slice Ao126 t351.length co126, .slice Ao132 t354.length co132, .int .i64 t357] 29 (0, 0)) (by (with_reducible repeat (first | refine qe ?_ _ | refine qh ?_ | refine qf ?_ _)); exact BK359.out) hb); have n13_ := Aside0.mk (qx (by repeat (first | (with_reducible first | exact HB.out | apply qo | apply qk | apply qm | refine qd ?_ GE292.out | refine qd ?_ GE309.out | refine qd ?_ GE317.out | refine qd ?_ GE326.out | refine qd ?_ GE359.out) | exact HB.out)) hb); clear HO_310000; clear HO_310001; clear HO_318000; clear HO_318001; clear HO_327000; clear HO_327001; clear HO_360000; clear HO_360001; clear BK292; clear BK309; clear BK317; clear BK326; clear BK359; clear HB; have HO_310000 := n0_; have HO_310001 := n1_; have HO_318000 := n2_; have HO_318001 := n3_; have HO_327000 := n4_; have HO_327001 := n5_; have HO_360000 := n6_; have HO_360001 := n7_; have BK292 := n8_; have BK309 := n9_; have BK317 := n10_; have BK326 := n11_; have BK359 := n12_; have HB := n13_; clear n0_ n1_ n2_ n3_ n4_ n5_ n6_ n7_ n8_ n9_ n10_ n11_ n12_ n13_; (try clear hb); (try clear hb2); (try clear hk); (try clear hi)))
                go_ret
                exact ⟨by first | rfl | (simp [errW_none, errW_some] <;> rfl) | (simp [*, errW_none, errW_some] <;> rfl), by repeat (first | (with_reducible first | exact HB.out | apply qo | apply qk | apply qm | refine qd ?_ GE292.out | refine qd ?_ GE309.out | refine qd ?_ GE317.out | refine qd ?_ GE326.out | refine qd ?_ GE359.out) | exact HB.out)⟩
          ·
           rw [if_neg c107] at H
           have c107b0 : (t343 == t340) = false := beq_eq_false_iff_ne.mpr c107
           have c107b1 : (t343 != t340) = true := bne_iff_ne.mpr c107
           obtain rfl := Option.some.inj H
           have hnb177 := NB326_292.out
           have hnc177 := NB292_326.out
           have hnb178 := NB326_309.out
           have hnc178 := NB309_326.out
           have hnb179 := NB326_317.out
           have hnc179 := NB317_326.out
           have hcz180_0 : wc.cell? ⟨gb326, 0, none⟩ = some (.slice Ao37 t318.length co37) := (ql BK326.out 0).trans rfl
           have hcz180_1 : wc.cell? ⟨gb326, 1, none⟩ = some (.slice Ao42 t321.length co42) := (ql BK326.out 1).trans rfl
           have hcz180_2 : wc.cell? ⟨gb326, 2, none⟩ = some (.int .i64 t324) := (ql BK326.out 2).trans rfl
           have hfz180_0 := qn BK326.out 0
           have hfz180_1 := qn BK326.out 1
           have hfz180_2 := qn BK326.out 2
           go_wp2_with (first | ((with_reducible refine qz (f := 36) rfl ?_); refine goesL_ (some 72) rfl rfl Try.func36 (by kernel_rfl) rfl #[.agg #[.slice Ao37 t318.length co37, .slice Ao42 t321.length co42, .int .i64 t324], .int .i64 1] rfl (by (try simp only [List.map_toArray, List.map_cons, List.map_nil]); first | done | rfl | (simp only [List.length_drop, List.length_take]; rfl)) ?_; (with_reducible refine (laws_markJoin.calls kj65 (fun k_ => some k_ = (.slice Ao37 t318.length co37 : Value).ownBlock) (.slice Ao37 t318.length co37) t318 (fun k_ => some k_ = (.slice Ao42 t321.length co42 : Value).ownBlock) (.slice Ao42 t321.length co42) t321 t324 1 t340 t341 t342 w _ ?side1 ?side2 ?side3 ?side4 ?side5 A97.out).mono ?_); (case side1 => repeat (first | (with_reducible first | exact HB.out | apply qo | apply qk | apply qm | refine qd ?_ GE292.out | refine qd ?_ GE309.out | refine qd ?_ GE317.out | refine qd ?_ GE326.out) | exact HB.out)); (case side2 => exact Kd.R_tight rfl HO_327000.out); (case side3 => exact fun k_ e_ => (HO_327000.out.1 k_ e_.symm).2.2.2.2); (case side4 => exact Kd.R_tight rfl HO_327001.out); (case side5 => exact fun k_ e_ => (HO_327001.out.1 k_ e_.symm).2.2.2.2); rintro e w181 ⟨rfl, hy0, hy1, hb, hkp⟩; refine ⟨_, rfl, ?_⟩; have n0_ := Aside0.mk (qi (ok' := fun k_ => some k_ ≠ (.slice Ao26 t304.length co26 : Value).ownBlock ∧ some k_ ≠ (.slice Ao30 t337.length co30 : Value).ownBlock ∧ some k_ ≠ (.slice Ao34 t338.length co34 : Value).ownBlock ∧ some k_ ≠ (.slice Ao37 t318.length co37 : Value).ownBlock ∧ some k_ ≠ (.slice Ao42 t321.length co42 : Value).ownBlock) (Kd.R_keptB (HO_310000.out) hkp (fun k_ hk_ hs_ => Or.elim hs_ (fun e_ => (hk_.2.2.2.1) e_) (fun e_ => (hk_.2.2.2.2) e_))) (fun k_ hk_ => ⟨hk_.1.1, hk_.1.2.1, hk_.1.2.2.1, hk_.1.2.2.2.1, hk_.1.2.2.2.2⟩)); have n1_ := Aside0.mk (qi (ok' := fun k_ => some k_ ≠ (.slice Ao23 t301.length co23 : Value).ownBlock ∧ some k_ ≠ (.slice Ao30 t337.length co30 : Value).ownBlock ∧ some k_ ≠ (.slice Ao34 t338.length co34 : Value).ownBlock ∧ some k_ ≠ (.slice Ao37 t318.length co37 : Value).ownBlock ∧ some k_ ≠ (.slice Ao42 t321.length co42 : Value).ownBlock) (Kd.R_keptB (HO_310001.out) hkp (fun k_ hk_ hs_ => Or.elim hs_ (fun e_ => (hk_.2.2.2.1) e_) (fun e_ => (hk_.2.2.2.2) e_))) (fun k_ hk_ => ⟨hk_.1.1, hk_.1.2.1, hk_.1.2.2.1, hk_.1.2.2.2.1, hk_.1.2.2.2.2⟩)); have n2_ := Aside0.mk (qi (ok' := fun k_ => some k_ ≠ (.slice Ao23 t301.length co23 : Value).ownBlock ∧ some k_ ≠ (.slice Ao26 t304.length co26 : Value).ownBlock ∧ some k_ ≠ (.slice Ao34 t338.length co34 : Value).ownBlock ∧ some k_ ≠ (.slice Ao37 t318.length co37 : Value).ownBlock ∧ some k_ ≠ (.slice Ao42 t321.length co42 : Value).ownBlock) (Kd.R_keptB (HO_318000.out) hkp (fun k_ hk_ hs_ => Or.elim hs_ (fun e_ => (hk_.2.2.2.1) e_) (fun e_ => (hk_.2.2.2.2) e_))) (fun k_ hk_ => ⟨hk_.1.1, hk_.1.2.1, hk_.1.2.2.1, hk_.1.2.2.2.1, hk_.1.2.2.2.2⟩)); have n3_ := Aside0.mk (qi (ok' := fun k_ => some k_ ≠ (.slice Ao23 t301.length co23 : Value).ownBlock ∧ some k_ ≠ (.slice Ao26 t304.length co26 : Value).ownBlock ∧ some k_ ≠ (.slice Ao30 t337.length co30 : Value).ownBlock ∧ some k_ ≠ (.slice Ao37 t318.length co37 : Value).ownBlock ∧ some k_ ≠ (.slice Ao42 t321.length co42 : Value).ownBlock) (Kd.R_keptB (HO_318001.out) hkp (fun k_ hk_ hs_ => Or.elim hs_ (fun e_ => (hk_.2.2.2.1) e_) (fun e_ => (hk_.2.2.2.2) e_))) (fun k_ hk_ => ⟨hk_.1.1, hk_.1.2.1, hk_.1.2.2.1, hk_.1.2.2.2.1, hk_.1.2.2.2.2⟩)); have n4_ := Aside0.mk (Kd.R_reok rfl hy0 (fun k_ e_ => HO_327000.out.1 k_ e_)); have n5_ := Aside0.mk (Kd.R_reok rfl hy1 (fun k_ e_ => HO_327001.out.1 k_ e_)); have n6_ := Aside0.mk (blk_kept (by (with_reducible repeat (first | refine qe ?_ _ | refine qh ?_ | refine qf ?_ _)); exact BK292.out) hkp (fun hs_ => Or.elim hs_ (fun e_ => (fun e_ => (ja HO_327000.out BK292.out (by decide)) e_) e_) (fun e_ => (fun e_ => (ja HO_327001.out BK292.out (by decide)) e_) e_))); have n7_ := Aside0.mk (blk_kept (by (with_reducible repeat (first | refine qe ?_ _ | refine qh ?_ | refine qf ?_ _)); exact BK309.out) hkp (fun hs_ => Or.elim hs_ (fun e_ => (fun e_ => (ja HO_327000.out BK309.out (by decide)) e_) e_) (fun e_ => (fun e_ => (ja HO_327001.out BK309.out (by decide)) e_) e_))); have n8_ := Aside0.mk (blk_kept (by (with_reducible repeat (first | refine qe ?_ _ | refine qh ?_ | refine qf ?_ _)); exact BK317.out) hkp (fun hs_ => Or.elim hs_ (fun e_ => (fun e_ => (ja HO_327000.out BK317.out (by decide)) e_) e_) (fun e_ => (fun e_ => (ja HO_327001.out BK317.out (by decide)) e_) e_))); have n9_ := Aside0.mk (blk_kept (by (with_reducible repeat (first | refine qe ?_ _ | refine qh ?_ | refine qf ?_ _)); exact BK326.out) hkp (fun hs_ => Or.elim hs_ (fun e_ => (fun e_ => (ja HO_327000.out BK326.out (by decide)) e_) e_) (fun e_ => (fun e_ => (ja HO_327001.out BK326.out (by decide)) e_) e_))); have n10_ := Aside0.mk (hb); clear HO_310000; clear HO_310001; clear HO_318000; clear HO_318001; clear HO_327000; clear HO_327001; clear BK292; clear BK309; clear BK317; clear BK326; clear HB; have HO_310000 := n0_; have HO_310001 := n1_; have HO_318000 := n2_; have HO_318001 := n3_; have HO_327000 := n4_; have HO_327001 := n5_; have BK292 := n6_; have BK309 := n7_; have BK317 := n8_; have BK326 := n9_; have HB := n10_; clear n0_ n1_ n2_ n3_ n4_ n5_ n6_ n7_ n8_ n9_ n10_; (try clear hb); (try clear hkp); (try clear hy0); (try clear hy1); have hcz182_0 : w181.cell? ⟨gb326, 0, none⟩ = some (.slice Ao37 t318.length co37) := (ql BK326.out 0).trans rfl; have hcz182_1 : w181.cell? ⟨gb326, 1, none⟩ = some (.slice Ao42 t321.length co42) := (ql BK326.out 1).trans rfl; have hcz182_2 : w181.cell? ⟨gb326, 2, none⟩ = some (.int .i64 t324) := (ql BK326.out 2).trans rfl; have hfz182_0 := qn BK326.out 0; have hfz182_1 := qn BK326.out 1; have hfz182_2 := qn BK326.out 2) | ((with_reducible refine qz (f := 37) rfl ?_); refine goesL_ (some 75) rfl rfl Try.func37 (by kernel_rfl) rfl #[.agg #[.slice Ao37 t341.length co37, .slice Ao42 t342.length co42, .int .i64 t324], .int .i64 1] rfl (by (try simp only [List.map_toArray, List.map_cons, List.map_nil]); first | done | (rw [show t341.length = t318.length from (Kd.R_reads' HO_327000.out).1.symm, show t342.length = t321.length from (Kd.R_reads' HO_327001.out).1.symm] <;> rfl) | rfl | (simp only [List.length_drop, List.length_take]; rfl)) ?_; (with_reducible refine (laws_heldJoin.calls kj65 _ _ t341 _ _ t342 t324 1 t343 _ ?side1 ?side2 ?side3 ?side4 A98.out).mono ?_); (case side1 => repeat (first | exact (Kd.R_reads' HO_327000.out).2.2 | (with_reducible refine qt ?_ _) | (with_reducible refine qu ?_ _) | (with_reducible refine qv ?_))); (case side2 => rw [show t341.length = t318.length from (Kd.R_reads' HO_327000.out).1.symm]; exact (Kd.R_reads' HO_327000.out).2.1); (case side3 => repeat (first | exact (Kd.R_reads' HO_327001.out).2.2 | (with_reducible refine qt ?_ _) | (with_reducible refine qu ?_ _) | (with_reducible refine qv ?_))); (case side4 => rw [show t342.length = t321.length from (Kd.R_reads' HO_327001.out).1.symm]; exact (Kd.R_reads' HO_327001.out).2.1); rintro e w183 ⟨rfl, hb⟩; refine ⟨_, rfl, ?_⟩; have n0_ := Aside0.mk (qj (by (with_reducible repeat (first | apply qa | apply qb | apply qc)); exact HO_310000.out) hb); have n1_ := Aside0.mk (qj (by (with_reducible repeat (first | apply qa | apply qb | apply qc)); exact HO_310001.out) hb); have n2_ := Aside0.mk (qj (by (with_reducible repeat (first | apply qa | apply qb | apply qc)); exact HO_318000.out) hb); have n3_ := Aside0.mk (qj (by (with_reducible repeat (first | apply qa | apply qb | apply qc)); exact HO_318001.out) hb); have n4_ := Aside0.mk (qj (by (with_reducible repeat (first | apply qa | apply qb | apply qc)); exact HO_327000.out) hb); have n5_ := Aside0.mk (qj (by (with_reducible repeat (first | apply qa | apply qb | apply qc)); exact HO_327001.out) hb); have n6_ := Aside0.mk (qp (g := gb292) (o := .cells #[.slice A0_0 l0_0.length c0_0, .slice A0_1 l0_1.length c0_1, .int .i64 a0_2] 24 (0, 0)) (by (with_reducible repeat (first | refine qe ?_ _ | refine qh ?_ | refine qf ?_ _)); exact BK292.out) hb); have n7_ := Aside0.mk (qp (g := gb309) (o := .cells #[.slice Ao23 t301.length co23, .slice Ao26 t304.length co26, .int .i64 t307] 29 (0, 0)) (by (with_reducible repeat (first | refine qe ?_ _ | refine qh ?_ | refine qf ?_ _)); exact BK309.out) hb); have n8_ := Aside0.mk (qp (g := gb317) (o := .cells #[.slice Ao30 t337.length co30, .slice Ao34 t338.length co34, .int .i64 t316] 29 (0, 0)) (by (with_reducible repeat (first | refine qe ?_ _ | refine qh ?_ | refine qf ?_ _)); exact BK317.out) hb); have n9_ := Aside0.mk (qp (g := gb326) (o := .cells #[.slice Ao37 t318.length co37, .slice Ao42 t321.length co42, .int .i64 t324] 29 (0, 0)) (by (with_reducible repeat (first | refine qe ?_ _ | refine qh ?_ | refine qf ?_ _)); exact BK326.out) hb); have n10_ := Aside0.mk (qx (by repeat (first | (with_reducible first | exact HB.out | apply qo | apply qk | apply qm | refine qd ?_ GE292.out | refine qd ?_ GE309.out | refine qd ?_ GE317.out | refine qd ?_ GE326.out) | exact HB.out)) hb); clear HO_310000; clear HO_310001; clear HO_318000; clear HO_318001; clear HO_327000; clear HO_327001; clear BK292; clear BK309; clear BK317; clear BK326; clear HB; have HO_310000 := n0_; have HO_310001 := n1_; have HO_318000 := n2_; have HO_318001 := n3_; have HO_327000 := n4_; have HO_327001 := n5_; have BK292 := n6_; have BK309 := n7_; have BK317 := n8_; have BK326 := n9_; have HB := n10_; clear n0_ n1_ n2_ n3_ n4_ n5_ n6_ n7_ n8_ n9_ n10_; (try clear hb); (try clear hb2); (try clear hk); (try clear hi)))
           go_ret
           exact ⟨by first | rfl | (simp [errW_none, errW_some] <;> rfl) | (simp [*, errW_none, errW_some] <;> rfl), by repeat (first | (with_reducible first | exact HB.out | apply qo | apply qk | apply qm | refine qd ?_ GE292.out | refine qd ?_ GE309.out | refine qd ?_ GE317.out | refine qd ?_ GE326.out) | exact HB.out)⟩
     ·
      replace c64 := Bool.eq_false_iff.mpr c64
      subst c64
      have H1 : (some false) = some r := by rw [if_neg (show ¬ (false = true) by decide)] at H; exact H
      clear H
      have H := H1
      clear H1
      obtain rfl := Option.some.inj H
      try go_wp2
      have n0_ := Aside0.mk (qc HO_310000.out)
      have n1_ := Aside0.mk (qc HO_310001.out)
      have n2_ := Aside0.mk (qc HO_318000.out)
      have n3_ := Aside0.mk (qc HO_318001.out)
      have n4_ := Aside0.mk (qc HO_327000.out)
      have n5_ := Aside0.mk (qc HO_327001.out)
      have n6_ := Aside0.mk (qh BK292.out)
      have n7_ := Aside0.mk (qh BK309.out)
      have n8_ := Aside0.mk (qh BK317.out)
      have n9_ := Aside0.mk (qh BK326.out)
      have n10_ := Aside0.mk (qm HB.out)
      clear HO_310000
      clear HO_310001
      clear HO_318000
      clear HO_318001
      clear HO_327000
      clear HO_327001
      clear BK292
      clear BK309
      clear BK317
      clear BK326
      clear HB
      have HO_310000 := n0_
      have HO_310001 := n1_
      have HO_318000 := n2_
      have HO_318001 := n3_
      have HO_327000 := n4_
      have HO_327001 := n5_
      have BK292 := n6_
      have BK309 := n7_
      have BK317 := n8_
      have BK326 := n9_
      have HB := n10_
      clear n0_ n1_ n2_ n3_ n4_ n5_ n6_ n7_ n8_ n9_ n10_
      refine start_ (n := 5) (S := fun w' => w'.cell? ⟨gb317, 0, none⟩ = some (.slice Ao30 t310.length co30) ∧ w'.cell? ⟨gb317, 1, none⟩ = some (.slice Ao34 t313.length co34) ∧ w'.cell? ⟨gb317, 2, none⟩ = some (.int .i64 t316) ∧ w'.cell? ⟨gb292, 0, none⟩ = some (.slice A0_0 l0_0.length c0_0) ∧ w'.cell? ⟨gb292, 1, none⟩ = some (.slice A0_1 l0_1.length c0_1) ∧ w'.cell? ⟨gb292, 2, none⟩ = some (.int .i64 a0_2)) (ds := []) #[false, false, false, false, false] (by kernel_rfl) rfl rfl ⟨(ql BK317.out 0).trans rfl, (ql BK317.out 1).trans rfl, (ql BK317.out 2).trans rfl, (ql BK292.out 0).trans rfl, (ql BK292.out 1).trans rfl, (ql BK292.out 2).trans rfl⟩ (fun hHeld => ?_)
      generalize wc.drew = w184 at HO_310000 HO_310001 HO_318000 HO_318001 HO_327000 HO_327001 BK292 BK309 BK317 BK326 HB hHeld ⊢
      refine take_ (i := 0) (N := some 49) (v := ?_) (a' := ?_) #[true, false, false, false, false] rfl rfl (by kernel_rfl) (fun _ _ _ h => h) (Or.inl ⟨by rfl, ?_⟩) hHeld ?_ ?_
      rotate_left
      ·
       rintro w' ⟨s0, s1, s2, s3, s4, s5⟩
       go_simp
       with_reducible rfl
      rotate_left
      ·
       simp only [Act.put, List.setIfInBounds_toArray, List.set_cons_zero, List.set_cons_succ, i64_w, i32_w]
       rfl
      refine take_ (i := 1) (N := some 50) (v := ?_) (a' := ?_) #[true, true, false, false, false] rfl rfl (by kernel_rfl) (fun _ _ _ h => h) (Or.inl ⟨by rfl, ?_⟩) hHeld ?_ ?_
      rotate_left
      ·
       rintro w' ⟨s0, s1, s2, s3, s4, s5⟩
       go_simp
       with_reducible rfl
      rotate_left
      ·
       simp only [Act.put, List.setIfInBounds_toArray, List.set_cons_zero, List.set_cons_succ, i64_w, i32_w]
       rfl
      refine one_ (i := 2) (N := some 51) #[true, true, true, false, false] rfl rfl (by kernel_rfl) (by decide) (fun K hK => ?_)
      refine goes_ Try.func15 (by kernel_rfl) rfl #[.agg #[.slice A0_0 l0_0.length c0_0, .slice A0_1 l0_1.length c0_1, .int .i64 a0_2]] (by rfl) rfl rfl (by (try simp only [List.map_toArray, List.map_cons, List.map_nil]); first | done | rfl | (simp only [List.length_drop, List.length_take]; rfl)) ?_
      with_reducible refine (laws_toJoin.calls kj12 _ _ l0_0 _ _ l0_1 a0_2 t328 t331 t334 _ ?side1 ?side2 ?side3 ?side4 A62.out).mono ?_
      (case side1 => repeat (first | exact (Kd.C_below HR0_0.out HB.out) | (with_reducible refine qt ?_ _) | (with_reducible refine qu ?_ _) | (with_reducible refine qv ?_)))
      (case side2 => exact HC0_0.out)
      (case side3 => repeat (first | exact (Kd.C_below HR0_1.out HB.out) | (with_reducible refine qt ?_ _) | (with_reducible refine qu ?_ _) | (with_reducible refine qv ?_)))
      (case side4 => exact HC0_1.out)
      rintro e w185 ⟨v329, v332, rfl, ho0, ho1, hb⟩
      refine ⟨_, rfl, ?_⟩
      have n0_ := Aside0.mk (qi (Kd.R_told (Kd.R_told (Kd.R_old (by (with_reducible repeat (first | apply qa | apply qb | apply qc)); exact HO_310000.out) hb) (qr ho0)) (qr ho1)) (fun _ h_ => h_.1))
      have n1_ := Aside0.mk (qi (Kd.R_told (Kd.R_told (Kd.R_old (by (with_reducible repeat (first | apply qa | apply qb | apply qc)); exact HO_310001.out) hb) (qr ho0)) (qr ho1)) (fun _ h_ => h_.1))
      have n2_ := Aside0.mk (qi (Kd.R_told (Kd.R_told (Kd.R_old (by (with_reducible repeat (first | apply qa | apply qb | apply qc)); exact HO_318000.out) hb) (qr ho0)) (qr ho1)) (fun _ h_ => h_.1))
      have n3_ := Aside0.mk (qi (Kd.R_told (Kd.R_told (Kd.R_old (by (with_reducible repeat (first | apply qa | apply qb | apply qc)); exact HO_318001.out) hb) (qr ho0)) (qr ho1)) (fun _ h_ => h_.1))
      have n4_ := Aside0.mk (qi (Kd.R_told (Kd.R_told (Kd.R_old (by (with_reducible repeat (first | apply qa | apply qb | apply qc)); exact HO_327000.out) hb) (qr ho0)) (qr ho1)) (fun _ h_ => h_.1))
      have n5_ := Aside0.mk (qi (Kd.R_told (Kd.R_told (Kd.R_old (by (with_reducible repeat (first | apply qa | apply qb | apply qc)); exact HO_327001.out) hb) (qr ho0)) (qr ho1)) (fun _ h_ => h_.1))
      have n6_ := Aside0.mk (Kd.R_lower (Kd.R_new' (Kd.R_new' (Kd.R_new' (Kd.R_new' (Kd.R_new' (Kd.R_new' ho0 (qs (by (with_reducible repeat (first | apply qa | apply qb | apply qc)); exact HO_310000.out))) (qs (by (with_reducible repeat (first | apply qa | apply qb | apply qc)); exact HO_310001.out))) (qs (by (with_reducible repeat (first | apply qa | apply qb | apply qc)); exact HO_318000.out))) (qs (by (with_reducible repeat (first | apply qa | apply qb | apply qc)); exact HO_318001.out))) (qs (by (with_reducible repeat (first | apply qa | apply qb | apply qc)); exact HO_327000.out))) (qs (by (with_reducible repeat (first | apply qa | apply qb | apply qc)); exact HO_327001.out))) (qy (by repeat (first | (with_reducible first | exact HB.out | apply qo | apply qk | apply qm | refine qd ?_ GE292.out | refine qd ?_ GE309.out | refine qd ?_ GE317.out | refine qd ?_ GE326.out) | exact HB.out))))
      have n7_ := Aside0.mk (Kd.R_lower (Kd.R_new' (Kd.R_new' (Kd.R_new' (Kd.R_new' (Kd.R_new' (Kd.R_new' ho1 (qs (by (with_reducible repeat (first | apply qa | apply qb | apply qc)); exact HO_310000.out))) (qs (by (with_reducible repeat (first | apply qa | apply qb | apply qc)); exact HO_310001.out))) (qs (by (with_reducible repeat (first | apply qa | apply qb | apply qc)); exact HO_318000.out))) (qs (by (with_reducible repeat (first | apply qa | apply qb | apply qc)); exact HO_318001.out))) (qs (by (with_reducible repeat (first | apply qa | apply qb | apply qc)); exact HO_327000.out))) (qs (by (with_reducible repeat (first | apply qa | apply qb | apply qc)); exact HO_327001.out))) (qy (by repeat (first | (with_reducible first | exact HB.out | apply qo | apply qk | apply qm | refine qd ?_ GE292.out | refine qd ?_ GE309.out | refine qd ?_ GE317.out | refine qd ?_ GE326.out) | exact HB.out))))
      have n8_ := Aside0.mk (qp (g := gb292) (o := .cells #[.slice A0_0 l0_0.length c0_0, .slice A0_1 l0_1.length c0_1, .int .i64 a0_2] 24 (0, 0)) (by (with_reducible repeat (first | refine qe ?_ _ | refine qh ?_ | refine qf ?_ _)); exact BK292.out) hb)
      have n9_ := Aside0.mk (qp (g := gb309) (o := .cells #[.slice Ao23 t301.length co23, .slice Ao26 t304.length co26, .int .i64 t307] 29 (0, 0)) (by (with_reducible repeat (first | refine qe ?_ _ | refine qh ?_ | refine qf ?_ _)); exact BK309.out) hb)
      have n10_ := Aside0.mk (qp (g := gb317) (o := .cells #[.slice Ao30 t310.length co30, .slice Ao34 t313.length co34, .int .i64 t316] 29 (0, 0)) (by (with_reducible repeat (first | refine qe ?_ _ | refine qh ?_ | refine qf ?_ _)); exact BK317.out) hb)
      have n11_ := Aside0.mk (qp (g := gb326) (o := .cells #[.slice Ao37 t318.length co37, .slice Ao42 t321.length co42, .int .i64 t324] 29 (0, 0)) (by (with_reducible repeat (first | refine qe ?_ _ | refine qh ?_ | refine qf ?_ _)); exact BK326.out) hb)
      have n12_ := Aside0.mk (qx (by repeat (first | (with_reducible first | exact HB.out | apply qo | apply qk | apply qm | refine qd ?_ GE292.out | refine qd ?_ GE309.out | refine qd ?_ GE317.out | refine qd ?_ GE326.out) | exact HB.out)) hb)
      clear HO_310000
      clear HO_310001
      clear HO_318000
      clear HO_318001
      clear HO_327000
      clear HO_327001
      clear BK292
      clear BK309
      clear BK317
      clear BK326
      clear HB
      have HO_310000 := n0_
      have HO_310001 := n1_
      have HO_318000 := n2_
      have HO_318001 := n3_
      have HO_327000 := n4_
      have HO_327001 := n5_
      have HO330 := n6_
      have HO333 := n7_
      have BK292 := n8_
      have BK309 := n9_
      have BK317 := n10_
      have BK326 := n11_
      have HB := n12_
      clear n0_ n1_ n2_ n3_ n4_ n5_ n6_ n7_ n8_ n9_ n10_ n11_ n12_
      (try clear hb)
      (try clear hb2)
      (try clear hk)
      (try clear hi)
      (try clear ho0)
      (try clear ho1)
      obtain ⟨Ao186, co186, eo186⟩ := Kd.R_slice HO330.out
      (first | subst eo186 | (injection eo186 with f1_ f2_ f3_; have f4_ := f1_.symm; have f5_ := f3_.symm; clear f1_ f2_ f3_; subst f4_; subst f5_))
      obtain ⟨Ao187, co187, eo187⟩ := Kd.R_slice HO333.out
      (first | subst eo187 | (injection eo187 with f1_ f2_ f3_; have f4_ := f1_.symm; have f5_ := f3_.symm; clear f1_ f2_ f3_; subst f4_; subst f5_))
      refine hK.out _ _ ⟨(ql BK317.out 0).trans rfl, (ql BK317.out 1).trans rfl, (ql BK317.out 2).trans rfl, (ql BK292.out 0).trans rfl, (ql BK292.out 1).trans rfl, (ql BK292.out 2).trans rfl⟩ (fun hHeld => ?_)
      clear hK K
      refine norm_ (a' := ?_) ?_ ?_
      rotate_left
      ·
       show Act.put _ (some 51) _ = _
       simp only [Act.put, List.setIfInBounds_toArray, List.set_cons_zero, List.set_cons_succ, i64_w, i32_w]
       rfl
      refine one_ (i := 3) (N := some 52) #[true, true, true, true, false] rfl rfl (by kernel_rfl) (by decide) (fun K hK => ?_)
      refine goes_ Try.func17 (by kernel_rfl) rfl #[.agg #[.slice Ao30 t310.length co30, .slice Ao34 t313.length co34, .int .i64 t316], .agg #[.slice Ao186 t328.length co186, .slice Ao187 t331.length co187, .int .i64 t334]] (by rfl) rfl rfl (by (try simp only [List.map_toArray, List.map_cons, List.map_nil]); first | done | rfl | (simp only [List.length_drop, List.length_take]; rfl)) ?_
      with_reducible refine (laws_eqJoin.calls kj12 _ _ t310 _ _ t313 t316 _ _ t328 _ _ t331 t334 false _ ?side1 ?side2 ?side3 ?side4 ?side5 ?side6 ?side7 ?side8 A63.out).mono ?_
      (case side1 => repeat (first | exact (Kd.R_reads' HO_318000.out).2.2 | (with_reducible refine qt ?_ _) | (with_reducible refine qu ?_ _) | (with_reducible refine qv ?_)))
      (case side2 => exact (Kd.R_reads' HO_318000.out).2.1)
      (case side3 => repeat (first | exact (Kd.R_reads' HO_318001.out).2.2 | (with_reducible refine qt ?_ _) | (with_reducible refine qu ?_ _) | (with_reducible refine qv ?_)))
      (case side4 => exact (Kd.R_reads' HO_318001.out).2.1)
      (case side5 => repeat (first | exact (Kd.R_reads' HO330.out).2.2 | (with_reducible refine qt ?_ _) | (with_reducible refine qu ?_ _) | (with_reducible refine qv ?_)))
      (case side6 => exact (Kd.R_reads' HO330.out).2.1)
      (case side7 => repeat (first | exact (Kd.R_reads' HO333.out).2.2 | (with_reducible refine qt ?_ _) | (with_reducible refine qu ?_ _) | (with_reducible refine qv ?_)))
      (case side8 => exact (Kd.R_reads' HO333.out).2.1)
      rintro e w188 ⟨rfl, hb⟩
      refine ⟨_, rfl, ?_⟩
      have n0_ := Aside0.mk (qj (by (with_reducible repeat (first | apply qa | apply qb | apply qc)); exact HO_310000.out) hb)
      have n1_ := Aside0.mk (qj (by (with_reducible repeat (first | apply qa | apply qb | apply qc)); exact HO_310001.out) hb)
      have n2_ := Aside0.mk (qj (by (with_reducible repeat (first | apply qa | apply qb | apply qc)); exact HO_318000.out) hb)
      have n3_ := Aside0.mk (qj (by (with_reducible repeat (first | apply qa | apply qb | apply qc)); exact HO_318001.out) hb)
      have n4_ := Aside0.mk (qj (by (with_reducible repeat (first | apply qa | apply qb | apply qc)); exact HO_327000.out) hb)
      have n5_ := Aside0.mk (qj (by (with_reducible repeat (first | apply qa | apply qb | apply qc)); exact HO_327001.out) hb)
      have n6_ := Aside0.mk (qj (by (with_reducible repeat (first | apply qa | apply qb | apply qc)); exact HO330.out) hb)
      have n7_ := Aside0.mk (qj (by (with_reducible repeat (first | apply qa | apply qb | apply qc)); exact HO333.out) hb)
      have n8_ := Aside0.mk (qp (g := gb292) (o := .cells #[.slice A0_0 l0_0.length c0_0, .slice A0_1 l0_1.length c0_1, .int .i64 a0_2] 24 (0, 0)) (by (with_reducible repeat (first | refine qe ?_ _ | refine qh ?_ | refine qf ?_ _)); exact BK292.out) hb)
      have n9_ := Aside0.mk (qp (g := gb309) (o := .cells #[.slice Ao23 t301.length co23, .slice Ao26 t304.length co26, .int .i64 t307] 29 (0, 0)) (by (with_reducible repeat (first | refine qe ?_ _ | refine qh ?_ | refine qf ?_ _)); exact BK309.out) hb)
      have n10_ := Aside0.mk (qp (g := gb317) (o := .cells #[.slice Ao30 t310.length co30, .slice Ao34 t313.length co34, .int .i64 t316] 29 (0, 0)) (by (with_reducible repeat (first | refine qe ?_ _ | refine qh ?_ | refine qf ?_ _)); exact BK317.out) hb)
      have n11_ := Aside0.mk (qp (g := gb326) (o := .cells #[.slice Ao37 t318.length co37, .slice Ao42 t321.length co42, .int .i64 t324] 29 (0, 0)) (by (with_reducible repeat (first | refine qe ?_ _ | refine qh ?_ | refine qf ?_ _)); exact BK326.out) hb)
      have n12_ := Aside0.mk (qx (by repeat (first | (with_reducible first | exact HB.out | apply qo | apply qk | apply qm | refine qd ?_ GE292.out | refine qd ?_ GE309.out | refine qd ?_ GE317.out | refine qd ?_ GE326.out) | exact HB.out)) hb)
      clear HO_310000
      clear HO_310001
      clear HO_318000
      clear HO_318001
      clear HO_327000
      clear HO_327001
      clear HO330
      clear HO333
      clear BK292
      clear BK309
      clear BK317
      clear BK326
      clear HB
      have HO_310000 := n0_
      have HO_310001 := n1_
      have HO_318000 := n2_
      have HO_318001 := n3_
      have HO_327000 := n4_
      have HO_327001 := n5_
      have HO330 := n6_
      have HO333 := n7_
      have BK292 := n8_
      have BK309 := n9_
      have BK317 := n10_
      have BK326 := n11_
      have HB := n12_
      clear n0_ n1_ n2_ n3_ n4_ n5_ n6_ n7_ n8_ n9_ n10_ n11_ n12_
      (try clear hb)
      (try clear hb2)
      (try clear hk)
      (try clear hi)
      refine hK.out _ _ ⟨(ql BK317.out 0).trans rfl, (ql BK317.out 1).trans rfl, (ql BK317.out 2).trans rfl, (ql BK292.out 0).trans rfl, (ql BK292.out 1).trans rfl, (ql BK292.out 2).trans rfl⟩ (fun hHeld => ?_)
      clear hK K
      refine norm_ (a' := ?_) ?_ ?_
      rotate_left
      ·
       show Act.put _ (some 52) _ = _
       simp only [Act.put, List.setIfInBounds_toArray, List.set_cons_zero, List.set_cons_succ, i64_w, i32_w]
       rfl
      refine pure_ (i := 4) (N := some 53) (v := ?_) (a' := ?_) #[true, true, true, true, true] rfl rfl (by kernel_rfl) (fun _ _ _ h => h) (Or.inl ⟨by rfl, ?_⟩) ?_ ?_
      rotate_left
      ·
       intro w'
       go_simp
       with_reducible rfl
      rotate_left
      ·
       simp only [Act.put, List.setIfInBounds_toArray, List.set_cons_zero, List.set_cons_succ, i64_w, i32_w]
       rfl
      refine done_ (by kernel_rfl) ?_
      try go_wp2
      go_ret
      exact ⟨by first | rfl | (simp [errW_none, errW_some] <;> rfl) | (simp [*, errW_none, errW_some] <;> rfl), by repeat (first | (with_reducible first | exact HB.out | apply qo | apply qk | apply qm | refine qd ?_ GE292.out | refine qd ?_ GE309.out | refine qd ?_ GE317.out | refine qd ?_ GE326.out) | exact HB.out)⟩

end Go.Proofs.Ytkdndllgocdbdaa.PFnExactRaiseJoin

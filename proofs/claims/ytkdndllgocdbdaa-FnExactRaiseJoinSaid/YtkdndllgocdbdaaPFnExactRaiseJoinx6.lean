-- Written by this session's program myprint.py over the kit's print and its own texts; Lean checks it.
-- made smaller: short names, half the indentation
import Derived.Test.YtkdndllgocdbdaaPFnExactRaiseJoinx0
import Derived.Test.YtkdndllgocdbdaaPFnExactRaiseJoinx4
import Derived.Test.YtkdndllgocdbdaaPFnExactRaiseJoinx5
namespace Go.Proofs.Ytkdndllgocdbdaa.PFnExactRaiseJoin
open Go.RowKit Go.Proofs.YtkdndllgocdbdaaW.PrintWords Go.Proofs.YtkdndllgocdbdaaW.PrintLast Go.Proofs.YtkdndllgocdbdaaW.PrintMore
open Go.Proofs.YtkdndllgocdbdaaW.PrintWords renaming blk_drewN → qa, blk_alloc → qb, blk_drew → qc, below_set → qd, pw_below_drewN → qe, below_drew1 → qf, below_alloc → qg, blk_frozen → qh, blk_cell → qk, blk_far → qo, blk_below → qp
open Go.Proofs.YtkdndllgocdbdaaW.PrintWords.Kd renaming R_alloc → qi, R_drewN → qj, R_drew → ql, R_far → qm, R_mono → qn
attribute [local go_sem] max2_int min2_int max_two min_two max_three min_three max_four min_four   -- for this text's walks alone
set_option linter.unusedVariables false
set_option linter.unusedSimpArgs false

/-! ### slices_DeleteFunc_impl_Frame_impl_Frame_impl_RaiseJoin_1: function 74 -/
def slices_DeleteFunc_impl_Frame_impl_Frame_impl_RaiseJoin_1.l0 : Nat → List (S56) → List Int → List Int → Int → Int → Option ((List (S56)))
 | 0, _, _, _, _, _ => none
 | k + 1, x0, x2, x3, x5, x6 => if x6 < (x0.length : Int) then (if 0 ≤ x6 then ((impl_RaiseJoin_1.f ((rd_T56 x0 x6).f0) ((rd_T56 x0 x6).f1) ((rd_T56 x0 x6).f2) ((rd_T56 x0 x6).f3) x2 x3).bind fun t244 => (if t244 = true then (slices_DeleteFunc_impl_Frame_impl_Frame_impl_RaiseJoin_1.l0 k x0 x2 x3 x5 (wrap64 (x6 + 1))) else (if 0 ≤ x5 then (if x5 < (x0.length : Int) then (slices_DeleteFunc_impl_Frame_impl_Frame_impl_RaiseJoin_1.l0 k (x0.set (x5 : Int).toNat (⟨(rd_T56 x0 x6).f0, (rd_T56 x0 x6).f1, (rd_T56 x0 x6).f2, (rd_T56 x0 x6).f3⟩ : S56)) x2 x3 (wrap64 (x5 + 1)) (wrap64 (x6 + 1))) else (none)) else (none)))) else (none)) else (if 0 ≤ x5 then (if x5 ≤ (x0.length : Int) then ((some (x0.take (x5 : Int).toNat ++ List.replicate (x0.length - (x5 : Int).toNat) z56 : List (S56))).bind fun y250 => (if x5 ≤ (y250.length : Int) then (some (y250.take (x5 : Int).toNat)) else (none))) else (none)) else (none))
def slices_DeleteFunc_impl_Frame_impl_Frame_impl_RaiseJoin_1.f (k : Nat) (l0 : List (S56)) (a1 : Unit) (l2 : List Int) (l3 : List Int) : Option ((List (S56))) := (slices_IndexFunc_impl_Frame_impl_Frame_impl_RaiseJoin_1.f k l0 a1 l2 l3).bind fun t241 => (if t241 = (-1) then (some l0) else (slices_DeleteFunc_impl_Frame_impl_Frame_impl_RaiseJoin_1.l0 k l0 l2 l3 t241 (wrap64 (t241 + 1))))
theorem slices_DeleteFunc_impl_Frame_impl_Frame_impl_RaiseJoin_1.mono_l : ∀ k, (∀ y0 y1 y2 y3 y4, LeO (slices_DeleteFunc_impl_Frame_impl_Frame_impl_RaiseJoin_1.l0 k y0 y1 y2 y3 y4) (slices_DeleteFunc_impl_Frame_impl_Frame_impl_RaiseJoin_1.l0 (k + 1) y0 y1 y2 y3 y4))
 | 0 => fun _ _ _ _ _ r h => by simp [slices_DeleteFunc_impl_Frame_impl_Frame_impl_RaiseJoin_1.l0] at h
 | k + 1 => by
  have ih0 := slices_DeleteFunc_impl_Frame_impl_Frame_impl_RaiseJoin_1.mono_l k
  ·
   intro y0 y1 y2 y3 y4
   unfold slices_DeleteFunc_impl_Frame_impl_Frame_impl_RaiseJoin_1.l0
   repeat' first
   | (with_reducible exact ih0 _ _ _ _ _)
   | (with_reducible exact slices_IndexFunc_impl_Frame_impl_Frame_impl_RaiseJoin_1.mono _ _ _ _ _)
   | (with_reducible exact LeO.refl _)
   | (with_reducible exact LeO.none _)
   | (with_reducible refine LeO.ite ?_ ?_)
   | (with_reducible refine LeO.bind ?_ (fun _ => ?_))
   | exact ih0 _ _ _ _ _
   | exact slices_IndexFunc_impl_Frame_impl_Frame_impl_RaiseJoin_1.mono _ _ _ _ _
   | exact LeO.none _
   | refine LeO.ite ?_ ?_
   | refine LeO.bind ?_ (fun _ => ?_)
theorem slices_DeleteFunc_impl_Frame_impl_Frame_impl_RaiseJoin_1.mono : ∀ a0 a1 a2 a3 k, LeO (slices_DeleteFunc_impl_Frame_impl_Frame_impl_RaiseJoin_1.f k a0 a1 a2 a3) (slices_DeleteFunc_impl_Frame_impl_Frame_impl_RaiseJoin_1.f (k + 1) a0 a1 a2 a3) := by
 intro a0 a1 a2 a3 k
 have ih0 := slices_DeleteFunc_impl_Frame_impl_Frame_impl_RaiseJoin_1.mono_l k
 unfold slices_DeleteFunc_impl_Frame_impl_Frame_impl_RaiseJoin_1.f
 repeat' first
   | (with_reducible exact ih0 _ _ _ _ _)
   | (with_reducible exact slices_IndexFunc_impl_Frame_impl_Frame_impl_RaiseJoin_1.mono _ _ _ _ _)
   | (with_reducible exact LeO.refl _)
   | (with_reducible exact LeO.none _)
   | (with_reducible refine LeO.ite ?_ ?_)
   | (with_reducible refine LeO.bind ?_ (fun _ => ?_))
   | exact ih0 _ _ _ _ _
   | exact slices_IndexFunc_impl_Frame_impl_Frame_impl_RaiseJoin_1.mono _ _ _ _ _
   | exact LeO.none _
   | refine LeO.ite ?_ ?_
   | refine LeO.bind ?_ (fun _ => ?_)
set_option maxHeartbeats 8000000 in
set_option maxRecDepth 100000 in
theorem slices_DeleteFunc_impl_Frame_impl_Frame_impl_RaiseJoin_1.calls (k : Nat) (P0_ : Nat → Prop) (u9000_ : Value) (l0 : List (S56)) (a1 : Unit) (g2_ : Nat) (c2 : Nat) (l2 : List Int) (A3 : Option Addr) (c3 : Nat) (l3 : List Int) (r : List (S56)) (w0 w : World) (hB : Below w0.heap.size w0 w) (ho0 : Kd.R k56 56 w w0.heap.size P0_ u9000_ l0) (hr2 : ∀ W_, Kept w W_ (fun k_ => P0_ k_) → Kd.C (Kd.int .i64) W_ (some ⟨g2_, 2, none⟩) l2.length l2) (hc2 : l2.length ≤ c2) (hr3 : ∀ W_, Kept w W_ (fun k_ => P0_ k_) → Kd.C (Kd.int .i64) W_ A3 l3.length l3) (hc3 : l3.length ≤ c3) (h : slices_DeleteFunc_impl_Frame_impl_Frame_impl_RaiseJoin_1.f k l0 a1 l2 l3 = some r) :
  Calls Try.prog 74 #[u9000_, .func (.func 73) #[] #[.pointer (some ⟨g2_, 0, none⟩), .pointer A3]] w fun e w' => ∃ v0_ : Value, e = .returned (v0_) ∧ Kd.R k56 56 w' w0.heap.size (fun k_ => (P0_ k_ ∨ w.heap.size ≤ k_)) v0_ r ∧ Below w0.heap.size w0 w' ∧ Kept w w' (fun k_ => P0_ k_) := by
 have hu56 := Try.underlying56
 have HO0 := Aside0.mk (show Kd.R k56 56 w w0.heap.size (fun k_ => (P0_ k_ ∨ w.heap.size ≤ k_)) u9000_ l0 from qn ho0 (fun k_ hk => (.inl hk)))
 have HR2 := Aside0.mk hr2
 have HC2 := Aside0.mk hc2
 clear hr2 hc2
 have HR3 := Aside0.mk hr3
 have HC3 := Aside0.mk hc3
 clear hr3 hc3
 have HK := Aside0.mk (Kept.refl w (fun k_ => P0_ k_))
 have HW0 := Aside0.mk hB.size
 have HB := Aside0.mk hB
 clear hB
 have H : ((slices_IndexFunc_impl_Frame_impl_Frame_impl_RaiseJoin_1.f k l0 a1 l2 l3).bind fun t241 => (if t241 = (-1) then (some l0) else (slices_DeleteFunc_impl_Frame_impl_Frame_impl_RaiseJoin_1.l0 k l0 l2 l3 t241 (wrap64 (t241 + 1))))) = some r := h
 clear h
 replace H := Option.bind_eq_some_iff.mp H
 obtain ⟨t241, A50, H⟩ := H
 replace H : (if t241 = (-1) then (some l0) else (slices_DeleteFunc_impl_Frame_impl_Frame_impl_RaiseJoin_1.l0 k l0 l2 l3 t241 (wrap64 (t241 + 1)))) = some r := H
 have A5 := Aside0.mk A50
 clear A50
 by_cases c6 : t241 = (-1)
 ·
  rw [if_pos c6] at H
  have c6b0 : (t241 == (-1)) = true := beq_iff_eq.mpr c6
  have c6b1 : (t241 != (-1)) = false := bne_eq_false_iff_eq.mpr c6
  clear c6
  obtain rfl := Option.some.inj H
  obtain ⟨Ao7, co7, eo7⟩ := Kd.R_slice HO0.out
  subst eo7
  go_enter Try.func74, Try.ntmps74
  go_wp2_with (first | ((with_reducible refine gate_callee (f := 97) rfl ?_); refine goesL_ (some 10) rfl rfl Try.func97 (by kernel_rfl) rfl #[.slice Ao7 l0.length co7, .func (.func 73) #[] #[.pointer (some ⟨g2_, 0, none⟩), .pointer A3]] rfl (by (try simp only [List.map_toArray, List.map_cons, List.map_nil]); first | done | rfl | (simp only [List.length_drop, List.length_take]; rfl)) ?_; (with_reducible refine (slices_IndexFunc_impl_Frame_impl_Frame_impl_RaiseJoin_1.calls k _ _ l0 a1 _ c2 l2 _ c3 l3 t241 _ ?side1 ?side2 ?side3 ?side4 ?side5 ?side6 A5.out).mono ?_); (case side1 => repeat (first | exact (Kd.R_reads' HO0.out).2.2 | (with_reducible refine Kd.C_alloc ?_ _) | (with_reducible refine Kd.C_drewN ?_ _) | (with_reducible refine Kd.C_drew ?_))); (case side2 => exact (Kd.R_reads' HO0.out).2.1); (case side3 => exact Kd.C_kept_now HR2.out (by repeat (first | (with_reducible first | exact HK.out | apply Kept.alloc | apply Kept.drewN | apply Kept.drew) | exact HK.out))); (case side4 => exact HC2.out); (case side5 => exact Kd.C_kept_now HR3.out (by repeat (first | (with_reducible first | exact HK.out | apply Kept.alloc | apply Kept.drewN | apply Kept.drew) | exact HK.out))); (case side6 => exact HC3.out); rintro e w8 ⟨rfl, hb⟩; refine ⟨_, rfl, ?_⟩; have n0_ := Aside0.mk (Kd.R_below (by (with_reducible repeat (first | apply qi | apply qj | apply ql)); exact HO0.out) hb); have n1_ := Aside0.mk (Kept.below (S := (fun k_ => P0_ k_)) (by repeat (first | (with_reducible first | exact HK.out | apply Kept.alloc | apply Kept.drewN | apply Kept.drew) | exact HK.out)) hb); have n2_ := Aside0.mk (below_step (by repeat (first | (with_reducible first | exact HB.out | apply qg | apply qe | apply qf) | exact HB.out)) hb); clear HO0; clear HK; clear HB; have HO0 := n0_; have HK := n1_; have HB := n2_; clear n0_ n1_ n2_; (try clear hb); (try clear hb2); (try clear hk); (try clear hi)))
  go_ret
  exact ⟨_, by first | rfl | (simp [errW_none, errW_some] <;> rfl) | (simp [*, errW_none, errW_some] <;> rfl), by (with_reducible repeat (first | apply qi | apply qj | apply ql)); exact HO0.out, by repeat (first | (with_reducible first | exact HB.out | apply qg | apply qe | apply qf) | exact HB.out), by repeat (first | (with_reducible first | exact HK.out | apply Kept.alloc | apply Kept.drewN | apply Kept.drew) | exact HK.out)⟩
 ·
  rw [if_neg c6] at H
  have c6b0 : (t241 == (-1)) = false := beq_eq_false_iff_ne.mpr c6
  have c6b1 : (t241 != (-1)) = true := bne_iff_ne.mpr c6
  have H' := Aside0.mk H
  clear H
  obtain ⟨Ao9, co9, eo9⟩ := Kd.R_slice HO0.out
  subst eo9
  go_enter Try.func74, Try.ntmps74
  go_wp2_with (first | ((with_reducible refine gate_callee (f := 97) rfl ?_); refine goesL_ (some 10) rfl rfl Try.func97 (by kernel_rfl) rfl #[.slice Ao9 l0.length co9, .func (.func 73) #[] #[.pointer (some ⟨g2_, 0, none⟩), .pointer A3]] rfl (by (try simp only [List.map_toArray, List.map_cons, List.map_nil]); first | done | rfl | (simp only [List.length_drop, List.length_take]; rfl)) ?_; (with_reducible refine (slices_IndexFunc_impl_Frame_impl_Frame_impl_RaiseJoin_1.calls k _ _ l0 a1 _ c2 l2 _ c3 l3 t241 _ ?side1 ?side2 ?side3 ?side4 ?side5 ?side6 A5.out).mono ?_); (case side1 => repeat (first | exact (Kd.R_reads' HO0.out).2.2 | (with_reducible refine Kd.C_alloc ?_ _) | (with_reducible refine Kd.C_drewN ?_ _) | (with_reducible refine Kd.C_drew ?_))); (case side2 => exact (Kd.R_reads' HO0.out).2.1); (case side3 => exact Kd.C_kept_now HR2.out (by repeat (first | (with_reducible first | exact HK.out | apply Kept.alloc | apply Kept.drewN | apply Kept.drew) | exact HK.out))); (case side4 => exact HC2.out); (case side5 => exact Kd.C_kept_now HR3.out (by repeat (first | (with_reducible first | exact HK.out | apply Kept.alloc | apply Kept.drewN | apply Kept.drew) | exact HK.out))); (case side6 => exact HC3.out); rintro e w10 ⟨rfl, hb⟩; refine ⟨_, rfl, ?_⟩; have n0_ := Aside0.mk (Kd.R_below (by (with_reducible repeat (first | apply qi | apply qj | apply ql)); exact HO0.out) hb); have n1_ := Aside0.mk (Kept.below (S := (fun k_ => P0_ k_)) (by repeat (first | (with_reducible first | exact HK.out | apply Kept.alloc | apply Kept.drewN | apply Kept.drew) | exact HK.out)) hb); have n2_ := Aside0.mk (below_step (by repeat (first | (with_reducible first | exact HB.out | apply qg | apply qe | apply qf) | exact HB.out)) hb); clear HO0; clear HK; clear HB; have HO0 := n0_; have HK := n1_; have HB := n2_; clear n0_ n1_ n2_; (try clear hb); (try clear hb2); (try clear hk); (try clear hi)))
  go_loopg [5, 6] k (fun kq v5 v6 w' => ∃ (x0_1 : List (S56)) (x5_1 : Int) (x6_1 : Int), v5 = .int .i64 x5_1 ∧ v6 = .int .i64 x6_1 ∧ Aside0 (slices_DeleteFunc_impl_Frame_impl_Frame_impl_RaiseJoin_1.l0 kq x0_1 l2 l3 x5_1 x6_1 = some r) ∧ Aside0 (kq ≤ k) ∧ Aside0 (Kd.R k56 56 w' w0.heap.size (fun k_ => (P0_ k_ ∨ w.heap.size ≤ k_)) (.slice Ao9 l0.length co9) x0_1) ∧ Aside0 (Kept w w' (fun k_ => P0_ k_)) ∧ Aside0 (Below w0.heap.size w0 w'))
  case atStart => exact ⟨(l0), (t241), (wrap64 (t241 + 1)), (by first | rfl | (simp; done) | (simp [*]; done)), (by first | rfl | (simp; done) | (simp [*]; done)), H', ⟨Nat.le_refl _⟩, ⟨by (with_reducible repeat (first | apply qi | apply qj | apply ql)); exact HO0.out⟩, ⟨by repeat (first | (with_reducible first | exact HK.out | apply Kept.alloc | apply Kept.drewN | apply Kept.drew) | exact HK.out)⟩, ⟨by repeat (first | (with_reducible first | exact HB.out | apply qg | apply qe | apply qf) | exact HB.out)⟩⟩
  case round =>
   clear H'
   try clear c2
   try clear p2
   try clear c3
   try clear c6
   try clear c6b0
   try clear c6b1
   try clear p6
   obtain ⟨x0_1, x5_1, x6_1, rfl, rfl, HA, HK1, HO_0, HK, HB⟩ := hrel
   have hl0_1 := (Kd.R_reads' HO_0.out).1
   rw [hl0_1] at HO_0
   (try simp only [hl0_1])
   cases gk with
   | zero => exact absurd HA.out (by simp [slices_DeleteFunc_impl_Frame_impl_Frame_impl_RaiseJoin_1.l0])
   | succ k1 =>
    have H := HA.out
    clear HA
    simp only [slices_DeleteFunc_impl_Frame_impl_Frame_impl_RaiseJoin_1.l0] at H
    by_cases c11 : x6_1 < (x0_1.length : Int)
    ·
     rw [if_pos c11] at H
     have c11b0 : decide (x6_1 < (x0_1.length : Int)) = true := decide_eq_true c11
     clear c11
     by_cases c12 : 0 ≤ x6_1
     ·
      rw [if_pos c12] at H
      have c12b0 : decide (0 ≤ x6_1) = true := decide_eq_true c12
      clear c12
      replace H := Option.bind_eq_some_iff.mp H
      obtain ⟨t244, A130, H⟩ := H
      replace H : (if t244 = true then (slices_DeleteFunc_impl_Frame_impl_Frame_impl_RaiseJoin_1.l0 k1 x0_1 l2 l3 x5_1 (wrap64 (x6_1 + 1))) else (if 0 ≤ x5_1 then (if x5_1 < (x0_1.length : Int) then (slices_DeleteFunc_impl_Frame_impl_Frame_impl_RaiseJoin_1.l0 k1 (x0_1.set (x5_1 : Int).toNat (⟨(rd_T56 x0_1 x6_1).f0, (rd_T56 x0_1 x6_1).f1, (rd_T56 x0_1 x6_1).f2, (rd_T56 x0_1 x6_1).f3⟩ : S56)) l2 l3 (wrap64 (x5_1 + 1)) (wrap64 (x6_1 + 1))) else (none)) else (none))) = some r := H
      have A13 := Aside0.mk A130
      clear A130
      by_cases c14 : t244 = true
      ·
       subst c14
       have H1 : (slices_DeleteFunc_impl_Frame_impl_Frame_impl_RaiseJoin_1.l0 k1 x0_1 l2 l3 x5_1 (wrap64 (x6_1 + 1))) = some r := by rw [if_pos rfl] at H; exact H
       clear H
       have H := H1
       clear H1
       have H' := Aside0.mk H
       clear H
       have p242 : 0 ≤ (x6_1 : Int) := of_decide_eq_true (by first | (with_reducible assumption) | assumption)
       have q242 : x6_1 < (x0_1.length : Int) := of_decide_eq_true (by first | (with_reducible assumption) | assumption)
       obtain ⟨ad242, e242, hx242_0, hx242_1, hx242_2, hx242_3⟩ := at_T56 (Kd.R_reads' HO_0.out).2.2 x6_1 p242 q242
       cases e242
       replace p242 := eq_true p242
       replace q242 := eq_true q242
       go_wp2_with (first | ((with_reducible refine gate_dst (N := 7) rfl ?_); refine box_event ?hg (N := 7) ?hd (cs := #[.int .i64 0, .int .i64 0, .int .i64 0, .int .i64 0]) (t := 56) ?hr ?_; (case hd => rfl); (case hg => rfl); (case hr => first | (go_simp; done) | (go_simp; rfl)); intro gb243 hg w15 hbox hb; have n0_ := Aside0.mk (Kd.R_below (Kd.R_elderB (by (with_reducible repeat (first | apply qi | apply qj | apply ql)); exact HO_0.out) gb243 (Nat.le_of_eq hg.symm)) hb); have n1_ := Aside0.mk (Kept.below (S := (fun k_ => P0_ k_)) (by repeat (first | (with_reducible first | exact HK.out | apply Kept.alloc | apply Kept.drewN | apply Kept.drew) | exact HK.out)) hb); have n2_ := Aside0.mk (below_step (by repeat (first | (with_reducible first | exact HB.out | apply qg | apply qe | apply qf) | exact HB.out)) hb); have n3_ := Aside0.mk (hbox); have n4_ := Aside0.mk ((by rw [hg]; exact (by first | exact HK.out.1 | exact (show Kept w _ (fun k_ => P0_ k_) from by repeat (first | (with_reducible first | exact HK.out | apply Kept.alloc | apply Kept.drewN | apply Kept.drew) | exact HK.out)).1) : w.heap.size ≤ gb243)); have n5_ := Aside0.mk ((by rw [hg]; exact (below_size (by repeat (first | (with_reducible first | exact HB.out | apply qg | apply qe | apply qf) | exact HB.out))) : w0.heap.size ≤ gb243)); clear HO_0; clear HK; clear HB; have HO_0 := n0_; have HK := n1_; have HB := n2_; have BK243 := n3_; have GW243 := n4_; have GE243 := n5_; clear n0_ n1_ n2_ n3_ n4_ n5_; clear hb hbox hg; have hcz16_0 : w15.cell? ⟨gb243, 0, none⟩ = some (.int .i64 0) := (qk BK243.out 0).trans rfl; have hcz16_1 : w15.cell? ⟨gb243, 1, none⟩ = some (.int .i64 0) := (qk BK243.out 1).trans rfl; have hcz16_2 : w15.cell? ⟨gb243, 2, none⟩ = some (.int .i64 0) := (qk BK243.out 2).trans rfl; have hcz16_3 : w15.cell? ⟨gb243, 3, none⟩ = some (.int .i64 0) := (qk BK243.out 3).trans rfl; have hfz16_0 := qh BK243.out 0; have hfz16_1 := qh BK243.out 1; have hfz16_2 := qh BK243.out 2; have hfz16_3 := qh BK243.out 3) | ((with_reducible refine gate_calleeV rfl ?_); refine goesLVC_ (some 28) rfl rfl Try.func73 (by kernel_rfl) rfl #[.agg #[.int .i64 ((rd_T56 x0_1 x6_1).f0), .int .i64 ((rd_T56 x0_1 x6_1).f1), .int .i64 ((rd_T56 x0_1 x6_1).f2), .int .i64 ((rd_T56 x0_1 x6_1).f3)], .pointer (some ⟨g2_, 0, none⟩), .pointer A3] rfl (by rfl) (by (try simp only [List.map_toArray, List.map_cons, List.map_nil]); first | done | rfl | (simp only [List.length_drop, List.length_take]; rfl)) ?_; (with_reducible refine (impl_RaiseJoin_1.calls ((rd_T56 x0_1 x6_1).f0) ((rd_T56 x0_1 x6_1).f1) ((rd_T56 x0_1 x6_1).f2) ((rd_T56 x0_1 x6_1).f3) _ c2 l2 _ c3 l3 true _ ?side1 ?side2 ?side3 ?side4 A13.out).mono ?_); (case side1 => exact Kd.C_kept_now HR2.out (by repeat (first | (with_reducible first | exact HK.out | apply Kept.alloc | apply Kept.drewN | apply Kept.drew | refine Kept.setCell ?_ (.inr GW243.out) _) | exact HK.out))); (case side2 => exact HC2.out); (case side3 => exact Kd.C_kept_now HR3.out (by repeat (first | (with_reducible first | exact HK.out | apply Kept.alloc | apply Kept.drewN | apply Kept.drew | refine Kept.setCell ?_ (.inr GW243.out) _) | exact HK.out))); (case side4 => exact HC3.out); rintro e w17 ⟨rfl, hb⟩; refine ⟨_, rfl, ?_⟩; have n0_ := Aside0.mk (Kd.R_below (by (with_reducible repeat (first | apply qi | apply qj | apply ql)); exact (qn (qm (p := ⟨gb243, 3, none⟩) (qm (p := ⟨gb243, 2, none⟩) (qm (p := ⟨gb243, 1, none⟩) (qm (p := ⟨gb243, 0, none⟩) (qn HO_0.out (fun k_ hk => (⟨hk, hk.2⟩ : _ ∧ k_ ≠ gb243))) (fun _ hk => hk.2) (.int .i64 ((rd_T56 x0_1 x6_1).f0))) (fun _ hk => hk.2) (.int .i64 ((rd_T56 x0_1 x6_1).f1))) (fun _ hk => hk.2) (.int .i64 ((rd_T56 x0_1 x6_1).f2))) (fun _ hk => hk.2) (.int .i64 ((rd_T56 x0_1 x6_1).f3))) (fun _ h_ => h_.1))) hb); have n1_ := Aside0.mk (qp (g := gb243) (o := .cells #[.int .i64 ((rd_T56 x0_1 x6_1).f0), .int .i64 ((rd_T56 x0_1 x6_1).f1), .int .i64 ((rd_T56 x0_1 x6_1).f2), .int .i64 ((rd_T56 x0_1 x6_1).f3)] 56 (0, 0)) (by (with_reducible repeat (first | refine qa ?_ _ | refine qc ?_ | refine qb ?_ _)); refine blk_put (cs := #[.int .i64 ((rd_T56 x0_1 x6_1).f0), .int .i64 ((rd_T56 x0_1 x6_1).f1), .int .i64 ((rd_T56 x0_1 x6_1).f2), .int .i64 0]) ?_ 3 _ rfl; (with_reducible repeat (first | refine qa ?_ _ | refine qc ?_ | refine qb ?_ _)); refine blk_put (cs := #[.int .i64 ((rd_T56 x0_1 x6_1).f0), .int .i64 ((rd_T56 x0_1 x6_1).f1), .int .i64 0, .int .i64 0]) ?_ 2 _ rfl; (with_reducible repeat (first | refine qa ?_ _ | refine qc ?_ | refine qb ?_ _)); refine blk_put (cs := #[.int .i64 ((rd_T56 x0_1 x6_1).f0), .int .i64 0, .int .i64 0, .int .i64 0]) ?_ 1 _ rfl; (with_reducible repeat (first | refine qa ?_ _ | refine qc ?_ | refine qb ?_ _)); refine blk_put (cs := #[.int .i64 0, .int .i64 0, .int .i64 0, .int .i64 0]) ?_ 0 _ rfl; (with_reducible repeat (first | refine qa ?_ _ | refine qc ?_ | refine qb ?_ _)); exact BK243.out) hb); have n2_ := Aside0.mk (Kept.below (S := (fun k_ => P0_ k_)) (by repeat (first | (with_reducible first | exact HK.out | apply Kept.alloc | apply Kept.drewN | apply Kept.drew | refine Kept.setCell ?_ (.inr GW243.out) _) | exact HK.out)) hb); have n3_ := Aside0.mk (below_step (by repeat (first | (with_reducible first | exact HB.out | apply qg | apply qe | apply qf | refine qd ?_ GE243.out) | exact HB.out)) hb); clear HO_0; clear BK243; clear HK; clear HB; have HO_0 := n0_; have BK243 := n1_; have HK := n2_; have HB := n3_; clear n0_ n1_ n2_ n3_; (try clear hb); (try clear hb2); (try clear hk); (try clear hi)))
       (try simp only [← hl0_1])
       go_roundg k1
       case measure => have := HK1.out; omega
       case rel => exact ⟨(x0_1), (x5_1), (wrap64 (x6_1 + 1)), (by first | rfl | (simp; done) | (simp [*]; done)), (by first | rfl | (simp; done) | (simp [*]; done)), H', ⟨by have := HK1.out; omega⟩, ⟨by (try simp only [hl0_1]); (with_reducible repeat (first | apply qi | apply qj | apply ql)); exact qn HO_0.out (fun _ hk => hk.1)⟩, ⟨by repeat (first | (with_reducible first | exact HK.out | apply Kept.alloc | apply Kept.drewN | apply Kept.drew | refine Kept.setCell ?_ (.inr GW243.out) _) | exact HK.out)⟩, ⟨by repeat (first | (with_reducible first | exact HB.out | apply qg | apply qe | apply qf | refine qd ?_ GE243.out) | exact HB.out)⟩⟩
      ·
       replace c14 := Bool.eq_false_iff.mpr c14
       subst c14
       have H1 : (if 0 ≤ x5_1 then (if x5_1 < (x0_1.length : Int) then (slices_DeleteFunc_impl_Frame_impl_Frame_impl_RaiseJoin_1.l0 k1 (x0_1.set (x5_1 : Int).toNat (⟨(rd_T56 x0_1 x6_1).f0, (rd_T56 x0_1 x6_1).f1, (rd_T56 x0_1 x6_1).f2, (rd_T56 x0_1 x6_1).f3⟩ : S56)) l2 l3 (wrap64 (x5_1 + 1)) (wrap64 (x6_1 + 1))) else (none)) else (none)) = some r := by rw [if_neg (show ¬ (false = true) by decide)] at H; exact H
       clear H
       have H := H1
       clear H1
       by_cases c18 : 0 ≤ x5_1
       ·
        rw [if_pos c18] at H
        have c18b0 : decide (0 ≤ x5_1) = true := decide_eq_true c18
        clear c18
        by_cases c19 : x5_1 < (x0_1.length : Int)
        ·
         rw [if_pos c19] at H
         have c19b0 : decide (x5_1 < (x0_1.length : Int)) = true := decide_eq_true c19
         clear c19
         obtain ⟨y245, hy245⟩ : ∃ y_ : List (S56), y_ = (x0_1.set (x5_1 : Int).toNat (⟨(rd_T56 x0_1 x6_1).f0, (rd_T56 x0_1 x6_1).f1, (rd_T56 x0_1 x6_1).f2, (rd_T56 x0_1 x6_1).f3⟩ : S56)) := ⟨_, rfl⟩
         replace H : (slices_DeleteFunc_impl_Frame_impl_Frame_impl_RaiseJoin_1.l0 k1 y245 l2 l3 (wrap64 (x5_1 + 1)) (wrap64 (x6_1 + 1))) = some r := by first | (rw [hy245]; with_reducible exact H) | (have H2_ := (Option.bind_some _ _).symm.trans H; rw [hy245]; with_reducible exact H2_) | (have H2_ := (Option.bind_some _ _).symm.trans H; with_reducible exact H2_) | with_reducible exact H | (rw [hy245]; exact H) | exact H
         have Ny245 := Aside0.mk hy245
         clear hy245
         have H' := Aside0.mk H
         clear H
         have p242 : 0 ≤ (x6_1 : Int) := of_decide_eq_true (by first | (with_reducible assumption) | assumption)
         have q242 : x6_1 < (x0_1.length : Int) := of_decide_eq_true (by first | (with_reducible assumption) | assumption)
         obtain ⟨ad242, e242, hx242_0, hx242_1, hx242_2, hx242_3⟩ := at_T56 (Kd.R_reads' HO_0.out).2.2 x6_1 p242 q242
         cases e242
         replace p242 := eq_true p242
         replace q242 := eq_true q242
         go_wp2_with (first | ((with_reducible refine gate_dst (N := 7) rfl ?_); refine box_event ?hg (N := 7) ?hd (cs := #[.int .i64 0, .int .i64 0, .int .i64 0, .int .i64 0]) (t := 56) ?hr ?_; (case hd => rfl); (case hg => rfl); (case hr => first | (go_simp; done) | (go_simp; rfl)); intro gb243 hg w21 hbox hb; have n0_ := Aside0.mk (Kd.R_below (Kd.R_elderB (by (with_reducible repeat (first | apply qi | apply qj | apply ql)); exact HO_0.out) gb243 (Nat.le_of_eq hg.symm)) hb); have n1_ := Aside0.mk (Kept.below (S := (fun k_ => P0_ k_)) (by repeat (first | (with_reducible first | exact HK.out | apply Kept.alloc | apply Kept.drewN | apply Kept.drew) | exact HK.out)) hb); have n2_ := Aside0.mk (below_step (by repeat (first | (with_reducible first | exact HB.out | apply qg | apply qe | apply qf) | exact HB.out)) hb); have n3_ := Aside0.mk (hbox); have n4_ := Aside0.mk ((by rw [hg]; exact (by first | exact HK.out.1 | exact (show Kept w _ (fun k_ => P0_ k_) from by repeat (first | (with_reducible first | exact HK.out | apply Kept.alloc | apply Kept.drewN | apply Kept.drew) | exact HK.out)).1) : w.heap.size ≤ gb243)); have n5_ := Aside0.mk ((by rw [hg]; exact (below_size (by repeat (first | (with_reducible first | exact HB.out | apply qg | apply qe | apply qf) | exact HB.out))) : w0.heap.size ≤ gb243)); clear HO_0; clear HK; clear HB; have HO_0 := n0_; have HK := n1_; have HB := n2_; have BK243 := n3_; have GW243 := n4_; have GE243 := n5_; clear n0_ n1_ n2_ n3_ n4_ n5_; clear hb hbox hg; have hcz22_0 : w21.cell? ⟨gb243, 0, none⟩ = some (.int .i64 0) := (qk BK243.out 0).trans rfl; have hcz22_1 : w21.cell? ⟨gb243, 1, none⟩ = some (.int .i64 0) := (qk BK243.out 1).trans rfl; have hcz22_2 : w21.cell? ⟨gb243, 2, none⟩ = some (.int .i64 0) := (qk BK243.out 2).trans rfl; have hcz22_3 : w21.cell? ⟨gb243, 3, none⟩ = some (.int .i64 0) := (qk BK243.out 3).trans rfl; have hfz22_0 := qh BK243.out 0; have hfz22_1 := qh BK243.out 1; have hfz22_2 := qh BK243.out 2; have hfz22_3 := qh BK243.out 3) | ((with_reducible refine gate_calleeV rfl ?_); refine goesLVC_ (some 28) rfl rfl Try.func73 (by kernel_rfl) rfl #[.agg #[.int .i64 ((rd_T56 x0_1 x6_1).f0), .int .i64 ((rd_T56 x0_1 x6_1).f1), .int .i64 ((rd_T56 x0_1 x6_1).f2), .int .i64 ((rd_T56 x0_1 x6_1).f3)], .pointer (some ⟨g2_, 0, none⟩), .pointer A3] rfl (by rfl) (by (try simp only [List.map_toArray, List.map_cons, List.map_nil]); first | done | rfl | (simp only [List.length_drop, List.length_take]; rfl)) ?_; (with_reducible refine (impl_RaiseJoin_1.calls ((rd_T56 x0_1 x6_1).f0) ((rd_T56 x0_1 x6_1).f1) ((rd_T56 x0_1 x6_1).f2) ((rd_T56 x0_1 x6_1).f3) _ c2 l2 _ c3 l3 false _ ?side1 ?side2 ?side3 ?side4 A13.out).mono ?_); (case side1 => exact Kd.C_kept_now HR2.out (by repeat (first | (with_reducible first | exact HK.out | apply Kept.alloc | apply Kept.drewN | apply Kept.drew | refine Kept.setCell ?_ (.inr GW243.out) _) | exact HK.out))); (case side2 => exact HC2.out); (case side3 => exact Kd.C_kept_now HR3.out (by repeat (first | (with_reducible first | exact HK.out | apply Kept.alloc | apply Kept.drewN | apply Kept.drew | refine Kept.setCell ?_ (.inr GW243.out) _) | exact HK.out))); (case side4 => exact HC3.out); rintro e w23 ⟨rfl, hb⟩; refine ⟨_, rfl, ?_⟩; have n0_ := Aside0.mk (Kd.R_below (by (with_reducible repeat (first | apply qi | apply qj | apply ql)); exact (qn (qm (p := ⟨gb243, 3, none⟩) (qm (p := ⟨gb243, 2, none⟩) (qm (p := ⟨gb243, 1, none⟩) (qm (p := ⟨gb243, 0, none⟩) (qn HO_0.out (fun k_ hk => (⟨hk, hk.2⟩ : _ ∧ k_ ≠ gb243))) (fun _ hk => hk.2) (.int .i64 ((rd_T56 x0_1 x6_1).f0))) (fun _ hk => hk.2) (.int .i64 ((rd_T56 x0_1 x6_1).f1))) (fun _ hk => hk.2) (.int .i64 ((rd_T56 x0_1 x6_1).f2))) (fun _ hk => hk.2) (.int .i64 ((rd_T56 x0_1 x6_1).f3))) (fun _ h_ => h_.1))) hb); have n1_ := Aside0.mk (qp (g := gb243) (o := .cells #[.int .i64 ((rd_T56 x0_1 x6_1).f0), .int .i64 ((rd_T56 x0_1 x6_1).f1), .int .i64 ((rd_T56 x0_1 x6_1).f2), .int .i64 ((rd_T56 x0_1 x6_1).f3)] 56 (0, 0)) (by (with_reducible repeat (first | refine qa ?_ _ | refine qc ?_ | refine qb ?_ _)); refine blk_put (cs := #[.int .i64 ((rd_T56 x0_1 x6_1).f0), .int .i64 ((rd_T56 x0_1 x6_1).f1), .int .i64 ((rd_T56 x0_1 x6_1).f2), .int .i64 0]) ?_ 3 _ rfl; (with_reducible repeat (first | refine qa ?_ _ | refine qc ?_ | refine qb ?_ _)); refine blk_put (cs := #[.int .i64 ((rd_T56 x0_1 x6_1).f0), .int .i64 ((rd_T56 x0_1 x6_1).f1), .int .i64 0, .int .i64 0]) ?_ 2 _ rfl; (with_reducible repeat (first | refine qa ?_ _ | refine qc ?_ | refine qb ?_ _)); refine blk_put (cs := #[.int .i64 ((rd_T56 x0_1 x6_1).f0), .int .i64 0, .int .i64 0, .int .i64 0]) ?_ 1 _ rfl; (with_reducible repeat (first | refine qa ?_ _ | refine qc ?_ | refine qb ?_ _)); refine blk_put (cs := #[.int .i64 0, .int .i64 0, .int .i64 0, .int .i64 0]) ?_ 0 _ rfl; (with_reducible repeat (first | refine qa ?_ _ | refine qc ?_ | refine qb ?_ _)); exact BK243.out) hb); have n2_ := Aside0.mk (Kept.below (S := (fun k_ => P0_ k_)) (by repeat (first | (with_reducible first | exact HK.out | apply Kept.alloc | apply Kept.drewN | apply Kept.drew | refine Kept.setCell ?_ (.inr GW243.out) _) | exact HK.out)) hb); have n3_ := Aside0.mk (below_step (by repeat (first | (with_reducible first | exact HB.out | apply qg | apply qe | apply qf | refine qd ?_ GE243.out) | exact HB.out)) hb); clear HO_0; clear BK243; clear HK; clear HB; have HO_0 := n0_; have BK243 := n1_; have HK := n2_; have HB := n3_; clear n0_ n1_ n2_ n3_; (try clear hb); (try clear hb2); (try clear hk); (try clear hi); have hcz24_0 : w23.cell? ⟨gb243, 0, none⟩ = some (.int .i64 ((rd_T56 x0_1 x6_1).f0)) := (qk BK243.out 0).trans rfl; have hcz24_1 : w23.cell? ⟨gb243, 1, none⟩ = some (.int .i64 ((rd_T56 x0_1 x6_1).f1)) := (qk BK243.out 1).trans rfl; have hcz24_2 : w23.cell? ⟨gb243, 2, none⟩ = some (.int .i64 ((rd_T56 x0_1 x6_1).f2)) := (qk BK243.out 2).trans rfl; have hcz24_3 : w23.cell? ⟨gb243, 3, none⟩ = some (.int .i64 ((rd_T56 x0_1 x6_1).f3)) := (qk BK243.out 3).trans rfl; have hfz24_0 := qh BK243.out 0; have hfz24_1 := qh BK243.out 1; have hfz24_2 := qh BK243.out 2; have hfz24_3 := qh BK243.out 3; have p20 : 0 ≤ (x5_1 : Int) := of_decide_eq_true (by first | (with_reducible assumption) | assumption); have q20 : (x5_1 : Int) < ((x0_1.length : Int) : Int) := of_decide_eq_true (by first | (with_reducible assumption) | assumption); obtain ⟨go20, co20, eo20, gb20, gl20, cl20, HG20⟩ := Kd.R_form HO_0.out (by omega); (first | cases eo20 | (injection eo20 with ea_ en_ ec_; (first | subst ea_ | (injection ea_ with ea_; subst ea_)); subst ec_; clear en_)); have GB20 := Aside0.mk gb20; have GG20 := Aside0.mk HG20; clear gb20 gl20 HG20; have HMgo20 := Aside0.mk (show (P0_ go20 ∨ w.heap.size ≤ go20) from (HO_0.out.1 _ rfl).1); (first | simp only [add_plain] at hx242_0 | skip); (first | simp only [add_plain] at hx242_1 | skip); (first | simp only [add_plain] at hx242_2 | skip); (first | simp only [add_plain] at hx242_3 | skip); obtain ⟨ce20, hcl20, hM20, hcc20, hfr20⟩ := Kd.R_elem HO_0.out z56 (x5_1 : Int) p20 q20; obtain rfl := k56_openM hM20; have hx20_0 : w23.cell? ⟨go20, (x5_1 : Int).toNat * 4, none⟩ = some (.int .i64 ((rd_T56 x0_1 x5_1).f0)) := hcc20 0 _ rfl; have hx20_1 : w23.cell? ⟨go20, (x5_1 : Int).toNat * 4 + 1, none⟩ = some (.int .i64 ((rd_T56 x0_1 x5_1).f1)) := hcc20 1 _ rfl; have hx20_2 : w23.cell? ⟨go20, (x5_1 : Int).toNat * 4 + 2, none⟩ = some (.int .i64 ((rd_T56 x0_1 x5_1).f2)) := hcc20 2 _ rfl; have hx20_3 : w23.cell? ⟨go20, (x5_1 : Int).toNat * 4 + 3, none⟩ = some (.int .i64 ((rd_T56 x0_1 x5_1).f3)) := hcc20 3 _ rfl; have hf20_0 : w23.frozen? ⟨go20, (x5_1 : Int).toNat * 4, none⟩ = false := hfr20 0; have hf20_1 : w23.frozen? ⟨go20, (x5_1 : Int).toNat * 4 + 1, none⟩ = false := hfr20 1; have hf20_2 : w23.frozen? ⟨go20, (x5_1 : Int).toNat * 4 + 2, none⟩ = false := hfr20 2; have hf20_3 : w23.frozen? ⟨go20, (x5_1 : Int).toNat * 4 + 3, none⟩ = false := hfr20 3; clear hcl20 hcc20 hfr20 hM20; replace p20 := eq_true p20; replace q20 := eq_true q20; have HX25 := Aside0.mk (show Kd.R k56 56 w23 w0.heap.size (fun k_ => (P0_ k_ ∨ w.heap.size ≤ k_) ∧ k_ ≠ gb243) (.slice (some ⟨go20, 0, none⟩) x0_1.length co9) x0_1 from (by (with_reducible repeat (first | apply qi | apply qj | apply ql)); exact HO_0.out)); obtain ⟨ce25, hcl25, hM25, hcc25, hfr25⟩ := Kd.R_elem HX25.out z56 (x5_1 : Int) (of_decide_eq_true (by first | (with_reducible assumption) | assumption)) (by have h_ : (x5_1 : Int) < ((x0_1.length : Int) : Int) := of_decide_eq_true (by first | (with_reducible assumption) | assumption); first | exact h_ | (have e_ := (Kd.R_reads' HO_0.out).1; omega) | simpa using h_); obtain rfl := k56_openM hM25; have HP25 := Kd.R_seg HX25.out (x5_1 : Int) (of_decide_eq_true (by first | (with_reducible assumption) | assumption)) (by have h_ : (x5_1 : Int) < ((x0_1.length : Int) : Int) := of_decide_eq_true (by first | (with_reducible assumption) | assumption); first | exact h_ | (have e_ := (Kd.R_reads' HO_0.out).1; omega) | simpa using h_) (seg := [.int .i64 ((rd_T56 x0_1 x6_1).f0), .int .i64 ((rd_T56 x0_1 x6_1).f1), .int .i64 ((rd_T56 x0_1 x6_1).f2), .int .i64 ((rd_T56 x0_1 x6_1).f3)]) (j := 0) hcl25 hcc25 (show 4 ≤ 4 from by decide) (x' := (⟨(rd_T56 x0_1 x6_1).f0, (rd_T56 x0_1 x6_1).f1, (rd_T56 x0_1 x6_1).f2, (rd_T56 x0_1 x6_1).f3⟩ : S56)) (k56_mkM _ _ _ (⟨(rd_T56 x0_1 x6_1).f0, (rd_T56 x0_1 x6_1).f1, (rd_T56 x0_1 x6_1).f2, (rd_T56 x0_1 x6_1).f3⟩ : S56) ) (fun _ hk => hk); have hx25_0 := hcc25 0 _ rfl; (try simp only [show (k56).sz = 4 from rfl, Nat.mul_one, Nat.add_zero] at hx25_0); have hf25_0 := hfr25 0; (try simp only [show (k56).sz = 4 from rfl, Nat.mul_one, Nat.add_zero] at hf25_0); have hx25_1 := hcc25 1 _ rfl; (try simp only [show (k56).sz = 4 from rfl, Nat.mul_one, Nat.add_zero] at hx25_1); have hf25_1 := hfr25 1; (try simp only [show (k56).sz = 4 from rfl, Nat.mul_one, Nat.add_zero] at hf25_1); have hx25_2 := hcc25 2 _ rfl; (try simp only [show (k56).sz = 4 from rfl, Nat.mul_one, Nat.add_zero] at hx25_2); have hf25_2 := hfr25 2; (try simp only [show (k56).sz = 4 from rfl, Nat.mul_one, Nat.add_zero] at hf25_2); have hx25_3 := hcc25 3 _ rfl; (try simp only [show (k56).sz = 4 from rfl, Nat.mul_one, Nat.add_zero] at hx25_3); have hf25_3 := hfr25 3; (try simp only [show (k56).sz = 4 from rfl, Nat.mul_one, Nat.add_zero] at hf25_3); clear hcl25 hcc25 hfr25 hM25) | ((with_reducible refine gate_store (t := 56) (p := 33) rfl ?_); refine store_event (t := 56) (p := 33) (v := ?vo_w26) (w1 := ((((w23.setCell ⟨go20, (x5_1 : Int).toNat * 4, none⟩ (.int .i64 ((rd_T56 x0_1 x6_1).f0))).setCell ⟨go20, (x5_1 : Int).toNat * 4 + 1, none⟩ (.int .i64 ((rd_T56 x0_1 x6_1).f1))).setCell ⟨go20, (x5_1 : Int).toNat * 4 + 2, none⟩ (.int .i64 ((rd_T56 x0_1 x6_1).f2))).setCell ⟨go20, (x5_1 : Int).toNat * 4 + 3, none⟩ (.int .i64 ((rd_T56 x0_1 x6_1).f3)))) ?hg ?ho ?hn ?hr ?_; (case ho => rfl); (case hg => rfl); (case hn => rfl); (case hr => first | (go_simp; done) | (go_simp; rfl)); intro w26 hw; have hg : w23.grownBy w26 (some go20) := (by rw [hw]; exact HP25.2); have hp_ : Kd.R k56 56 w26 w0.heap.size (fun k_ => (P0_ k_ ∨ w.heap.size ≤ k_) ∧ k_ ≠ gb243) (.slice (some ⟨go20, 0, none⟩) x0_1.length co9) y245 := (by rw [hw, Ny245.out]; exact HP25.1); clear HP25; have n0_ := Aside0.mk (hp_); have n1_ := Aside0.mk (blk_grown (g := gb243) (o := .cells #[.int .i64 ((rd_T56 x0_1 x6_1).f0), .int .i64 ((rd_T56 x0_1 x6_1).f1), .int .i64 ((rd_T56 x0_1 x6_1).f2), .int .i64 ((rd_T56 x0_1 x6_1).f3)] 56 (0, 0)) (by (with_reducible repeat (first | refine qa ?_ _ | refine qc ?_ | refine qb ?_ _)); exact BK243.out) hg (Kd.R_away HO_0.out (fun _ hk => hk.2))); have n2_ := Aside0.mk ((by rw [hw]; exact qd (qd (qd (qd (HB.out) GB20.out) GB20.out) GB20.out) GB20.out : Below w0.heap.size w0 w26)); have n3_ := Aside0.mk (Kept.of_grown (S := (fun k_ => P0_ k_)) hg (by repeat (first | (with_reducible first | exact HK.out | apply Kept.alloc | apply Kept.drewN | apply Kept.drew | refine Kept.setCell ?_ (.inr GW243.out) _) | exact HK.out)) (fun k_ e_ => (HO_0.out.1 k_ e_).1)); clear HO_0; clear BK243; clear HB; clear HK; have HO_0 := n0_; have BK243 := n1_; have HB := n2_; have HK := n3_; clear n0_ n1_ n2_ n3_; clear hg hw hp_))
         (try simp only [← hl0_1])
         go_roundg k1
         case measure => have := HK1.out; omega
         case rel => exact ⟨(y245), (wrap64 (x5_1 + 1)), (wrap64 (x6_1 + 1)), (by first | rfl | (simp; done) | (simp [*]; done)), (by first | rfl | (simp; done) | (simp [*]; done)), H', ⟨by have := HK1.out; omega⟩, ⟨by (try simp only [hl0_1]); (with_reducible repeat (first | apply qi | apply qj | apply ql)); exact qn HO_0.out (fun _ hk => hk.1)⟩, ⟨by repeat (first | (with_reducible first | exact HK.out | apply Kept.alloc | apply Kept.drewN | apply Kept.drew | refine Kept.setCell ?_ (.inr GW243.out) _) | exact HK.out)⟩, ⟨by repeat (first | (with_reducible first | exact HB.out | apply qg | apply qe | apply qf | refine qd ?_ GE243.out) | exact HB.out)⟩⟩
        ·
         rw [if_neg c19] at H
         exact absurd H (by simp)
       ·
        rw [if_neg c18] at H
        exact absurd H (by simp)
     ·
      rw [if_neg c12] at H
      exact absurd H (by simp)
    ·
     rw [if_neg c11] at H
     have c11b0 : decide (x6_1 < (x0_1.length : Int)) = false := decide_eq_false c11
     clear c11
     by_cases c27 : 0 ≤ x5_1
     ·
      rw [if_pos c27] at H
      have c27b0 := eq_true c27
      have c27b1 : decide (0 ≤ x5_1) = true := decide_eq_true c27
      clear c27
      by_cases c28 : x5_1 ≤ (x0_1.length : Int)
      ·
       rw [if_pos c28] at H
       have c28b0 := eq_true c28
       have c28b1 : decide (x5_1 ≤ (x0_1.length : Int)) = true := decide_eq_true c28
       clear c28
       obtain ⟨y246, hy246⟩ : ∃ y_ : List (S56), y_ = (x0_1.drop (x5_1 : Int).toNat) := ⟨_, rfl⟩
       replace H : ((some (x0_1.take (x5_1 : Int).toNat ++ List.replicate (x0_1.length - (x5_1 : Int).toNat) z56 : List (S56))).bind fun y250 => (if x5_1 ≤ (y250.length : Int) then (some (y250.take (x5_1 : Int).toNat)) else (none))) = some r := by first | (rw [hy246]; with_reducible exact H) | (have H2_ := (Option.bind_some _ _).symm.trans H; rw [hy246]; with_reducible exact H2_) | (have H2_ := (Option.bind_some _ _).symm.trans H; with_reducible exact H2_) | with_reducible exact H | (rw [hy246]; exact H) | exact H
       have Ny246 := Aside0.mk hy246
       clear hy246
       obtain ⟨y250, hy250⟩ : ∃ y_ : List (S56), y_ = (x0_1.take (x5_1 : Int).toNat ++ List.replicate (x0_1.length - (x5_1 : Int).toNat) z56) := ⟨_, rfl⟩
       replace H : (if x5_1 ≤ (y250.length : Int) then (some (y250.take (x5_1 : Int).toNat)) else (none)) = some r := by first | (rw [hy250]; with_reducible exact H) | (have H2_ := (Option.bind_some _ _).symm.trans H; rw [hy250]; with_reducible exact H2_) | (have H2_ := (Option.bind_some _ _).symm.trans H; with_reducible exact H2_) | with_reducible exact H | (rw [hy250]; exact H) | exact H
       have Ny250 := Aside0.mk hy250
       clear hy250
       by_cases c29 : x5_1 ≤ (y250.length : Int)
       ·
        rw [if_pos c29] at H
        have c29b0 := eq_true c29
        have c29b1 : decide (x5_1 ≤ (y250.length : Int)) = true := decide_eq_true c29
        clear c29
        obtain ⟨y253, hy253⟩ : ∃ y_ : List (S56), y_ = (y250.take (x5_1 : Int).toNat) := ⟨_, rfl⟩
        replace H : (some y253) = some r := by first | (rw [hy253]; with_reducible exact H) | (have H2_ := (Option.bind_some _ _).symm.trans H; rw [hy253]; with_reducible exact H2_) | (have H2_ := (Option.bind_some _ _).symm.trans H; with_reducible exact H2_) | with_reducible exact H | (rw [hy253]; exact H) | exact H
        have Ny253 := Aside0.mk hy253
        clear hy253
        obtain rfl := Option.some.inj H
        have q30 : (x5_1 : Int) ≤ ((x0_1.length : Int) : Int) := of_decide_eq_true (by first | (with_reducible assumption) | assumption)
        obtain ⟨i030, hi030, _, hsz30, _⟩ := info_parts info56
        have hroom30 : x0_1.length ≤ co9 := (Kd.R_reads' HO_0.out).2.1
        have hC30 : Kd.C k56 _ Ao9 x0_1.length x0_1 := (Kd.R_reads' HO_0.out).2.2
        have q030 : (0 : Int) ≤ (x5_1 : Int) := of_decide_eq_true (by first | (with_reducible assumption) | assumption)
        have hcut30 := cut_from (P := Try.prog) 27 56 .i64 Try.underlying27 hi030 4 hsz30 Ao9 x0_1.length co9 x5_1 q030 q30
        have hr30 := Kd.C_drop (m := (x5_1 : Int).toNat) (c := co9) hC30 (by omega) hroom30
        obtain ⟨A30, hA30⟩ : ∃ A1, A1 = (if co9 = (x5_1 : Int).toNat then Ao9 else (Ao9 : Option Addr).map (·.add ((x5_1 : Int).toNat * 4))) := ⟨_, rfl⟩
        obtain ⟨c30, hc30⟩ : ∃ c1, c1 = co9 - (x5_1 : Int).toNat := ⟨_, rfl⟩
        have hy30 : y246.length = x0_1.length - (x5_1 : Int).toNat := (by rw [Ny246.out, List.length_drop] <;> omega)
        rw [show (x0_1).drop (x5_1 : Int).toNat = y246 from Ny246.out.symm] at hr30
        replace hr30 : Kd.C k56 _ A30 y246.length y246 := (by rw [hA30]; exact hr30)
        rw [← hy30, ← hA30, ← hc30] at hcut30
        have HR249 := Aside0.mk hr30
        have HC249 := Aside0.mk (show y246.length ≤ c30 from by rw [hy30, hc30]; exact Nat.sub_le_sub_right hroom30 _)
        clear hr30 hC30 hroom30 hi030 hsz30 hc30
        have KY30 := Aside0.mk hy30
        have KA30 := Aside0.mk hA30
        clear hy30 hA30
        have KL30 := Aside0.mk (show (x5_1 : Int).toNat ≤ x0_1.length from by omega)
        replace q30 := eq_true q30
        go_wp2_with (first | ((with_reducible refine gate_builtin (b := .clear) (xs := #[.tmp 38]) rfl ?_); have hl_ : (x5_1 : Int) ≤ (x0_1.length : Int) := of_decide_eq_true (by first | (with_reducible assumption) | assumption); refine Kd.R_clear k56 (w0 := w0) w0.heap.size rfl rfl (.tmp 38) 27 56 ((.agg #[(.int .i64 0), (.int .i64 0), (.int .i64 0), (.int .i64 0)])) z56 rfl 32 Try.underlying27 info56 rfl (by decide) (fun _ _ _ => ⟨[_], _, rfl, rfl, ⟨[_], _, rfl, rfl, ⟨[_], _, rfl, rfl, rfl⟩⟩⟩) (n := x0_1.length) (c := co9) (k := (x5_1 : Int).toNat) rfl KA30.out (by have ha_ := KY30.out; omega) (by (with_reducible repeat (first | apply qi | apply qj | apply ql)); exact HO_0.out) (by omega) (by repeat (first | (with_reducible first | exact HB.out | apply qg | apply qe | apply qf) | exact HB.out)) (below_size (by repeat (first | (with_reducible first | exact HB.out | apply qg | apply qe | apply qf) | exact HB.out))) ?_; intro w31 ho hb hg; clear hl_; have hy1_ : (x0_1.take (x5_1 : Int).toNat ++ List.replicate (x0_1.length - (x5_1 : Int).toNat) z56).length = x0_1.length := (by rw [List.length_append, List.length_take, List.length_replicate]; omega); have hn_ : x0_1.length = y250.length := (by rw [Ny250.out]; first | exact hy1_.symm | omega); clear hy1_; rw [show x0_1.length - (x5_1 : Int).toNat = x0_1.length - (x5_1 : Int).toNat by first | rfl | omega, ← Ny250.out, hn_] at ho; (try rw [hn_]); clear hn_; have n0_ := Aside0.mk (ho); have n1_ := Aside0.mk (hb); have n2_ := Aside0.mk (Kept.of_grown (S := (fun k_ => P0_ k_)) hg (by repeat (first | (with_reducible first | exact HK.out | apply Kept.alloc | apply Kept.drewN | apply Kept.drew) | exact HK.out)) (fun k_ e_ => (HO_0.out.1 k_ e_))); clear HO_0; clear HB; clear HK; have HO_0 := n0_; have HB := n1_; have HK := n2_; clear n0_ n1_ n2_; clear ho hb hg; have q33 : (x5_1 : Int) ≤ ((y250.length : Int) : Int) := of_decide_eq_true (by first | (with_reducible assumption) | assumption); obtain ⟨i033, hi033, _, hsz33, _⟩ := info_parts info56; have hcut33 := cut_to (P := Try.prog) 27 56 .i64 Try.underlying27 hi033 Ao9 y250.length co9 x5_1 (of_decide_eq_true (by first | (with_reducible assumption) | assumption)) q33 (Kd.R_reads' HO_0.out).2.1; have hr33 := Kd.R_take (m := (x5_1 : Int).toNat) HO_0.out (by omega); have hy33 : y253.length = (x5_1 : Int).toNat := (by rw [Ny253.out, List.length_take]; omega); rw [← Ny253.out] at hr33; rw [← hy33] at hr33 hcut33; clear hy33 hi033 hsz33 HO_0; have HO255 := Aside0.mk hr33; clear hr33; replace q33 := eq_true q33))
        go_ret
        exact ⟨_, by first | rfl | (simp [errW_none, errW_some] <;> rfl) | (simp [*, errW_none, errW_some] <;> rfl), by (with_reducible repeat (first | apply qi | apply qj | apply ql)); exact HO255.out, by repeat (first | (with_reducible first | exact HB.out | apply qg | apply qe | apply qf) | exact HB.out), by repeat (first | (with_reducible first | exact HK.out | apply Kept.alloc | apply Kept.drewN | apply Kept.drew) | exact HK.out)⟩
       ·
        rw [if_neg c29] at H
        exact absurd H (by simp)
      ·
       rw [if_neg c28] at H
       exact absurd H (by simp)
     ·
      rw [if_neg c27] at H
      exact absurd H (by simp)

/-! ### impl_RaiseJoin: function 35 -/
def impl_RaiseJoin.j0 : Nat → Int → Bool → List (S56) → List (S56) → Int → Int → List (S56) → List (S56) → Int → Option ((List (S56)) × (List (S56)) × Int × Int)
 | 0, _, _, _, _, _, _, _, _, _ => none
 | k + 1, x2, x24, x257000, x257001, x257002, x258000, x267000, x267001, x267002 => if x24 = true then (some (x267000, x267001, x267002, (-1))) else ((slices_DeleteFunc_impl_Frame_impl_Frame_impl_RaiseJoin_1.f k x267000 () [mx x257002 x2] [x258000]).bind fun t270 => ((slices_DeleteFunc_impl_Frame_impl_Frame_impl_RaiseJoin_1.f k x267001 () [mx x257002 x2] [x258000]).bind fun t273 => (some (t270, t273, mx x257002 x2, wrap64 ((wrap64 ((wrap64 ((x257000.length : Int) + (x257001.length : Int))) - (t270.length : Int))) - (t273.length : Int))))))
def impl_RaiseJoin.f (k : Nat) (l0_0 : List (S56)) (l0_1 : List (S56)) (a0_2 : Int) (a1 : Int) (a2 : Int) : Option ((List (S56)) × (List (S56)) × Int × Int) := (impl_ownJoin.f l0_0 l0_1 a0_2).bind fun bt259 => ((impl_JoinOk.f k l0_0 l0_1 a0_2).bind fun t267 => (if t267 = true then ((impl_isMark.f a2).bind fun t268 => (if t268 = true then ((impl_isTime.f a1).bind fun t269 => (impl_RaiseJoin.j0 k a2 (!t269) l0_0 l0_1 a0_2 a1 bt259.1 bt259.2.1 bt259.2.2)) else (impl_RaiseJoin.j0 k a2 true l0_0 l0_1 a0_2 a1 bt259.1 bt259.2.1 bt259.2.2))) else (impl_RaiseJoin.j0 k a2 true l0_0 l0_1 a0_2 a1 bt259.1 bt259.2.1 bt259.2.2)))
theorem impl_RaiseJoin.mono_l : ∀ k, (∀ y0 y1 y2 y3 y4 y5 y6 y7 y8, LeO (impl_RaiseJoin.j0 k y0 y1 y2 y3 y4 y5 y6 y7 y8) (impl_RaiseJoin.j0 (k + 1) y0 y1 y2 y3 y4 y5 y6 y7 y8))
 | 0 => fun _ _ _ _ _ _ _ _ _ r h => by simp [impl_RaiseJoin.j0] at h
 | k + 1 => by
  have ih0 := impl_RaiseJoin.mono_l k
  ·
   intro y0 y1 y2 y3 y4 y5 y6 y7 y8
   unfold impl_RaiseJoin.j0
   repeat' first
   | (with_reducible exact ih0 _ _ _ _ _ _ _ _ _)
   | (with_reducible exact impl_JoinOk.mono _ _ _ _)
   | (with_reducible exact slices_DeleteFunc_impl_Frame_impl_Frame_impl_RaiseJoin_1.mono _ _ _ _ _)
   | (with_reducible exact LeO.refl _)
   | (with_reducible exact LeO.none _)
   | (with_reducible refine LeO.ite ?_ ?_)
   | (with_reducible refine LeO.bind ?_ (fun _ => ?_))
   | exact ih0 _ _ _ _ _ _ _ _ _
   | exact impl_JoinOk.mono _ _ _ _
   | exact slices_DeleteFunc_impl_Frame_impl_Frame_impl_RaiseJoin_1.mono _ _ _ _ _
   | exact LeO.none _
   | refine LeO.ite ?_ ?_
   | refine LeO.bind ?_ (fun _ => ?_)
theorem impl_RaiseJoin.mono : ∀ a0 a1 a2 a3 a4 k, LeO (impl_RaiseJoin.f k a0 a1 a2 a3 a4) (impl_RaiseJoin.f (k + 1) a0 a1 a2 a3 a4) := by
 intro a0 a1 a2 a3 a4 k
 have ih0 := impl_RaiseJoin.mono_l k
 unfold impl_RaiseJoin.f
 repeat' first
   | (with_reducible exact ih0 _ _ _ _ _ _ _ _ _)
   | (with_reducible exact impl_JoinOk.mono _ _ _ _)
   | (with_reducible exact slices_DeleteFunc_impl_Frame_impl_Frame_impl_RaiseJoin_1.mono _ _ _ _ _)
   | (with_reducible exact LeO.refl _)
   | (with_reducible exact LeO.none _)
   | (with_reducible refine LeO.ite ?_ ?_)
   | (with_reducible refine LeO.bind ?_ (fun _ => ?_))
   | exact ih0 _ _ _ _ _ _ _ _ _
   | exact impl_JoinOk.mono _ _ _ _
   | exact slices_DeleteFunc_impl_Frame_impl_Frame_impl_RaiseJoin_1.mono _ _ _ _ _
   | exact LeO.none _
   | refine LeO.ite ?_ ?_
   | refine LeO.bind ?_ (fun _ => ?_)
def impl_RaiseJoin.T8 : Bool × List (List Nat × List Nat) := (true, [([], []), ([], []), ([1], [1]), ([2], [2]), ([], []), ([4], [4]), ([5], [5]), ([3, 6], [3, 6]), ([], []), ([8], [8]), ([9], [9]), ([7, 10], [7, 10]), ([], []), ([12], [12]), ([13], [13]), ([11, 14], [11, 14]), ([0, 0], [0]), ([15, 16, 0, 1, 2, 3, 4, 5, 6, 7, 8, 9, 10, 11, 12, 13, 14, 15, 16], [15])])
def impl_RaiseJoin.B8 : List Nat := [0, 0, 2, 6, 0, 16, 48, 126, 0, 256, 768, 2046, 0, 4096, 12288, 32766, 1, 131071]
theorem impl_RaiseJoin.tab8 : rtab .any (opsOf Try.f35 8) = impl_RaiseJoin.T8 := by kernel_rfl
theorem impl_RaiseJoin.bits8 : waitsOk impl_RaiseJoin.T8.2 impl_RaiseJoin.B8 = true := by kernel_rfl
set_option maxHeartbeats 8000000 in
set_option maxRecDepth 100000 in
theorem impl_RaiseJoin.calls (k : Nat) (A0_0 : Option Addr) (c0_0 : Nat) (l0_0 : List (S56)) (A0_1 : Option Addr) (c0_1 : Nat) (l0_1 : List (S56)) (a0_2 : Int) (a1 : Int) (a2 : Int) (r1 : List (S56)) (r2 : List (S56)) (r3 : Int) (r4 : Int) (w : World) (hr0_0 : Kd.C k56 w A0_0 l0_0.length l0_0) (hc0_0 : l0_0.length ≤ c0_0) (hr0_1 : Kd.C k56 w A0_1 l0_1.length l0_1) (hc0_1 : l0_1.length ≤ c0_1) (h : impl_RaiseJoin.f k l0_0 l0_1 a0_2 a1 a2 = some (r1, r2, r3, r4)) :
  Calls Try.prog 35 #[.agg #[.slice A0_0 l0_0.length c0_0, .slice A0_1 l0_1.length c0_1, .int .i64 a0_2], .int .i64 a1, .int .i64 a2] w fun e w' => ∃ v0_ v1_ : Value, e = .returned (.tuple #[.agg #[v0_, v1_, .int .i64 r3], .int .i64 r4]) ∧ Kd.R k56 56 w' w.heap.size (fun k_ => some k_ ≠ (v1_ : Value).ownBlock) v0_ r1 ∧ Kd.R k56 56 w' w.heap.size (fun k_ => some k_ ≠ (v0_ : Value).ownBlock) v1_ r2 ∧ Below w.heap.size w w' := by
 have hu29 := Try.underlying29
 have HR0_0 := Aside0.mk hr0_0
 have HC0_0 := Aside0.mk hc0_0
 clear hr0_0 hc0_0
 have HR0_1 := Aside0.mk hr0_1
 have HC0_1 := Aside0.mk hc0_1
 clear hr0_1 hc0_1
 have HB := Aside0.mk (Below.refl w.heap.size w)
 have H : ((impl_ownJoin.f l0_0 l0_1 a0_2).bind fun bt259 => ((impl_JoinOk.f k l0_0 l0_1 a0_2).bind fun t267 => (if t267 = true then ((impl_isMark.f a2).bind fun t268 => (if t268 = true then ((impl_isTime.f a1).bind fun t269 => (impl_RaiseJoin.j0 k a2 (!t269) l0_0 l0_1 a0_2 a1 bt259.1 bt259.2.1 bt259.2.2)) else (impl_RaiseJoin.j0 k a2 true l0_0 l0_1 a0_2 a1 bt259.1 bt259.2.1 bt259.2.2))) else (impl_RaiseJoin.j0 k a2 true l0_0 l0_1 a0_2 a1 bt259.1 bt259.2.1 bt259.2.2)))) = some (r1, r2, r3, r4) := h
 clear h
 replace H := Option.bind_eq_some_iff.mp H
 obtain ⟨⟨t259, t262, t265⟩, A40, H⟩ := H
 replace H : ((impl_JoinOk.f k l0_0 l0_1 a0_2).bind fun t267 => (if t267 = true then ((impl_isMark.f a2).bind fun t268 => (if t268 = true then ((impl_isTime.f a1).bind fun t269 => (impl_RaiseJoin.j0 k a2 (!t269) l0_0 l0_1 a0_2 a1 t259 t262 t265)) else (impl_RaiseJoin.j0 k a2 true l0_0 l0_1 a0_2 a1 t259 t262 t265))) else (impl_RaiseJoin.j0 k a2 true l0_0 l0_1 a0_2 a1 t259 t262 t265))) = some (r1, r2, r3, r4) := H
 have A4 := Aside0.mk A40
 clear A40
 have HC5 := Aside0.mk H
 clear H
 go_enter Try.func35, Try.ntmps35
 go_upto_region 2 with (first | ((with_reducible refine gate_dst (N := 3) rfl ?_); refine box_event ?hg (N := 3) ?hd (cs := #[.slice A0_0 l0_0.length c0_0, .slice A0_1 l0_1.length c0_1, .int .i64 a0_2]) (t := 29) ?hr ?_; (case hd => rfl); (case hg => rfl); (case hr => first | (go_simp; done) | (go_simp; rfl)); intro gb256 hg w6 hbox hb; have n0_ := Aside0.mk (below_step (by repeat (first | (with_reducible first | exact HB.out | apply qg | apply qe | apply qf) | exact HB.out)) hb); have n1_ := Aside0.mk (hbox); have n2_ := Aside0.mk ((by rw [hg]; exact (below_size (by repeat (first | (with_reducible first | exact HB.out | apply qg | apply qe | apply qf) | exact HB.out))) : w.heap.size ≤ gb256)); have n3_ := Aside0.mk ((by rw [hg]; exact (below_size (by repeat (first | (with_reducible first | exact HB.out | apply qg | apply qe | apply qf) | exact HB.out))) : w.heap.size ≤ gb256)); clear HB; have HB := n0_; have BK256 := n1_; have GW256 := n2_; have GE256 := n3_; clear n0_ n1_ n2_ n3_; clear hb hbox hg) | ((with_reducible refine gate_dst (N := 4) rfl ?_); refine box_event ?hg (N := 4) ?hd (cs := #[.int .i64 a1]) (t := 3) ?hr ?_; (case hd => rfl); (case hg => rfl); (case hr => first | (go_simp; done) | (go_simp; rfl)); intro gb257 hg w7 hbox hb; have n0_ := Aside0.mk (qp (g := gb256) (o := .cells #[.slice A0_0 l0_0.length c0_0, .slice A0_1 l0_1.length c0_1, .int .i64 a0_2] 29 (0, 0)) (by (with_reducible repeat (first | refine qa ?_ _ | refine qc ?_ | refine qb ?_ _)); exact BK256.out) hb); have n1_ := Aside0.mk (below_step (by repeat (first | (with_reducible first | exact HB.out | apply qg | apply qe | apply qf | refine qd ?_ GE256.out) | exact HB.out)) hb); have n2_ := Aside0.mk (hbox); have n3_ := Aside0.mk ((by rw [hg]; exact (below_size (by repeat (first | (with_reducible first | exact HB.out | apply qg | apply qe | apply qf | refine qd ?_ GE256.out) | exact HB.out))) : w.heap.size ≤ gb257)); have n4_ := Aside0.mk ((by rw [hg]; exact (below_size (by repeat (first | (with_reducible first | exact HB.out | apply qg | apply qe | apply qf | refine qd ?_ GE256.out) | exact HB.out))) : w.heap.size ≤ gb257)); have n5_ := Aside0.mk ((by rw [hg]; exact Nat.ne_of_lt (blk_lt (g := gb256) (o := .cells #[.slice A0_0 l0_0.length c0_0, .slice A0_1 l0_1.length c0_1, .int .i64 a0_2] 29 (0, 0)) (by (with_reducible repeat (first | refine qa ?_ _ | refine qc ?_ | refine qb ?_ _)); exact BK256.out)) : gb256 ≠ gb257)); have n6_ := Aside0.mk ((by rw [hg]; exact Nat.ne_of_gt (blk_lt (g := gb256) (o := .cells #[.slice A0_0 l0_0.length c0_0, .slice A0_1 l0_1.length c0_1, .int .i64 a0_2] 29 (0, 0)) (by (with_reducible repeat (first | refine qa ?_ _ | refine qc ?_ | refine qb ?_ _)); exact BK256.out)) : gb257 ≠ gb256)); clear BK256; clear HB; have BK256 := n0_; have HB := n1_; have BK257 := n2_; have GW257 := n3_; have GE257 := n4_; have NB256_257 := n5_; have NB257_256 := n6_; clear n0_ n1_ n2_ n3_ n4_ n5_ n6_; clear hb hbox hg) | ((with_reducible refine gate_dst (N := 6) rfl ?_); refine box_event ?hg (N := 6) ?hd (cs := #[.slice none 0 0, .slice none 0 0, .int .i64 0]) (t := 29) ?hr ?_; (case hd => rfl); (case hg => rfl); (case hr => first | (go_simp; done) | (go_simp; rfl)); intro gb258 hg w8 hbox hb; have n0_ := Aside0.mk (qp (g := gb256) (o := .cells #[.slice A0_0 l0_0.length c0_0, .slice A0_1 l0_1.length c0_1, .int .i64 a0_2] 29 (0, 0)) (by (with_reducible repeat (first | refine qa ?_ _ | refine qc ?_ | refine qb ?_ _)); exact BK256.out) hb); have n1_ := Aside0.mk (qp (g := gb257) (o := .cells #[.int .i64 a1] 3 (0, 0)) (by (with_reducible repeat (first | refine qa ?_ _ | refine qc ?_ | refine qb ?_ _)); exact BK257.out) hb); have n2_ := Aside0.mk (below_step (by repeat (first | (with_reducible first | exact HB.out | apply qg | apply qe | apply qf | refine qd ?_ GE256.out | refine qd ?_ GE257.out) | exact HB.out)) hb); have n3_ := Aside0.mk (hbox); have n4_ := Aside0.mk ((by rw [hg]; exact (below_size (by repeat (first | (with_reducible first | exact HB.out | apply qg | apply qe | apply qf | refine qd ?_ GE256.out | refine qd ?_ GE257.out) | exact HB.out))) : w.heap.size ≤ gb258)); have n5_ := Aside0.mk ((by rw [hg]; exact (below_size (by repeat (first | (with_reducible first | exact HB.out | apply qg | apply qe | apply qf | refine qd ?_ GE256.out | refine qd ?_ GE257.out) | exact HB.out))) : w.heap.size ≤ gb258)); have n6_ := Aside0.mk ((by rw [hg]; exact Nat.ne_of_lt (blk_lt (g := gb256) (o := .cells #[.slice A0_0 l0_0.length c0_0, .slice A0_1 l0_1.length c0_1, .int .i64 a0_2] 29 (0, 0)) (by (with_reducible repeat (first | refine qa ?_ _ | refine qc ?_ | refine qb ?_ _)); exact BK256.out)) : gb256 ≠ gb258)); have n7_ := Aside0.mk ((by rw [hg]; exact Nat.ne_of_gt (blk_lt (g := gb256) (o := .cells #[.slice A0_0 l0_0.length c0_0, .slice A0_1 l0_1.length c0_1, .int .i64 a0_2] 29 (0, 0)) (by (with_reducible repeat (first | refine qa ?_ _ | refine qc ?_ | refine qb ?_ _)); exact BK256.out)) : gb258 ≠ gb256)); have n8_ := Aside0.mk ((by rw [hg]; exact Nat.ne_of_lt (blk_lt (g := gb257) (o := .cells #[.int .i64 a1] 3 (0, 0)) (by (with_reducible repeat (first | refine qa ?_ _ | refine qc ?_ | refine qb ?_ _)); exact BK257.out)) : gb257 ≠ gb258)); have n9_ := Aside0.mk ((by rw [hg]; exact Nat.ne_of_gt (blk_lt (g := gb257) (o := .cells #[.int .i64 a1] 3 (0, 0)) (by (with_reducible repeat (first | refine qa ?_ _ | refine qc ?_ | refine qb ?_ _)); exact BK257.out)) : gb258 ≠ gb257)); clear BK256; clear BK257; clear HB; have BK256 := n0_; have BK257 := n1_; have HB := n2_; have BK258 := n3_; have GW258 := n4_; have GE258 := n5_; have NB256_258 := n6_; have NB258_256 := n7_; have NB257_258 := n8_; have NB258_257 := n9_; clear n0_ n1_ n2_ n3_ n4_ n5_ n6_ n7_ n8_ n9_; clear hb hbox hg; have hnb9 := NB256_257.out; have hnc9 := NB257_256.out; have hnb10 := NB256_258.out; have hnc10 := NB258_256.out; have hcz11_0 : w8.cell? ⟨gb256, 0, none⟩ = some (.slice A0_0 l0_0.length c0_0) := (qk BK256.out 0).trans rfl; have hcz11_1 : w8.cell? ⟨gb256, 1, none⟩ = some (.slice A0_1 l0_1.length c0_1) := (qk BK256.out 1).trans rfl; have hcz11_2 : w8.cell? ⟨gb256, 2, none⟩ = some (.int .i64 a0_2) := (qk BK256.out 2).trans rfl; have hfz11_0 := qh BK256.out 0; have hfz11_1 := qh BK256.out 1; have hfz11_2 := qh BK256.out 2) | ((with_reducible refine gate_callee (f := 72) rfl ?_); refine goesL_ (some 11) rfl rfl Try.func72 (by kernel_rfl) rfl #[.agg #[.slice A0_0 l0_0.length c0_0, .slice A0_1 l0_1.length c0_1, .int .i64 a0_2]] rfl (by (try simp only [List.map_toArray, List.map_cons, List.map_nil]); first | done | rfl | (simp only [List.length_drop, List.length_take]; rfl)) ?_; (with_reducible refine (impl_ownJoin.calls _ _ l0_0 _ _ l0_1 a0_2 t259 t262 t265 _ ?side1 ?side2 ?side3 ?side4 A4.out).mono ?_); (case side1 => repeat (first | exact (Kd.C_below HR0_0.out HB.out) | (with_reducible refine Kd.C_alloc ?_ _) | (with_reducible refine Kd.C_drewN ?_ _) | (with_reducible refine Kd.C_drew ?_))); (case side2 => exact HC0_0.out); (case side3 => repeat (first | exact (Kd.C_below HR0_1.out HB.out) | (with_reducible refine Kd.C_alloc ?_ _) | (with_reducible refine Kd.C_drewN ?_ _) | (with_reducible refine Kd.C_drew ?_))); (case side4 => exact HC0_1.out); rintro e w12 ⟨v260, v263, rfl, ho0, ho1, hb⟩; refine ⟨_, rfl, ?_⟩; have n0_ := Aside0.mk (Kd.R_lower ho0 (below_size (by repeat (first | (with_reducible first | exact HB.out | apply qg | apply qe | apply qf | refine qd ?_ GE256.out | refine qd ?_ GE257.out | refine qd ?_ GE258.out) | exact HB.out)))); have n1_ := Aside0.mk (Kd.R_lower ho1 (below_size (by repeat (first | (with_reducible first | exact HB.out | apply qg | apply qe | apply qf | refine qd ?_ GE256.out | refine qd ?_ GE257.out | refine qd ?_ GE258.out) | exact HB.out)))); have n2_ := Aside0.mk (qp (g := gb256) (o := .cells #[.slice A0_0 l0_0.length c0_0, .slice A0_1 l0_1.length c0_1, .int .i64 a0_2] 29 (0, 0)) (by (with_reducible repeat (first | refine qa ?_ _ | refine qc ?_ | refine qb ?_ _)); exact BK256.out) hb); have n3_ := Aside0.mk (qp (g := gb257) (o := .cells #[.int .i64 a1] 3 (0, 0)) (by (with_reducible repeat (first | refine qa ?_ _ | refine qc ?_ | refine qb ?_ _)); exact BK257.out) hb); have n4_ := Aside0.mk (qp (g := gb258) (o := .cells #[.slice none 0 0, .slice none 0 0, .int .i64 0] 29 (0, 0)) (by (with_reducible repeat (first | refine qa ?_ _ | refine qc ?_ | refine qb ?_ _)); exact BK258.out) hb); have n5_ := Aside0.mk (below_step (by repeat (first | (with_reducible first | exact HB.out | apply qg | apply qe | apply qf | refine qd ?_ GE256.out | refine qd ?_ GE257.out | refine qd ?_ GE258.out) | exact HB.out)) hb); clear BK256; clear BK257; clear BK258; clear HB; have HO261 := n0_; have HO264 := n1_; have BK256 := n2_; have BK257 := n3_; have BK258 := n4_; have HB := n5_; clear n0_ n1_ n2_ n3_ n4_ n5_; (try clear hb); (try clear hb2); (try clear hk); (try clear hi); (try clear ho0); (try clear ho1)) | ((with_reducible refine gate_dst (N := 8) rfl ?_); refine box_event ?hg (N := 8) ?hd (cs := #[.slice none 0 0, .slice none 0 0, .int .i64 0]) (t := 29) ?hr ?_; (case hd => rfl); (case hg => rfl); (case hr => first | (go_simp; done) | (go_simp; rfl)); intro gb266 hg w13 hbox hb; have n0_ := Aside0.mk (Kd.R_below (by (with_reducible repeat (first | apply qi | apply qj | apply ql)); exact HO261.out) hb); have n1_ := Aside0.mk (Kd.R_below (by (with_reducible repeat (first | apply qi | apply qj | apply ql)); exact HO264.out) hb); have n2_ := Aside0.mk (qp (g := gb256) (o := .cells #[.slice A0_0 l0_0.length c0_0, .slice A0_1 l0_1.length c0_1, .int .i64 a0_2] 29 (0, 0)) (by (with_reducible repeat (first | refine qa ?_ _ | refine qc ?_ | refine qb ?_ _)); exact BK256.out) hb); have n3_ := Aside0.mk (qp (g := gb257) (o := .cells #[.int .i64 a1] 3 (0, 0)) (by (with_reducible repeat (first | refine qa ?_ _ | refine qc ?_ | refine qb ?_ _)); exact BK257.out) hb); have n4_ := Aside0.mk (qp (g := gb258) (o := .cells #[.slice none 0 0, .slice none 0 0, .int .i64 0] 29 (0, 0)) (by (with_reducible repeat (first | refine qa ?_ _ | refine qc ?_ | refine qb ?_ _)); exact BK258.out) hb); have n5_ := Aside0.mk (below_step (by repeat (first | (with_reducible first | exact HB.out | apply qg | apply qe | apply qf | refine qd ?_ GE256.out | refine qd ?_ GE257.out | refine qd ?_ GE258.out) | exact HB.out)) hb); have n6_ := Aside0.mk (hbox); have n7_ := Aside0.mk ((by rw [hg]; exact (below_size (by repeat (first | (with_reducible first | exact HB.out | apply qg | apply qe | apply qf | refine qd ?_ GE256.out | refine qd ?_ GE257.out | refine qd ?_ GE258.out) | exact HB.out))) : w.heap.size ≤ gb266)); have n8_ := Aside0.mk ((by rw [hg]; exact (below_size (by repeat (first | (with_reducible first | exact HB.out | apply qg | apply qe | apply qf | refine qd ?_ GE256.out | refine qd ?_ GE257.out | refine qd ?_ GE258.out) | exact HB.out))) : w.heap.size ≤ gb266)); have n9_ := Aside0.mk ((by rw [hg]; exact Nat.ne_of_lt (blk_lt (g := gb256) (o := .cells #[.slice A0_0 l0_0.length c0_0, .slice A0_1 l0_1.length c0_1, .int .i64 a0_2] 29 (0, 0)) (by (with_reducible repeat (first | refine qa ?_ _ | refine qc ?_ | refine qb ?_ _)); exact BK256.out)) : gb256 ≠ gb266)); have n10_ := Aside0.mk ((by rw [hg]; exact Nat.ne_of_gt (blk_lt (g := gb256) (o := .cells #[.slice A0_0 l0_0.length c0_0, .slice A0_1 l0_1.length c0_1, .int .i64 a0_2] 29 (0, 0)) (by (with_reducible repeat (first | refine qa ?_ _ | refine qc ?_ | refine qb ?_ _)); exact BK256.out)) : gb266 ≠ gb256)); have n11_ := Aside0.mk ((by rw [hg]; exact Nat.ne_of_lt (blk_lt (g := gb257) (o := .cells #[.int .i64 a1] 3 (0, 0)) (by (with_reducible repeat (first | refine qa ?_ _ | refine qc ?_ | refine qb ?_ _)); exact BK257.out)) : gb257 ≠ gb266)); have n12_ := Aside0.mk ((by rw [hg]; exact Nat.ne_of_gt (blk_lt (g := gb257) (o := .cells #[.int .i64 a1] 3 (0, 0)) (by (with_reducible repeat (first | refine qa ?_ _ | refine qc ?_ | refine qb ?_ _)); exact BK257.out)) : gb266 ≠ gb257)); have n13_ := Aside0.mk ((by rw [hg]; exact Nat.ne_of_lt (blk_lt (g := gb258) (o := .cells #[.slice none 0 0, .slice none 0 0, .int .i64 0] 29 (0, 0)) (by (with_reducible repeat (first | refine qa ?_ _ | refine qc ?_ | refine qb ?_ _)); exact BK258.out)) : gb258 ≠ gb266)); have n14_ := Aside0.mk ((by rw [hg]; exact Nat.ne_of_gt (blk_lt (g := gb258) (o := .cells #[.slice none 0 0, .slice none 0 0, .int .i64 0] 29 (0, 0)) (by (with_reducible repeat (first | refine qa ?_ _ | refine qc ?_ | refine qb ?_ _)); exact BK258.out)) : gb266 ≠ gb258)); clear HO261; clear HO264; clear BK256; clear BK257; clear BK258; clear HB; have HO261 := n0_; have HO264 := n1_; have BK256 := n2_; have BK257 := n3_; have BK258 := n4_; have HB := n5_; have BK266 := n6_; have GW266 := n7_; have GE266 := n8_; have NB256_266 := n9_; have NB266_256 := n10_; have NB257_266 := n11_; have NB266_257 := n12_; have NB258_266 := n13_; have NB266_258 := n14_; clear n0_ n1_ n2_ n3_ n4_ n5_ n6_ n7_ n8_ n9_ n10_ n11_ n12_ n13_ n14_; clear hb hbox hg; obtain ⟨Ao14, co14, eo14⟩ := Kd.R_slice HO261.out; subst eo14; have hnb15 := NB266_256.out; have hnc15 := NB256_266.out; have hnb16 := NB266_257.out; have hnc16 := NB257_266.out; have hnb17 := NB266_258.out; have hnc17 := NB258_266.out; have hcz18_0 : w13.cell? ⟨gb266, 0, none⟩ = some (.slice none 0 0) := (qk BK266.out 0).trans rfl; have hcz18_1 : w13.cell? ⟨gb266, 1, none⟩ = some (.slice none 0 0) := (qk BK266.out 1).trans rfl; have hcz18_2 : w13.cell? ⟨gb266, 2, none⟩ = some (.int .i64 0) := (qk BK266.out 2).trans rfl; have hfz18_0 := qh BK266.out 0; have hfz18_1 := qh BK266.out 1; have hfz18_2 := qh BK266.out 2; obtain ⟨Ao19, co19, eo19⟩ := Kd.R_slice HO264.out; subst eo19))
 (try simp only [Act.put, List.setIfInBounds_toArray, List.set_cons_zero, List.set_cons_succ])
 go_cut [24] (fun v24 wc => ∃ (kq : Nat) (x24_4 : Bool), v24 = .bool x24_4 ∧ Aside0 (impl_RaiseJoin.j0 kq a2 x24_4 l0_0 l0_1 a0_2 a1 t259 t262 t265 = some (r1, r2, r3, r4)) ∧ Aside0 (kq ≤ k) ∧ Aside0 (Kd.R k56 56 wc w.heap.size (fun k_ => some k_ ≠ ((.slice Ao19 t262.length co19) : Value).ownBlock) (.slice Ao14 t259.length co14) t259) ∧ Aside0 (Kd.R k56 56 wc w.heap.size (fun k_ => some k_ ≠ ((.slice Ao14 t259.length co14) : Value).ownBlock) (.slice Ao19 t262.length co19) t262) ∧ Aside0 (wc.heap[gb256]? = some (.cells #[(.slice A0_0 l0_0.length c0_0), (.slice A0_1 l0_1.length c0_1), .int .i64 a0_2] 29 (0, 0))) ∧ Aside0 (wc.heap[gb257]? = some (.cells #[.int .i64 a1] 3 (0, 0))) ∧ Aside0 (wc.heap[gb258]? = some (.cells #[(.slice none 0 0), (.slice none 0 0), .int .i64 0] 29 (0, 0))) ∧ Aside0 (wc.heap[gb266]? = some (.cells #[(.slice Ao14 t259.length co14), (.slice Ao19 t262.length co19), .int .i64 t265] 29 (0, 0))) ∧ Aside0 (Below w.heap.size w wc))
 case first =>
  have H := HC5.out
  clear HC5
  replace H := Option.bind_eq_some_iff.mp H
  obtain ⟨t267, A200, H⟩ := H
  replace H : (if t267 = true then ((impl_isMark.f a2).bind fun t268 => (if t268 = true then ((impl_isTime.f a1).bind fun t269 => (impl_RaiseJoin.j0 k a2 (!t269) l0_0 l0_1 a0_2 a1 t259 t262 t265)) else (impl_RaiseJoin.j0 k a2 true l0_0 l0_1 a0_2 a1 t259 t262 t265))) else (impl_RaiseJoin.j0 k a2 true l0_0 l0_1 a0_2 a1 t259 t262 t265)) = some (r1, r2, r3, r4) := H
  have A20 := Aside0.mk A200
  clear A200
  by_cases c21 : t267 = true
  ·
   subst c21
   have H1 : ((impl_isMark.f a2).bind fun t268 => (if t268 = true then ((impl_isTime.f a1).bind fun t269 => (impl_RaiseJoin.j0 k a2 (!t269) l0_0 l0_1 a0_2 a1 t259 t262 t265)) else (impl_RaiseJoin.j0 k a2 true l0_0 l0_1 a0_2 a1 t259 t262 t265))) = some (r1, r2, r3, r4) := by rw [if_pos rfl] at H; exact H
   clear H
   have H := H1
   clear H1
   replace H := Option.bind_eq_some_iff.mp H
   obtain ⟨t268, A220, H⟩ := H
   replace H : (if t268 = true then ((impl_isTime.f a1).bind fun t269 => (impl_RaiseJoin.j0 k a2 (!t269) l0_0 l0_1 a0_2 a1 t259 t262 t265)) else (impl_RaiseJoin.j0 k a2 true l0_0 l0_1 a0_2 a1 t259 t262 t265)) = some (r1, r2, r3, r4) := H
   have A22 := Aside0.mk A220
   clear A220
   by_cases c23 : t268 = true
   ·
    subst c23
    have H1 : ((impl_isTime.f a1).bind fun t269 => (impl_RaiseJoin.j0 k a2 (!t269) l0_0 l0_1 a0_2 a1 t259 t262 t265)) = some (r1, r2, r3, r4) := by rw [if_pos rfl] at H; exact H
    clear H
    have H := H1
    clear H1
    replace H := Option.bind_eq_some_iff.mp H
    obtain ⟨t269, A240, H⟩ := H
    replace H : (impl_RaiseJoin.j0 k a2 (!t269) l0_0 l0_1 a0_2 a1 t259 t262 t265) = some (r1, r2, r3, r4) := H
    have A24 := Aside0.mk A240
    clear A240
    have H' := Aside0.mk H
    clear H
    have hnb25 := NB256_257.out
    have hnc25 := NB257_256.out
    have hnb26 := NB256_258.out
    have hnc26 := NB258_256.out
    have hnb27 := NB256_266.out
    have hnc27 := NB266_256.out
    have hcz28_0 : w13.cell? ⟨gb256, 0, none⟩ = some (.slice A0_0 l0_0.length c0_0) := (qk BK256.out 0).trans rfl
    have hcz28_1 : w13.cell? ⟨gb256, 1, none⟩ = some (.slice A0_1 l0_1.length c0_1) := (qk BK256.out 1).trans rfl
    have hcz28_2 : w13.cell? ⟨gb256, 2, none⟩ = some (.int .i64 a0_2) := (qk BK256.out 2).trans rfl
    have hfz28_0 := qh BK256.out 0
    have hfz28_1 := qh BK256.out 1
    have hfz28_2 := qh BK256.out 2
    go_wp2_with (first | ((with_reducible refine gate_callee (f := 16) rfl ?_); refine goesL_ (some 13) rfl rfl Try.func16 (by kernel_rfl) rfl #[.agg #[.slice A0_0 l0_0.length c0_0, .slice A0_1 l0_1.length c0_1, .int .i64 a0_2]] rfl (by (try simp only [List.map_toArray, List.map_cons, List.map_nil]); first | done | rfl | (simp only [List.length_drop, List.length_take]; rfl)) ?_; (with_reducible refine (impl_JoinOk.calls k _ _ l0_0 _ _ l0_1 a0_2 true _ ?side1 ?side2 ?side3 ?side4 A20.out).mono ?_); (case side1 => exact Kd.C_below HR0_0.out (by repeat (first | (with_reducible first | exact HB.out | apply qg | apply qe | apply qf | refine qd ?_ GE256.out | refine qd ?_ GE257.out | refine qd ?_ GE258.out | refine qd ?_ GE266.out) | exact HB.out))); (case side2 => exact HC0_0.out); (case side3 => exact Kd.C_below HR0_1.out (by repeat (first | (with_reducible first | exact HB.out | apply qg | apply qe | apply qf | refine qd ?_ GE256.out | refine qd ?_ GE257.out | refine qd ?_ GE258.out | refine qd ?_ GE266.out) | exact HB.out))); (case side4 => exact HC0_1.out); rintro e w29 ⟨rfl, hb⟩; refine ⟨_, rfl, ?_⟩; have n0_ := Aside0.mk (Kd.R_below (by (with_reducible repeat (first | apply qi | apply qj | apply ql)); exact (qn (qm (p := ⟨gb266, 2, none⟩) (qm (p := ⟨gb266, 1, none⟩) (qm (p := ⟨gb266, 0, none⟩) (Kd.R_types HO261.out BK266.out (by decide)) (fun _ hk => hk.2) (.slice Ao14 t259.length co14)) (fun _ hk => hk.2) (.slice Ao19 t262.length co19)) (fun _ hk => hk.2) (.int .i64 t265)) (fun _ h_ => h_.1))) hb); have n1_ := Aside0.mk (Kd.R_below (by (with_reducible repeat (first | apply qi | apply qj | apply ql)); exact (qn (qm (p := ⟨gb266, 2, none⟩) (qm (p := ⟨gb266, 1, none⟩) (qm (p := ⟨gb266, 0, none⟩) (Kd.R_types HO264.out BK266.out (by decide)) (fun _ hk => hk.2) (.slice Ao14 t259.length co14)) (fun _ hk => hk.2) (.slice Ao19 t262.length co19)) (fun _ hk => hk.2) (.int .i64 t265)) (fun _ h_ => h_.1))) hb); have n2_ := Aside0.mk (qp (g := gb256) (o := .cells #[.slice A0_0 l0_0.length c0_0, .slice A0_1 l0_1.length c0_1, .int .i64 a0_2] 29 (0, 0)) (by (with_reducible repeat (first | refine qa ?_ _ | refine qc ?_ | refine qb ?_ _)); refine qo ?_ NB256_266.out _; (with_reducible repeat (first | refine qa ?_ _ | refine qc ?_ | refine qb ?_ _)); refine qo ?_ NB256_266.out _; (with_reducible repeat (first | refine qa ?_ _ | refine qc ?_ | refine qb ?_ _)); refine qo ?_ NB256_266.out _; (with_reducible repeat (first | refine qa ?_ _ | refine qc ?_ | refine qb ?_ _)); exact BK256.out) hb); have n3_ := Aside0.mk (qp (g := gb257) (o := .cells #[.int .i64 a1] 3 (0, 0)) (by (with_reducible repeat (first | refine qa ?_ _ | refine qc ?_ | refine qb ?_ _)); refine qo ?_ NB257_266.out _; (with_reducible repeat (first | refine qa ?_ _ | refine qc ?_ | refine qb ?_ _)); refine qo ?_ NB257_266.out _; (with_reducible repeat (first | refine qa ?_ _ | refine qc ?_ | refine qb ?_ _)); refine qo ?_ NB257_266.out _; (with_reducible repeat (first | refine qa ?_ _ | refine qc ?_ | refine qb ?_ _)); exact BK257.out) hb); have n4_ := Aside0.mk (qp (g := gb258) (o := .cells #[.slice none 0 0, .slice none 0 0, .int .i64 0] 29 (0, 0)) (by (with_reducible repeat (first | refine qa ?_ _ | refine qc ?_ | refine qb ?_ _)); refine qo ?_ NB258_266.out _; (with_reducible repeat (first | refine qa ?_ _ | refine qc ?_ | refine qb ?_ _)); refine qo ?_ NB258_266.out _; (with_reducible repeat (first | refine qa ?_ _ | refine qc ?_ | refine qb ?_ _)); refine qo ?_ NB258_266.out _; (with_reducible repeat (first | refine qa ?_ _ | refine qc ?_ | refine qb ?_ _)); exact BK258.out) hb); have n5_ := Aside0.mk (qp (g := gb266) (o := .cells #[.slice Ao14 t259.length co14, .slice Ao19 t262.length co19, .int .i64 t265] 29 (0, 0)) (by (with_reducible repeat (first | refine qa ?_ _ | refine qc ?_ | refine qb ?_ _)); refine blk_put (cs := #[.slice Ao14 t259.length co14, .slice Ao19 t262.length co19, .int .i64 0]) ?_ 2 _ rfl; (with_reducible repeat (first | refine qa ?_ _ | refine qc ?_ | refine qb ?_ _)); refine blk_put (cs := #[.slice Ao14 t259.length co14, .slice none 0 0, .int .i64 0]) ?_ 1 _ rfl; (with_reducible repeat (first | refine qa ?_ _ | refine qc ?_ | refine qb ?_ _)); refine blk_put (cs := #[.slice none 0 0, .slice none 0 0, .int .i64 0]) ?_ 0 _ rfl; (with_reducible repeat (first | refine qa ?_ _ | refine qc ?_ | refine qb ?_ _)); exact BK266.out) hb); have n6_ := Aside0.mk (below_step (by repeat (first | (with_reducible first | exact HB.out | apply qg | apply qe | apply qf | refine qd ?_ GE256.out | refine qd ?_ GE257.out | refine qd ?_ GE258.out | refine qd ?_ GE266.out) | exact HB.out)) hb); clear HO261; clear HO264; clear BK256; clear BK257; clear BK258; clear BK266; clear HB; have HO261 := n0_; have HO264 := n1_; have BK256 := n2_; have BK257 := n3_; have BK258 := n4_; have BK266 := n5_; have HB := n6_; clear n0_ n1_ n2_ n3_ n4_ n5_ n6_; (try clear hb); (try clear hb2); (try clear hk); (try clear hi)) | (go_at_call 58; (with_reducible refine (impl_isMark.calls a2 true _ A22.out).mono ?_); rintro e w' ⟨rfl, ⟨nd, rfl⟩⟩; have hnb30 := NB257_258.out; have hnc30 := NB258_257.out; have hnb31 := NB257_266.out; have hnc31 := NB266_257.out; have hcz32_0 : w29.cell? ⟨gb257, 0, none⟩ = some (.int .i64 a1) := (qk BK257.out 0).trans rfl; have hfz32_0 := qh BK257.out 0) | (go_at_call 66; (with_reducible refine (impl_isTime.calls a1 t269 _ A24.out).mono ?_); rintro e w' ⟨rfl, ⟨nd, rfl⟩⟩))
    go_meet
    case rel => exact ⟨_, (!t269), (by first | rfl | (simp; done) | (simp [*]; done)), H', ⟨by first | omega | exact Nat.le_refl _⟩, ⟨by (with_reducible repeat (first | apply qi | apply qj | apply ql)); exact HO261.out⟩, ⟨by (with_reducible repeat (first | apply qi | apply qj | apply ql)); exact HO264.out⟩, ⟨by (with_reducible repeat (first | refine qa ?_ _ | refine qc ?_ | refine qb ?_ _)); exact BK256.out⟩, ⟨by (with_reducible repeat (first | refine qa ?_ _ | refine qc ?_ | refine qb ?_ _)); exact BK257.out⟩, ⟨by (with_reducible repeat (first | refine qa ?_ _ | refine qc ?_ | refine qb ?_ _)); exact BK258.out⟩, ⟨by (with_reducible repeat (first | refine qa ?_ _ | refine qc ?_ | refine qb ?_ _)); exact BK266.out⟩, ⟨by repeat (first | (with_reducible first | exact HB.out | apply qg | apply qe | apply qf | refine qd ?_ GE256.out | refine qd ?_ GE257.out | refine qd ?_ GE258.out | refine qd ?_ GE266.out) | exact HB.out)⟩⟩
   ·
    replace c23 := Bool.eq_false_iff.mpr c23
    subst c23
    have H1 : (impl_RaiseJoin.j0 k a2 true l0_0 l0_1 a0_2 a1 t259 t262 t265) = some (r1, r2, r3, r4) := by rw [if_neg (show ¬ (false = true) by decide)] at H; exact H
    clear H
    have H := H1
    clear H1
    have H' := Aside0.mk H
    clear H
    have hnb33 := NB256_257.out
    have hnc33 := NB257_256.out
    have hnb34 := NB256_258.out
    have hnc34 := NB258_256.out
    have hnb35 := NB256_266.out
    have hnc35 := NB266_256.out
    have hcz36_0 : w13.cell? ⟨gb256, 0, none⟩ = some (.slice A0_0 l0_0.length c0_0) := (qk BK256.out 0).trans rfl
    have hcz36_1 : w13.cell? ⟨gb256, 1, none⟩ = some (.slice A0_1 l0_1.length c0_1) := (qk BK256.out 1).trans rfl
    have hcz36_2 : w13.cell? ⟨gb256, 2, none⟩ = some (.int .i64 a0_2) := (qk BK256.out 2).trans rfl
    have hfz36_0 := qh BK256.out 0
    have hfz36_1 := qh BK256.out 1
    have hfz36_2 := qh BK256.out 2
    go_wp2_with (first | ((with_reducible refine gate_callee (f := 16) rfl ?_); refine goesL_ (some 13) rfl rfl Try.func16 (by kernel_rfl) rfl #[.agg #[.slice A0_0 l0_0.length c0_0, .slice A0_1 l0_1.length c0_1, .int .i64 a0_2]] rfl (by (try simp only [List.map_toArray, List.map_cons, List.map_nil]); first | done | rfl | (simp only [List.length_drop, List.length_take]; rfl)) ?_; (with_reducible refine (impl_JoinOk.calls k _ _ l0_0 _ _ l0_1 a0_2 true _ ?side1 ?side2 ?side3 ?side4 A20.out).mono ?_); (case side1 => exact Kd.C_below HR0_0.out (by repeat (first | (with_reducible first | exact HB.out | apply qg | apply qe | apply qf | refine qd ?_ GE256.out | refine qd ?_ GE257.out | refine qd ?_ GE258.out | refine qd ?_ GE266.out) | exact HB.out))); (case side2 => exact HC0_0.out); (case side3 => exact Kd.C_below HR0_1.out (by repeat (first | (with_reducible first | exact HB.out | apply qg | apply qe | apply qf | refine qd ?_ GE256.out | refine qd ?_ GE257.out | refine qd ?_ GE258.out | refine qd ?_ GE266.out) | exact HB.out))); (case side4 => exact HC0_1.out); rintro e w37 ⟨rfl, hb⟩; refine ⟨_, rfl, ?_⟩; have n0_ := Aside0.mk (Kd.R_below (by (with_reducible repeat (first | apply qi | apply qj | apply ql)); exact (qn (qm (p := ⟨gb266, 2, none⟩) (qm (p := ⟨gb266, 1, none⟩) (qm (p := ⟨gb266, 0, none⟩) (Kd.R_types HO261.out BK266.out (by decide)) (fun _ hk => hk.2) (.slice Ao14 t259.length co14)) (fun _ hk => hk.2) (.slice Ao19 t262.length co19)) (fun _ hk => hk.2) (.int .i64 t265)) (fun _ h_ => h_.1))) hb); have n1_ := Aside0.mk (Kd.R_below (by (with_reducible repeat (first | apply qi | apply qj | apply ql)); exact (qn (qm (p := ⟨gb266, 2, none⟩) (qm (p := ⟨gb266, 1, none⟩) (qm (p := ⟨gb266, 0, none⟩) (Kd.R_types HO264.out BK266.out (by decide)) (fun _ hk => hk.2) (.slice Ao14 t259.length co14)) (fun _ hk => hk.2) (.slice Ao19 t262.length co19)) (fun _ hk => hk.2) (.int .i64 t265)) (fun _ h_ => h_.1))) hb); have n2_ := Aside0.mk (qp (g := gb256) (o := .cells #[.slice A0_0 l0_0.length c0_0, .slice A0_1 l0_1.length c0_1, .int .i64 a0_2] 29 (0, 0)) (by (with_reducible repeat (first | refine qa ?_ _ | refine qc ?_ | refine qb ?_ _)); refine qo ?_ NB256_266.out _; (with_reducible repeat (first | refine qa ?_ _ | refine qc ?_ | refine qb ?_ _)); refine qo ?_ NB256_266.out _; (with_reducible repeat (first | refine qa ?_ _ | refine qc ?_ | refine qb ?_ _)); refine qo ?_ NB256_266.out _; (with_reducible repeat (first | refine qa ?_ _ | refine qc ?_ | refine qb ?_ _)); exact BK256.out) hb); have n3_ := Aside0.mk (qp (g := gb257) (o := .cells #[.int .i64 a1] 3 (0, 0)) (by (with_reducible repeat (first | refine qa ?_ _ | refine qc ?_ | refine qb ?_ _)); refine qo ?_ NB257_266.out _; (with_reducible repeat (first | refine qa ?_ _ | refine qc ?_ | refine qb ?_ _)); refine qo ?_ NB257_266.out _; (with_reducible repeat (first | refine qa ?_ _ | refine qc ?_ | refine qb ?_ _)); refine qo ?_ NB257_266.out _; (with_reducible repeat (first | refine qa ?_ _ | refine qc ?_ | refine qb ?_ _)); exact BK257.out) hb); have n4_ := Aside0.mk (qp (g := gb258) (o := .cells #[.slice none 0 0, .slice none 0 0, .int .i64 0] 29 (0, 0)) (by (with_reducible repeat (first | refine qa ?_ _ | refine qc ?_ | refine qb ?_ _)); refine qo ?_ NB258_266.out _; (with_reducible repeat (first | refine qa ?_ _ | refine qc ?_ | refine qb ?_ _)); refine qo ?_ NB258_266.out _; (with_reducible repeat (first | refine qa ?_ _ | refine qc ?_ | refine qb ?_ _)); refine qo ?_ NB258_266.out _; (with_reducible repeat (first | refine qa ?_ _ | refine qc ?_ | refine qb ?_ _)); exact BK258.out) hb); have n5_ := Aside0.mk (qp (g := gb266) (o := .cells #[.slice Ao14 t259.length co14, .slice Ao19 t262.length co19, .int .i64 t265] 29 (0, 0)) (by (with_reducible repeat (first | refine qa ?_ _ | refine qc ?_ | refine qb ?_ _)); refine blk_put (cs := #[.slice Ao14 t259.length co14, .slice Ao19 t262.length co19, .int .i64 0]) ?_ 2 _ rfl; (with_reducible repeat (first | refine qa ?_ _ | refine qc ?_ | refine qb ?_ _)); refine blk_put (cs := #[.slice Ao14 t259.length co14, .slice none 0 0, .int .i64 0]) ?_ 1 _ rfl; (with_reducible repeat (first | refine qa ?_ _ | refine qc ?_ | refine qb ?_ _)); refine blk_put (cs := #[.slice none 0 0, .slice none 0 0, .int .i64 0]) ?_ 0 _ rfl; (with_reducible repeat (first | refine qa ?_ _ | refine qc ?_ | refine qb ?_ _)); exact BK266.out) hb); have n6_ := Aside0.mk (below_step (by repeat (first | (with_reducible first | exact HB.out | apply qg | apply qe | apply qf | refine qd ?_ GE256.out | refine qd ?_ GE257.out | refine qd ?_ GE258.out | refine qd ?_ GE266.out) | exact HB.out)) hb); clear HO261; clear HO264; clear BK256; clear BK257; clear BK258; clear BK266; clear HB; have HO261 := n0_; have HO264 := n1_; have BK256 := n2_; have BK257 := n3_; have BK258 := n4_; have BK266 := n5_; have HB := n6_; clear n0_ n1_ n2_ n3_ n4_ n5_ n6_; (try clear hb); (try clear hb2); (try clear hk); (try clear hi)) | (go_at_call 58; (with_reducible refine (impl_isMark.calls a2 false _ A22.out).mono ?_); rintro e w' ⟨rfl, ⟨nd, rfl⟩⟩))
    go_meet
    case rel => exact ⟨_, (true), (by first | rfl | (simp; done) | (simp [*]; done)), H', ⟨by first | omega | exact Nat.le_refl _⟩, ⟨by (with_reducible repeat (first | apply qi | apply qj | apply ql)); exact HO261.out⟩, ⟨by (with_reducible repeat (first | apply qi | apply qj | apply ql)); exact HO264.out⟩, ⟨by (with_reducible repeat (first | refine qa ?_ _ | refine qc ?_ | refine qb ?_ _)); exact BK256.out⟩, ⟨by (with_reducible repeat (first | refine qa ?_ _ | refine qc ?_ | refine qb ?_ _)); exact BK257.out⟩, ⟨by (with_reducible repeat (first | refine qa ?_ _ | refine qc ?_ | refine qb ?_ _)); exact BK258.out⟩, ⟨by (with_reducible repeat (first | refine qa ?_ _ | refine qc ?_ | refine qb ?_ _)); exact BK266.out⟩, ⟨by repeat (first | (with_reducible first | exact HB.out | apply qg | apply qe | apply qf | refine qd ?_ GE256.out | refine qd ?_ GE257.out | refine qd ?_ GE258.out | refine qd ?_ GE266.out) | exact HB.out)⟩⟩
  ·
   replace c21 := Bool.eq_false_iff.mpr c21
   subst c21
   have H1 : (impl_RaiseJoin.j0 k a2 true l0_0 l0_1 a0_2 a1 t259 t262 t265) = some (r1, r2, r3, r4) := by rw [if_neg (show ¬ (false = true) by decide)] at H; exact H
   clear H
   have H := H1
   clear H1
   have H' := Aside0.mk H
   clear H
   have hnb38 := NB256_257.out
   have hnc38 := NB257_256.out
   have hnb39 := NB256_258.out
   have hnc39 := NB258_256.out
   have hnb40 := NB256_266.out
   have hnc40 := NB266_256.out
   have hcz41_0 : w13.cell? ⟨gb256, 0, none⟩ = some (.slice A0_0 l0_0.length c0_0) := (qk BK256.out 0).trans rfl
   have hcz41_1 : w13.cell? ⟨gb256, 1, none⟩ = some (.slice A0_1 l0_1.length c0_1) := (qk BK256.out 1).trans rfl
   have hcz41_2 : w13.cell? ⟨gb256, 2, none⟩ = some (.int .i64 a0_2) := (qk BK256.out 2).trans rfl
   have hfz41_0 := qh BK256.out 0
   have hfz41_1 := qh BK256.out 1
   have hfz41_2 := qh BK256.out 2
   go_wp2_with (first | ((with_reducible refine gate_callee (f := 16) rfl ?_); refine goesL_ (some 13) rfl rfl Try.func16 (by kernel_rfl) rfl #[.agg #[.slice A0_0 l0_0.length c0_0, .slice A0_1 l0_1.length c0_1, .int .i64 a0_2]] rfl (by (try simp only [List.map_toArray, List.map_cons, List.map_nil]); first | done | rfl | (simp only [List.length_drop, List.length_take]; rfl)) ?_; (with_reducible refine (impl_JoinOk.calls k _ _ l0_0 _ _ l0_1 a0_2 false _ ?side1 ?side2 ?side3 ?side4 A20.out).mono ?_); (case side1 => exact Kd.C_below HR0_0.out (by repeat (first | (with_reducible first | exact HB.out | apply qg | apply qe | apply qf | refine qd ?_ GE256.out | refine qd ?_ GE257.out | refine qd ?_ GE258.out | refine qd ?_ GE266.out) | exact HB.out))); (case side2 => exact HC0_0.out); (case side3 => exact Kd.C_below HR0_1.out (by repeat (first | (with_reducible first | exact HB.out | apply qg | apply qe | apply qf | refine qd ?_ GE256.out | refine qd ?_ GE257.out | refine qd ?_ GE258.out | refine qd ?_ GE266.out) | exact HB.out))); (case side4 => exact HC0_1.out); rintro e w42 ⟨rfl, hb⟩; refine ⟨_, rfl, ?_⟩; have n0_ := Aside0.mk (Kd.R_below (by (with_reducible repeat (first | apply qi | apply qj | apply ql)); exact (qn (qm (p := ⟨gb266, 2, none⟩) (qm (p := ⟨gb266, 1, none⟩) (qm (p := ⟨gb266, 0, none⟩) (Kd.R_types HO261.out BK266.out (by decide)) (fun _ hk => hk.2) (.slice Ao14 t259.length co14)) (fun _ hk => hk.2) (.slice Ao19 t262.length co19)) (fun _ hk => hk.2) (.int .i64 t265)) (fun _ h_ => h_.1))) hb); have n1_ := Aside0.mk (Kd.R_below (by (with_reducible repeat (first | apply qi | apply qj | apply ql)); exact (qn (qm (p := ⟨gb266, 2, none⟩) (qm (p := ⟨gb266, 1, none⟩) (qm (p := ⟨gb266, 0, none⟩) (Kd.R_types HO264.out BK266.out (by decide)) (fun _ hk => hk.2) (.slice Ao14 t259.length co14)) (fun _ hk => hk.2) (.slice Ao19 t262.length co19)) (fun _ hk => hk.2) (.int .i64 t265)) (fun _ h_ => h_.1))) hb); have n2_ := Aside0.mk (qp (g := gb256) (o := .cells #[.slice A0_0 l0_0.length c0_0, .slice A0_1 l0_1.length c0_1, .int .i64 a0_2] 29 (0, 0)) (by (with_reducible repeat (first | refine qa ?_ _ | refine qc ?_ | refine qb ?_ _)); refine qo ?_ NB256_266.out _; (with_reducible repeat (first | refine qa ?_ _ | refine qc ?_ | refine qb ?_ _)); refine qo ?_ NB256_266.out _; (with_reducible repeat (first | refine qa ?_ _ | refine qc ?_ | refine qb ?_ _)); refine qo ?_ NB256_266.out _; (with_reducible repeat (first | refine qa ?_ _ | refine qc ?_ | refine qb ?_ _)); exact BK256.out) hb); have n3_ := Aside0.mk (qp (g := gb257) (o := .cells #[.int .i64 a1] 3 (0, 0)) (by (with_reducible repeat (first | refine qa ?_ _ | refine qc ?_ | refine qb ?_ _)); refine qo ?_ NB257_266.out _; (with_reducible repeat (first | refine qa ?_ _ | refine qc ?_ | refine qb ?_ _)); refine qo ?_ NB257_266.out _; (with_reducible repeat (first | refine qa ?_ _ | refine qc ?_ | refine qb ?_ _)); refine qo ?_ NB257_266.out _; (with_reducible repeat (first | refine qa ?_ _ | refine qc ?_ | refine qb ?_ _)); exact BK257.out) hb); have n4_ := Aside0.mk (qp (g := gb258) (o := .cells #[.slice none 0 0, .slice none 0 0, .int .i64 0] 29 (0, 0)) (by (with_reducible repeat (first | refine qa ?_ _ | refine qc ?_ | refine qb ?_ _)); refine qo ?_ NB258_266.out _; (with_reducible repeat (first | refine qa ?_ _ | refine qc ?_ | refine qb ?_ _)); refine qo ?_ NB258_266.out _; (with_reducible repeat (first | refine qa ?_ _ | refine qc ?_ | refine qb ?_ _)); refine qo ?_ NB258_266.out _; (with_reducible repeat (first | refine qa ?_ _ | refine qc ?_ | refine qb ?_ _)); exact BK258.out) hb); have n5_ := Aside0.mk (qp (g := gb266) (o := .cells #[.slice Ao14 t259.length co14, .slice Ao19 t262.length co19, .int .i64 t265] 29 (0, 0)) (by (with_reducible repeat (first | refine qa ?_ _ | refine qc ?_ | refine qb ?_ _)); refine blk_put (cs := #[.slice Ao14 t259.length co14, .slice Ao19 t262.length co19, .int .i64 0]) ?_ 2 _ rfl; (with_reducible repeat (first | refine qa ?_ _ | refine qc ?_ | refine qb ?_ _)); refine blk_put (cs := #[.slice Ao14 t259.length co14, .slice none 0 0, .int .i64 0]) ?_ 1 _ rfl; (with_reducible repeat (first | refine qa ?_ _ | refine qc ?_ | refine qb ?_ _)); refine blk_put (cs := #[.slice none 0 0, .slice none 0 0, .int .i64 0]) ?_ 0 _ rfl; (with_reducible repeat (first | refine qa ?_ _ | refine qc ?_ | refine qb ?_ _)); exact BK266.out) hb); have n6_ := Aside0.mk (below_step (by repeat (first | (with_reducible first | exact HB.out | apply qg | apply qe | apply qf | refine qd ?_ GE256.out | refine qd ?_ GE257.out | refine qd ?_ GE258.out | refine qd ?_ GE266.out) | exact HB.out)) hb); clear HO261; clear HO264; clear BK256; clear BK257; clear BK258; clear BK266; clear HB; have HO261 := n0_; have HO264 := n1_; have BK256 := n2_; have BK257 := n3_; have BK258 := n4_; have BK266 := n5_; have HB := n6_; clear n0_ n1_ n2_ n3_ n4_ n5_ n6_; (try clear hb); (try clear hb2); (try clear hk); (try clear hi)))
   go_meet
   case rel => exact ⟨_, (true), (by first | rfl | (simp; done) | (simp [*]; done)), H', ⟨by first | omega | exact Nat.le_refl _⟩, ⟨by (with_reducible repeat (first | apply qi | apply qj | apply ql)); exact HO261.out⟩, ⟨by (with_reducible repeat (first | apply qi | apply qj | apply ql)); exact HO264.out⟩, ⟨by (with_reducible repeat (first | refine qa ?_ _ | refine qc ?_ | refine qb ?_ _)); exact BK256.out⟩, ⟨by (with_reducible repeat (first | refine qa ?_ _ | refine qc ?_ | refine qb ?_ _)); exact BK257.out⟩, ⟨by (with_reducible repeat (first | refine qa ?_ _ | refine qc ?_ | refine qb ?_ _)); exact BK258.out⟩, ⟨by (with_reducible repeat (first | refine qa ?_ _ | refine qc ?_ | refine qb ?_ _)); exact BK266.out⟩, ⟨by repeat (first | (with_reducible first | exact HB.out | apply qg | apply qe | apply qf | refine qd ?_ GE256.out | refine qd ?_ GE257.out | refine qd ?_ GE258.out | refine qd ?_ GE266.out) | exact HB.out)⟩⟩
 case rest =>
  clear HC5
  try clear c1
  try clear c2
  try clear p2
  try clear c3
  try clear c4
  try clear c7
  try clear c9
  try clear c10
  try clear c15
  try clear c16
  try clear c17
  try clear c21
  try clear c23
  try clear c25
  try clear c26
  try clear c27
  try clear c30
  try clear c31
  try clear c33
  try clear c34
  try clear c35
  try clear c38
  try clear c39
  try clear c40
  try clear hcz11_0
  try clear hcz11_1
  try clear hcz11_2
  try clear hcz18_0
  try clear hcz18_1
  try clear hcz18_2
  try clear hcz28_0
  try clear hcz28_1
  try clear hcz28_2
  try clear hcz32_0
  try clear hcz36_0
  try clear hcz36_1
  try clear hcz36_2
  try clear hcz41_0
  try clear hcz41_1
  try clear hcz41_2
  try clear hfz11_0
  try clear hfz11_1
  try clear hfz11_2
  try clear hfz18_0
  try clear hfz18_1
  try clear hfz18_2
  try clear hfz28_0
  try clear hfz28_1
  try clear hfz28_2
  try clear hfz32_0
  try clear hfz36_0
  try clear hfz36_1
  try clear hfz36_2
  try clear hfz41_0
  try clear hfz41_1
  try clear hfz41_2
  obtain ⟨kq, x24_4, rfl, HA, HJ4, HO_267000, HO_267001, BK256, BK257, BK258, BK266, HB⟩ := hcut
  cases kq with
  | zero => exact absurd HA.out (by simp [impl_RaiseJoin.j0])
  | succ kj4 =>
   have H := HA.out
   clear HA
   simp only [impl_RaiseJoin.j0] at H
   by_cases c43 : x24_4 = true
   ·
    subst c43
    have H1 : (some (t259, t262, t265, (-1))) = some (r1, r2, r3, r4) := by rw [if_pos rfl] at H; exact H
    clear H
    have H := H1
    clear H1
    simp only [Option.some.injEq, Prod.mk.injEq] at H
    obtain ⟨rfl, rfl, rfl, rfl⟩ := H
    have hnb44 := NB266_256.out
    have hnc44 := NB256_266.out
    have hnb45 := NB266_257.out
    have hnc45 := NB257_266.out
    have hnb46 := NB266_258.out
    have hnc46 := NB258_266.out
    have hcz47_0 : wc.cell? ⟨gb266, 0, none⟩ = some (.slice Ao14 t259.length co14) := (qk BK266.out 0).trans rfl
    have hcz47_1 : wc.cell? ⟨gb266, 1, none⟩ = some (.slice Ao19 t262.length co19) := (qk BK266.out 1).trans rfl
    have hcz47_2 : wc.cell? ⟨gb266, 2, none⟩ = some (.int .i64 t265) := (qk BK266.out 2).trans rfl
    have hfz47_0 := qh BK266.out 0
    have hfz47_1 := qh BK266.out 1
    have hfz47_2 := qh BK266.out 2
    have hnb48 := NB258_256.out
    have hnc48 := NB256_258.out
    have hnb49 := NB258_257.out
    have hnc49 := NB257_258.out
    have hcz50_0 : wc.cell? ⟨gb258, 0, none⟩ = some (.slice none 0 0) := (qk BK258.out 0).trans rfl
    have hcz50_1 : wc.cell? ⟨gb258, 1, none⟩ = some (.slice none 0 0) := (qk BK258.out 1).trans rfl
    have hcz50_2 : wc.cell? ⟨gb258, 2, none⟩ = some (.int .i64 0) := (qk BK258.out 2).trans rfl
    have hfz50_0 := qh BK258.out 0
    have hfz50_1 := qh BK258.out 1
    have hfz50_2 := qh BK258.out 2
    go_wp2
    refine bodyPost_ret (results_ct rfl _ _ gb258 29 #[.slice Ao14 t259.length co14, .slice Ao19 t262.length co19, .int .i64 t265] (0, 0) _ rfl (by (with_reducible repeat (first | refine qa ?_ _ | refine qc ?_ | refine qb ?_ _)); refine blk_put (cs := #[.slice Ao14 t259.length co14, .slice Ao19 t262.length co19, .int .i64 0]) ?_ 2 _ rfl; (with_reducible repeat (first | refine qa ?_ _ | refine qc ?_ | refine qb ?_ _)); refine blk_put (cs := #[.slice Ao14 t259.length co14, .slice none 0 0, .int .i64 0]) ?_ 1 _ rfl; (with_reducible repeat (first | refine qa ?_ _ | refine qc ?_ | refine qb ?_ _)); refine blk_put (cs := #[.slice none 0 0, .slice none 0 0, .int .i64 0]) ?_ 0 _ rfl; (with_reducible repeat (first | refine qa ?_ _ | refine qc ?_ | refine qb ?_ _)); exact BK258.out) Try.underlying29 rfl (by kernel_rfl)) rfl ?_
    exact ⟨_, _, by first | rfl | (simp [errW_none, errW_some] <;> rfl) | (simp [*, errW_none, errW_some] <;> rfl), by (with_reducible repeat (first | apply qi | apply qj | apply ql)); exact qn (qm (p := ⟨gb258, 2, none⟩) (qm (p := ⟨gb258, 1, none⟩) (qm (p := ⟨gb258, 0, none⟩) (Kd.R_types HO_267000.out BK258.out (by decide)) (fun _ hk => hk.2) (.slice Ao14 t259.length co14)) (fun _ hk => hk.2) (.slice Ao19 t262.length co19)) (fun _ hk => hk.2) (.int .i64 t265)) (fun _ hk => hk.1), by (with_reducible repeat (first | apply qi | apply qj | apply ql)); exact qn (qm (p := ⟨gb258, 2, none⟩) (qm (p := ⟨gb258, 1, none⟩) (qm (p := ⟨gb258, 0, none⟩) (Kd.R_types HO_267001.out BK258.out (by decide)) (fun _ hk => hk.2) (.slice Ao14 t259.length co14)) (fun _ hk => hk.2) (.slice Ao19 t262.length co19)) (fun _ hk => hk.2) (.int .i64 t265)) (fun _ hk => hk.1), by repeat (first | (with_reducible first | exact HB.out | apply qg | apply qe | apply qf | refine qd ?_ GE256.out | refine qd ?_ GE257.out | refine qd ?_ GE258.out | refine qd ?_ GE266.out) | exact HB.out)⟩
   ·
    replace c43 := Bool.eq_false_iff.mpr c43
    subst c43
    have H1 : ((slices_DeleteFunc_impl_Frame_impl_Frame_impl_RaiseJoin_1.f kj4 t259 () [mx a0_2 a2] [a1]).bind fun t270 => ((slices_DeleteFunc_impl_Frame_impl_Frame_impl_RaiseJoin_1.f kj4 t262 () [mx a0_2 a2] [a1]).bind fun t273 => (some (t270, t273, mx a0_2 a2, wrap64 ((wrap64 ((wrap64 ((l0_0.length : Int) + (l0_1.length : Int))) - (t270.length : Int))) - (t273.length : Int)))))) = some (r1, r2, r3, r4) := by rw [if_neg (show ¬ (false = true) by decide)] at H; exact H
    clear H
    have H := H1
    clear H1
    obtain ⟨ji51, hji51⟩ : ∃ j_ : Int, (mx a0_2 a2) = j_ := ⟨_, rfl⟩
    replace H : ((slices_DeleteFunc_impl_Frame_impl_Frame_impl_RaiseJoin_1.f kj4 t259 () [mx a0_2 a2] [a1]).bind fun t270 => ((slices_DeleteFunc_impl_Frame_impl_Frame_impl_RaiseJoin_1.f kj4 t262 () [mx a0_2 a2] [a1]).bind fun t273 => (some (t270, t273, ji51, wrap64 ((wrap64 ((wrap64 ((l0_0.length : Int) + (l0_1.length : Int))) - (t270.length : Int))) - (t273.length : Int)))))) = some (r1, r2, r3, r4) := by first | (rw [hji51] at H; exact H) | (simp only [hji51] at H ⊢; exact H)
    have hji51_ : (if a0_2 < a2 then a2 else a0_2) = ji51 := hji51
    replace H := Option.bind_eq_some_iff.mp H
    obtain ⟨t270, A520, H⟩ := H
    replace H : ((slices_DeleteFunc_impl_Frame_impl_Frame_impl_RaiseJoin_1.f kj4 t262 () [mx a0_2 a2] [a1]).bind fun t273 => (some (t270, t273, ji51, wrap64 ((wrap64 ((wrap64 ((l0_0.length : Int) + (l0_1.length : Int))) - (t270.length : Int))) - (t273.length : Int))))) = some (r1, r2, r3, r4) := H
    have A52 := Aside0.mk A520
    clear A520
    replace H := Option.bind_eq_some_iff.mp H
    obtain ⟨t273, A530, H⟩ := H
    replace H : (some (t270, t273, ji51, wrap64 ((wrap64 ((wrap64 ((l0_0.length : Int) + (l0_1.length : Int))) - (t270.length : Int))) - (t273.length : Int)))) = some (r1, r2, r3, r4) := H
    have A53 := Aside0.mk A530
    clear A530
    simp only [Option.some.injEq, Prod.mk.injEq] at H
    obtain ⟨rfl, rfl, rfl, rfl⟩ := H
    have hnb54 := NB256_257.out
    have hnc54 := NB257_256.out
    have hnb55 := NB256_258.out
    have hnc55 := NB258_256.out
    have hnb56 := NB256_266.out
    have hnc56 := NB266_256.out
    have hcz57_0 : wc.cell? ⟨gb256, 0, none⟩ = some (.slice A0_0 l0_0.length c0_0) := (qk BK256.out 0).trans rfl
    have hcz57_1 : wc.cell? ⟨gb256, 1, none⟩ = some (.slice A0_1 l0_1.length c0_1) := (qk BK256.out 1).trans rfl
    have hcz57_2 : wc.cell? ⟨gb256, 2, none⟩ = some (.int .i64 a0_2) := (qk BK256.out 2).trans rfl
    have hfz57_0 := qh BK256.out 0
    have hfz57_1 := qh BK256.out 1
    have hfz57_2 := qh BK256.out 2
    have hnb58 := NB266_257.out
    have hnc58 := NB257_266.out
    have hnb59 := NB266_258.out
    have hnc59 := NB258_266.out
    have hcz60_0 : wc.cell? ⟨gb266, 0, none⟩ = some (.slice Ao14 t259.length co14) := (qk BK266.out 0).trans rfl
    have hcz60_1 : wc.cell? ⟨gb266, 1, none⟩ = some (.slice Ao19 t262.length co19) := (qk BK266.out 1).trans rfl
    have hcz60_2 : wc.cell? ⟨gb266, 2, none⟩ = some (.int .i64 t265) := (qk BK266.out 2).trans rfl
    have hfz60_0 := qh BK266.out 0
    have hfz60_1 := qh BK266.out 1
    have hfz60_2 := qh BK266.out 2
    try go_wp2_with (first | ((with_reducible refine gate_store (t := 3) (p := 30) rfl ?_); refine store_event (t := 3) (p := 30) (v := ?vo_w61) (w1 := (wc.setCell ⟨gb266, 2, none⟩ (.int .i64 ji51))) ?hg ?ho ?hn ?hr ?_; (case ho => rfl); (case hg => rfl); (case hn => rfl); (case hr => first | (go_simp; done) | (go_simp; rfl)); intro w61 hw; have n0_ : Aside0 (Kd.R k56 56 w61 w.heap.size (fun k_ => some k_ ≠ (.slice Ao19 t262.length co19 : Value).ownBlock) (.slice Ao14 t259.length co14) t259) := ⟨(by rw [hw]; exact (by (with_reducible repeat (first | apply qi | apply qj | apply ql)); exact qn (qm (p := ⟨gb266, 2, none⟩) (Kd.R_types HO_267000.out BK266.out (by decide)) (fun _ hk => hk.2) (.int .i64 ji51)) (fun _ hk => hk.1)))⟩; have n1_ : Aside0 (Kd.R k56 56 w61 w.heap.size (fun k_ => some k_ ≠ (.slice Ao14 t259.length co14 : Value).ownBlock) (.slice Ao19 t262.length co19) t262) := ⟨(by rw [hw]; exact (by (with_reducible repeat (first | apply qi | apply qj | apply ql)); exact qn (qm (p := ⟨gb266, 2, none⟩) (Kd.R_types HO_267001.out BK266.out (by decide)) (fun _ hk => hk.2) (.int .i64 ji51)) (fun _ hk => hk.1)))⟩; have n2_ : Aside0 (w61.heap[gb256]? = some (.cells #[.slice A0_0 l0_0.length c0_0, .slice A0_1 l0_1.length c0_1, .int .i64 a0_2] 29 (0, 0))) := ⟨(by rw [hw]; exact (by (with_reducible repeat (first | refine qa ?_ _ | refine qc ?_ | refine qb ?_ _)); refine qo ?_ NB256_266.out _; (with_reducible repeat (first | refine qa ?_ _ | refine qc ?_ | refine qb ?_ _)); exact BK256.out))⟩; have n3_ : Aside0 (w61.heap[gb257]? = some (.cells #[.int .i64 a1] 3 (0, 0))) := ⟨(by rw [hw]; exact (by (with_reducible repeat (first | refine qa ?_ _ | refine qc ?_ | refine qb ?_ _)); refine qo ?_ NB257_266.out _; (with_reducible repeat (first | refine qa ?_ _ | refine qc ?_ | refine qb ?_ _)); exact BK257.out))⟩; have n4_ : Aside0 (w61.heap[gb258]? = some (.cells #[.slice none 0 0, .slice none 0 0, .int .i64 0] 29 (0, 0))) := ⟨(by rw [hw]; exact (by (with_reducible repeat (first | refine qa ?_ _ | refine qc ?_ | refine qb ?_ _)); refine qo ?_ NB258_266.out _; (with_reducible repeat (first | refine qa ?_ _ | refine qc ?_ | refine qb ?_ _)); exact BK258.out))⟩; have n5_ : Aside0 (w61.heap[gb266]? = some (.cells #[.slice Ao14 t259.length co14, .slice Ao19 t262.length co19, .int .i64 ji51] 29 (0, 0))) := ⟨(by rw [hw]; exact (by (with_reducible repeat (first | refine qa ?_ _ | refine qc ?_ | refine qb ?_ _)); refine blk_put (cs := #[.slice Ao14 t259.length co14, .slice Ao19 t262.length co19, .int .i64 t265]) ?_ 2 _ rfl; (with_reducible repeat (first | refine qa ?_ _ | refine qc ?_ | refine qb ?_ _)); exact BK266.out))⟩; have n6_ : Aside0 (Below w.heap.size w w61) := ⟨(by rw [hw]; exact (by repeat (first | (with_reducible first | exact HB.out | apply qg | apply qe | apply qf | refine qd ?_ GE256.out | refine qd ?_ GE257.out | refine qd ?_ GE258.out | refine qd ?_ GE266.out) | exact HB.out)))⟩; clear hw; clear HO_267000; clear HO_267001; clear BK256; clear BK257; clear BK258; clear BK266; clear HB; have HO_267000 := n0_; have HO_267001 := n1_; have BK256 := n2_; have BK257 := n3_; have BK258 := n4_; have BK266 := n5_; have HB := n6_; clear n0_ n1_ n2_ n3_ n4_ n5_ n6_; have hcz62_0 : w61.cell? ⟨gb266, 0, none⟩ = some (.slice Ao14 t259.length co14) := (qk BK266.out 0).trans rfl; have hcz62_1 : w61.cell? ⟨gb266, 1, none⟩ = some (.slice Ao19 t262.length co19) := (qk BK266.out 1).trans rfl; have hcz62_2 : w61.cell? ⟨gb266, 2, none⟩ = some (.int .i64 ji51) := (qk BK266.out 2).trans rfl; have hfz62_0 := qh BK266.out 0; have hfz62_1 := qh BK266.out 1; have hfz62_2 := qh BK266.out 2) | ((with_reducible refine gate_callee (f := 74) rfl ?_); refine goesL_ (some 35) rfl rfl Try.func74 (by kernel_rfl) rfl #[.slice Ao14 t259.length co14, .func (.func 73) #[] #[.pointer (some ⟨gb266, 0, none⟩), .pointer (some ⟨gb257, 0, none⟩)]] rfl (by (try simp only [List.map_toArray, List.map_cons, List.map_nil]); first | done | rfl | (simp only [List.length_drop, List.length_take]; rfl)) ?_; (with_reducible refine (slices_DeleteFunc_impl_Frame_impl_Frame_impl_RaiseJoin_1.calls kj4 (fun k_ => some k_ = (.slice Ao14 t259.length co14 : Value).ownBlock) (.slice Ao14 t259.length co14) t259 () gb266 1 _ (some ⟨gb257, 0, none⟩) 1 _ t270 w _ ?side1 ?side2 ?side3 ?side4 ?side5 ?side6 A52.out).mono ?_); (case side1 => repeat (first | (with_reducible first | exact HB.out | apply qg | apply qe | apply qf | refine qd ?_ GE256.out | refine qd ?_ GE257.out | refine qd ?_ GE258.out | refine qd ?_ GE266.out) | exact HB.out)); (case side2 => exact Kd.R_tight rfl HO_267000.out); (case side3 => exact fun W_ hkp_ => Kd.C_blk_at (blk_kept (show _ = some (Obj.cells #[.slice Ao14 t259.length co14, .slice Ao19 t262.length co19, .int .i64 ji51] 29 (0, 0)) from by (with_reducible repeat (first | refine qa ?_ _ | refine qc ?_ | refine qb ?_ _)); exact BK266.out) hkp_ (fun hs_ => (fun e_ => (Kd.R_ne HO_267000.out BK266.out (by decide)) e_) hs_)) 2 (by first | exact rfl | (simp only [hji51]; exact rfl) | exact congrArg (fun z_ => some (Value.int .i64 z_)) hji51.symm | (rw [hji51]; exact rfl))); (case side4 => exact Nat.le_refl _); (case side5 => exact fun W_ hkp_ => Kd.C_blk (d := (Kd.int .i64)) (blk_kept (show _ = some (Obj.cells #[.int .i64 a1] 3 (0, 0)) from by (with_reducible repeat (first | refine qa ?_ _ | refine qc ?_ | refine qb ?_ _)); exact BK257.out) hkp_ (fun hs_ => (fun e_ => (Kd.R_ne HO_267000.out BK257.out (by decide)) e_) hs_)) rfl); (case side6 => exact Nat.le_refl _); rintro e w63 ⟨v271, rfl, ho0, hb, hkp⟩; refine ⟨_, rfl, ?_⟩; have n0_ := Aside0.mk (qn (ok' := fun k_ => some k_ ≠ (v271 : Value).ownBlock) (Kd.R_keptB (HO_267001.out) hkp (fun k_ hk_ hs_ => (hk_) hs_)) (fun k_ hk_ => fun e_ => Or.elim (ho0.1 k_ e_.symm) (fun hs_ => hk_.2.1 hs_) (fun hn_ => Nat.not_le.2 hk_.2.2 hn_))); have n1_ := Aside0.mk (blk_kept (by (with_reducible repeat (first | refine qa ?_ _ | refine qc ?_ | refine qb ?_ _)); exact BK256.out) hkp (fun hs_ => (fun e_ => (Kd.R_ne HO_267000.out BK256.out (by decide)) e_) hs_)); have n2_ := Aside0.mk (blk_kept (by (with_reducible repeat (first | refine qa ?_ _ | refine qc ?_ | refine qb ?_ _)); exact BK257.out) hkp (fun hs_ => (fun e_ => (Kd.R_ne HO_267000.out BK257.out (by decide)) e_) hs_)); have n3_ := Aside0.mk (blk_kept (by (with_reducible repeat (first | refine qa ?_ _ | refine qc ?_ | refine qb ?_ _)); exact BK258.out) hkp (fun hs_ => (fun e_ => (Kd.R_ne HO_267000.out BK258.out (by decide)) e_) hs_)); have n4_ := Aside0.mk (blk_kept (by (with_reducible repeat (first | refine qa ?_ _ | refine qc ?_ | refine qb ?_ _)); exact BK266.out) hkp (fun hs_ => (fun e_ => (Kd.R_ne HO_267000.out BK266.out (by decide)) e_) hs_)); have n5_ := Aside0.mk (qn (ok' := fun k_ => some k_ ≠ (.slice Ao19 t262.length co19 : Value).ownBlock) ho0 (fun k_ hk_ => Or.elim hk_ (fun hs_ => fun e_ => (((HO_267001.out).1 k_ e_.symm)) hs_) (fun hn_ => (Kd.fresh' (Kd.R_lt (by (with_reducible repeat (first | apply qi | apply qj | apply ql)); exact HO_267001.out)) k_ hn_)))); have n6_ := Aside0.mk (hb); clear HO_267001; clear BK256; clear BK257; clear BK258; clear BK266; clear HB; clear HO_267000; have HO_267001 := n0_; have BK256 := n1_; have BK257 := n2_; have BK258 := n3_; have BK266 := n4_; have HO272 := n5_; have HB := n6_; clear n0_ n1_ n2_ n3_ n4_ n5_ n6_; (try clear hb); (try clear hkp); (try clear ho0); obtain ⟨Ao64, co64, eo64⟩ := Kd.R_slice HO272.out; subst eo64; have hcz65_0 : w63.cell? ⟨gb266, 0, none⟩ = some (.slice Ao14 t259.length co14) := (qk BK266.out 0).trans rfl; have hcz65_1 : w63.cell? ⟨gb266, 1, none⟩ = some (.slice Ao19 t262.length co19) := (qk BK266.out 1).trans rfl; have hcz65_2 : w63.cell? ⟨gb266, 2, none⟩ = some (.int .i64 ji51) := (qk BK266.out 2).trans rfl; have hfz65_0 := qh BK266.out 0; have hfz65_1 := qh BK266.out 1; have hfz65_2 := qh BK266.out 2) | ((with_reducible refine gate_store (t := 27) (p := 36) rfl ?_); refine store_event (t := 27) (p := 36) (v := ?vo_w66) (w1 := (w63.setCell ⟨gb266, 0, none⟩ (.slice Ao64 t270.length co64))) ?hg ?ho ?hn ?hr ?_; (case ho => rfl); (case hg => rfl); (case hn => rfl); (case hr => first | (go_simp; done) | (go_simp; rfl)); intro w66 hw; have n0_ : Aside0 (Kd.R k56 56 w66 w.heap.size (fun k_ => some k_ ≠ (.slice Ao64 t270.length co64 : Value).ownBlock) (.slice Ao19 t262.length co19) t262) := ⟨(by rw [hw]; exact (by (with_reducible repeat (first | apply qi | apply qj | apply ql)); exact qn (qm (p := ⟨gb266, 0, none⟩) (Kd.R_types HO_267001.out BK266.out (by decide)) (fun _ hk => hk.2) (.slice Ao64 t270.length co64)) (fun _ hk => hk.1)))⟩; have n1_ : Aside0 (Kd.R k56 56 w66 w.heap.size (fun k_ => some k_ ≠ (.slice Ao19 t262.length co19 : Value).ownBlock) (.slice Ao64 t270.length co64) t270) := ⟨(by rw [hw]; exact (by (with_reducible repeat (first | apply qi | apply qj | apply ql)); exact qn (qm (p := ⟨gb266, 0, none⟩) (Kd.R_types HO272.out BK266.out (by decide)) (fun _ hk => hk.2) (.slice Ao64 t270.length co64)) (fun _ hk => hk.1)))⟩; have n2_ : Aside0 (w66.heap[gb256]? = some (.cells #[.slice A0_0 l0_0.length c0_0, .slice A0_1 l0_1.length c0_1, .int .i64 a0_2] 29 (0, 0))) := ⟨(by rw [hw]; exact (by (with_reducible repeat (first | refine qa ?_ _ | refine qc ?_ | refine qb ?_ _)); refine qo ?_ NB256_266.out _; (with_reducible repeat (first | refine qa ?_ _ | refine qc ?_ | refine qb ?_ _)); exact BK256.out))⟩; have n3_ : Aside0 (w66.heap[gb257]? = some (.cells #[.int .i64 a1] 3 (0, 0))) := ⟨(by rw [hw]; exact (by (with_reducible repeat (first | refine qa ?_ _ | refine qc ?_ | refine qb ?_ _)); refine qo ?_ NB257_266.out _; (with_reducible repeat (first | refine qa ?_ _ | refine qc ?_ | refine qb ?_ _)); exact BK257.out))⟩; have n4_ : Aside0 (w66.heap[gb258]? = some (.cells #[.slice none 0 0, .slice none 0 0, .int .i64 0] 29 (0, 0))) := ⟨(by rw [hw]; exact (by (with_reducible repeat (first | refine qa ?_ _ | refine qc ?_ | refine qb ?_ _)); refine qo ?_ NB258_266.out _; (with_reducible repeat (first | refine qa ?_ _ | refine qc ?_ | refine qb ?_ _)); exact BK258.out))⟩; have n5_ : Aside0 (w66.heap[gb266]? = some (.cells #[.slice Ao64 t270.length co64, .slice Ao19 t262.length co19, .int .i64 ji51] 29 (0, 0))) := ⟨(by rw [hw]; exact (by (with_reducible repeat (first | refine qa ?_ _ | refine qc ?_ | refine qb ?_ _)); refine blk_put (cs := #[.slice Ao14 t259.length co14, .slice Ao19 t262.length co19, .int .i64 ji51]) ?_ 0 _ rfl; (with_reducible repeat (first | refine qa ?_ _ | refine qc ?_ | refine qb ?_ _)); exact BK266.out))⟩; have n6_ : Aside0 (Below w.heap.size w w66) := ⟨(by rw [hw]; exact (by repeat (first | (with_reducible first | exact HB.out | apply qg | apply qe | apply qf | refine qd ?_ GE256.out | refine qd ?_ GE257.out | refine qd ?_ GE258.out | refine qd ?_ GE266.out) | exact HB.out)))⟩; clear hw; clear HO_267001; clear HO272; clear BK256; clear BK257; clear BK258; clear BK266; clear HB; have HO_267001 := n0_; have HO272 := n1_; have BK256 := n2_; have BK257 := n3_; have BK258 := n4_; have BK266 := n5_; have HB := n6_; clear n0_ n1_ n2_ n3_ n4_ n5_ n6_; have hcz67_0 : w66.cell? ⟨gb266, 0, none⟩ = some (.slice Ao64 t270.length co64) := (qk BK266.out 0).trans rfl; have hcz67_1 : w66.cell? ⟨gb266, 1, none⟩ = some (.slice Ao19 t262.length co19) := (qk BK266.out 1).trans rfl; have hcz67_2 : w66.cell? ⟨gb266, 2, none⟩ = some (.int .i64 ji51) := (qk BK266.out 2).trans rfl; have hfz67_0 := qh BK266.out 0; have hfz67_1 := qh BK266.out 1; have hfz67_2 := qh BK266.out 2) | ((with_reducible refine gate_callee (f := 74) rfl ?_); refine goesL_ (some 40) rfl rfl Try.func74 (by kernel_rfl) rfl #[.slice Ao19 t262.length co19, .func (.func 73) #[] #[.pointer (some ⟨gb266, 0, none⟩), .pointer (some ⟨gb257, 0, none⟩)]] rfl (by (try simp only [List.map_toArray, List.map_cons, List.map_nil]); first | done | rfl | (simp only [List.length_drop, List.length_take]; rfl)) ?_; (with_reducible refine (slices_DeleteFunc_impl_Frame_impl_Frame_impl_RaiseJoin_1.calls kj4 (fun k_ => some k_ = (.slice Ao19 t262.length co19 : Value).ownBlock) (.slice Ao19 t262.length co19) t262 () gb266 1 _ (some ⟨gb257, 0, none⟩) 1 _ t273 w _ ?side1 ?side2 ?side3 ?side4 ?side5 ?side6 A53.out).mono ?_); (case side1 => repeat (first | (with_reducible first | exact HB.out | apply qg | apply qe | apply qf | refine qd ?_ GE256.out | refine qd ?_ GE257.out | refine qd ?_ GE258.out | refine qd ?_ GE266.out) | exact HB.out)); (case side2 => exact Kd.R_tight rfl HO_267001.out); (case side3 => exact fun W_ hkp_ => Kd.C_blk_at (blk_kept (show _ = some (Obj.cells #[.slice Ao64 t270.length co64, .slice Ao19 t262.length co19, .int .i64 ji51] 29 (0, 0)) from by (with_reducible repeat (first | refine qa ?_ _ | refine qc ?_ | refine qb ?_ _)); exact BK266.out) hkp_ (fun hs_ => (fun e_ => (Kd.R_ne HO_267001.out BK266.out (by decide)) e_) hs_)) 2 (by first | exact rfl | (simp only [hji51]; exact rfl) | exact congrArg (fun z_ => some (Value.int .i64 z_)) hji51.symm | (rw [hji51]; exact rfl))); (case side4 => exact Nat.le_refl _); (case side5 => exact fun W_ hkp_ => Kd.C_blk (d := (Kd.int .i64)) (blk_kept (show _ = some (Obj.cells #[.int .i64 a1] 3 (0, 0)) from by (with_reducible repeat (first | refine qa ?_ _ | refine qc ?_ | refine qb ?_ _)); exact BK257.out) hkp_ (fun hs_ => (fun e_ => (Kd.R_ne HO_267001.out BK257.out (by decide)) e_) hs_)) rfl); (case side6 => exact Nat.le_refl _); rintro e w68 ⟨v274, rfl, ho0, hb, hkp⟩; refine ⟨_, rfl, ?_⟩; have n0_ := Aside0.mk (blk_kept (by (with_reducible repeat (first | refine qa ?_ _ | refine qc ?_ | refine qb ?_ _)); exact BK256.out) hkp (fun hs_ => (fun e_ => (Kd.R_ne HO_267001.out BK256.out (by decide)) e_) hs_)); have n1_ := Aside0.mk (blk_kept (by (with_reducible repeat (first | refine qa ?_ _ | refine qc ?_ | refine qb ?_ _)); exact BK257.out) hkp (fun hs_ => (fun e_ => (Kd.R_ne HO_267001.out BK257.out (by decide)) e_) hs_)); have n2_ := Aside0.mk (blk_kept (by (with_reducible repeat (first | refine qa ?_ _ | refine qc ?_ | refine qb ?_ _)); exact BK258.out) hkp (fun hs_ => (fun e_ => (Kd.R_ne HO_267001.out BK258.out (by decide)) e_) hs_)); have n3_ := Aside0.mk (blk_kept (by (with_reducible repeat (first | refine qa ?_ _ | refine qc ?_ | refine qb ?_ _)); exact BK266.out) hkp (fun hs_ => (fun e_ => (Kd.R_ne HO_267001.out BK266.out (by decide)) e_) hs_)); have n4_ := Aside0.mk (qn (ok' := fun k_ => some k_ ≠ (v274 : Value).ownBlock) (Kd.R_keptB (HO272.out) hkp (fun k_ hk_ hs_ => (hk_) hs_)) (fun k_ hk_ => fun e_ => Or.elim (ho0.1 k_ e_.symm) (fun hs_ => hk_.2.1 hs_) (fun hn_ => Nat.not_le.2 hk_.2.2 hn_))); have n5_ := Aside0.mk (qn (ok' := fun k_ => some k_ ≠ (.slice Ao64 t270.length co64 : Value).ownBlock) ho0 (fun k_ hk_ => Or.elim hk_ (fun hs_ => fun e_ => (((HO272.out).1 k_ e_.symm)) hs_) (fun hn_ => (Kd.fresh' (Kd.R_lt (by (with_reducible repeat (first | apply qi | apply qj | apply ql)); exact HO272.out)) k_ hn_)))); have n6_ := Aside0.mk (hb); clear BK256; clear BK257; clear BK258; clear BK266; clear HO272; clear HB; clear HO_267001; have BK256 := n0_; have BK257 := n1_; have BK258 := n2_; have BK266 := n3_; have HO272 := n4_; have HO275 := n5_; have HB := n6_; clear n0_ n1_ n2_ n3_ n4_ n5_ n6_; (try clear hb); (try clear hkp); (try clear ho0); obtain ⟨Ao69, co69, eo69⟩ := Kd.R_slice HO275.out; subst eo69; have hcz70_0 : w68.cell? ⟨gb266, 0, none⟩ = some (.slice Ao64 t270.length co64) := (qk BK266.out 0).trans rfl; have hcz70_1 : w68.cell? ⟨gb266, 1, none⟩ = some (.slice Ao19 t262.length co19) := (qk BK266.out 1).trans rfl; have hcz70_2 : w68.cell? ⟨gb266, 2, none⟩ = some (.int .i64 ji51) := (qk BK266.out 2).trans rfl; have hfz70_0 := qh BK266.out 0; have hfz70_1 := qh BK266.out 1; have hfz70_2 := qh BK266.out 2))
    have n0_ : Aside0 (Kd.R k56 56 (w68.setCell ⟨gb266, 1, none⟩ (.slice Ao69 t273.length co69)) w.heap.size (fun k_ => some k_ ≠ (.slice Ao69 t273.length co69 : Value).ownBlock) (.slice Ao64 t270.length co64) t270) := ⟨by (with_reducible repeat (first | apply qi | apply qj | apply ql)); exact qn (qm (p := ⟨gb266, 1, none⟩) (Kd.R_types HO272.out BK266.out (by decide)) (fun _ hk => hk.2) (.slice Ao69 t273.length co69)) (fun _ hk => hk.1)⟩
    have n1_ : Aside0 (Kd.R k56 56 (w68.setCell ⟨gb266, 1, none⟩ (.slice Ao69 t273.length co69)) w.heap.size (fun k_ => some k_ ≠ (.slice Ao64 t270.length co64 : Value).ownBlock) (.slice Ao69 t273.length co69) t273) := ⟨by (with_reducible repeat (first | apply qi | apply qj | apply ql)); exact qn (qm (p := ⟨gb266, 1, none⟩) (Kd.R_types HO275.out BK266.out (by decide)) (fun _ hk => hk.2) (.slice Ao69 t273.length co69)) (fun _ hk => hk.1)⟩
    have n2_ : Aside0 ((w68.setCell ⟨gb266, 1, none⟩ (.slice Ao69 t273.length co69)).heap[gb256]? = some (.cells #[.slice A0_0 l0_0.length c0_0, .slice A0_1 l0_1.length c0_1, .int .i64 a0_2] 29 (0, 0))) := ⟨by (with_reducible repeat (first | refine qa ?_ _ | refine qc ?_ | refine qb ?_ _)); refine qo ?_ NB256_266.out _; (with_reducible repeat (first | refine qa ?_ _ | refine qc ?_ | refine qb ?_ _)); exact BK256.out⟩
    have n3_ : Aside0 ((w68.setCell ⟨gb266, 1, none⟩ (.slice Ao69 t273.length co69)).heap[gb257]? = some (.cells #[.int .i64 a1] 3 (0, 0))) := ⟨by (with_reducible repeat (first | refine qa ?_ _ | refine qc ?_ | refine qb ?_ _)); refine qo ?_ NB257_266.out _; (with_reducible repeat (first | refine qa ?_ _ | refine qc ?_ | refine qb ?_ _)); exact BK257.out⟩
    have n4_ : Aside0 ((w68.setCell ⟨gb266, 1, none⟩ (.slice Ao69 t273.length co69)).heap[gb258]? = some (.cells #[.slice none 0 0, .slice none 0 0, .int .i64 0] 29 (0, 0))) := ⟨by (with_reducible repeat (first | refine qa ?_ _ | refine qc ?_ | refine qb ?_ _)); refine qo ?_ NB258_266.out _; (with_reducible repeat (first | refine qa ?_ _ | refine qc ?_ | refine qb ?_ _)); exact BK258.out⟩
    have n5_ : Aside0 ((w68.setCell ⟨gb266, 1, none⟩ (.slice Ao69 t273.length co69)).heap[gb266]? = some (.cells #[.slice Ao64 t270.length co64, .slice Ao69 t273.length co69, .int .i64 ji51] 29 (0, 0))) := ⟨by (with_reducible repeat (first | refine qa ?_ _ | refine qc ?_ | refine qb ?_ _)); refine blk_put (cs := #[.slice Ao64 t270.length co64, .slice Ao19 t262.length co19, .int .i64 ji51]) ?_ 1 _ rfl; (with_reducible repeat (first | refine qa ?_ _ | refine qc ?_ | refine qb ?_ _)); exact BK266.out⟩
    have n6_ : Aside0 (Below w.heap.size w (w68.setCell ⟨gb266, 1, none⟩ (.slice Ao69 t273.length co69))) := ⟨by repeat (first | (with_reducible first | exact HB.out | apply qg | apply qe | apply qf | refine qd ?_ GE256.out | refine qd ?_ GE257.out | refine qd ?_ GE258.out | refine qd ?_ GE266.out) | exact HB.out)⟩
    (try clear HO272)
    (try clear HO275)
    (try clear BK256)
    (try clear BK257)
    (try clear BK258)
    (try clear BK266)
    (try clear HB)
    generalize (w68.setCell ⟨gb266, 1, none⟩ (.slice Ao69 t273.length co69)) = w71 at n0_ n1_ n2_ n3_ n4_ n5_ n6_ ⊢
    have HO272 := n0_
    have HO275 := n1_
    have BK256 := n2_
    have BK257 := n3_
    have BK258 := n4_
    have BK266 := n5_
    have HB := n6_
    clear n0_ n1_ n2_ n3_ n4_ n5_ n6_
    have n0_ := Aside0.mk (ql HO272.out)
    have n1_ := Aside0.mk (ql HO275.out)
    have n2_ := Aside0.mk (qc BK256.out)
    have n3_ := Aside0.mk (qc BK257.out)
    have n4_ := Aside0.mk (qc BK258.out)
    have n5_ := Aside0.mk (qc BK266.out)
    have n6_ := Aside0.mk (qf HB.out)
    clear HO272
    clear HO275
    clear BK256
    clear BK257
    clear BK258
    clear BK266
    clear HB
    have HO272 := n0_
    have HO275 := n1_
    have BK256 := n2_
    have BK257 := n3_
    have BK258 := n4_
    have BK266 := n5_
    have HB := n6_
    clear n0_ n1_ n2_ n3_ n4_ n5_ n6_
    refine start_ (n := 18) (S := fun w' => w'.cell? ⟨gb266, 0, none⟩ = some (.slice Ao64 t270.length co64) ∧ w'.cell? ⟨gb266, 1, none⟩ = some (.slice Ao69 t273.length co69) ∧ w'.cell? ⟨gb266, 2, none⟩ = some (.int .i64 ji51) ∧ w'.cell? ⟨gb256, 0, none⟩ = some (.slice A0_0 l0_0.length c0_0) ∧ w'.cell? ⟨gb256, 1, none⟩ = some (.slice A0_1 l0_1.length c0_1) ∧ w'.cell? ⟨gb256, 2, none⟩ = some (.int .i64 a0_2)) (ds := []) #[false, false, false, false, false, false, false, false, false, false, false, false, false, false, false, false, false, false] (by kernel_rfl) rfl rfl ⟨(qk BK266.out 0).trans rfl, (qk BK266.out 1).trans rfl, (qk BK266.out 2).trans rfl, (qk BK256.out 0).trans rfl, (qk BK256.out 1).trans rfl, (qk BK256.out 2).trans rfl⟩ (fun hHeld => ?_); refine with_tabW impl_RaiseJoin.tab8 impl_RaiseJoin.bits8 (fun HT_ HW_ => ?_)
    generalize w71.drew = w72 at HO272 HO275 BK256 BK257 BK258 BK266 HB hHeld ⊢
    refine pure_ (i := 1) (N := some 43) (v := ?_) (a' := ?_) #[false, true, false, false, false, false, false, false, false, false, false, false, false, false, false, false, false, false] rfl rfl (any_of HT_.out (by kernel_rfl)) (fun _ _ _ h => h) (Or.inl ⟨by rfl, ?_⟩) ?_ ?_
    rotate_left
    ·
     intro w'
     go_simp
     with_reducible rfl
    rotate_left
    ·
     simp only [Act.put, List.setIfInBounds_toArray, List.set_cons_zero, List.set_cons_succ, i64_w, i32_w]
     rfl
    refine pure_ (i := 4) (N := some 46) (v := ?_) (a' := ?_) #[false, true, false, false, true, false, false, false, false, false, false, false, false, false, false, false, false, false] rfl rfl (any_of HT_.out (by kernel_rfl)) (fun _ _ _ h => h) (Or.inl ⟨by rfl, ?_⟩) ?_ ?_
    rotate_left
    ·
     intro w'
     go_simp
     with_reducible rfl
    rotate_left
    ·
     simp only [Act.put, List.setIfInBounds_toArray, List.set_cons_zero, List.set_cons_succ, i64_w, i32_w]
     rfl
    refine pure_ (i := 8) (N := some 50) (v := ?_) (a' := ?_) #[false, true, false, false, true, false, false, false, true, false, false, false, false, false, false, false, false, false] rfl rfl (any_of HT_.out (by kernel_rfl)) (fun _ _ _ h => h) (Or.inl ⟨by rfl, ?_⟩) ?_ ?_
    rotate_left
    ·
     intro w'
     go_simp
     with_reducible rfl
    rotate_left
    ·
     simp only [Act.put, List.setIfInBounds_toArray, List.set_cons_zero, List.set_cons_succ, i64_w, i32_w]
     rfl
    refine pure_ (i := 12) (N := some 54) (v := ?_) (a' := ?_) #[false, true, false, false, true, false, false, false, true, false, false, false, true, false, false, false, false, false] rfl rfl (any_of HT_.out (by kernel_rfl)) (fun _ _ _ h => h) (Or.inl ⟨by rfl, ?_⟩) ?_ ?_
    rotate_left
    ·
     intro w'
     go_simp
     with_reducible rfl
    rotate_left
    ·
     simp only [Act.put, List.setIfInBounds_toArray, List.set_cons_zero, List.set_cons_succ, i64_w, i32_w]
     rfl
    refine take_ (i := 0) (N := some 42) (v := ?_) (a' := ?_) #[true, true, false, false, true, false, false, false, true, false, false, false, true, false, false, false, false, false] rfl rfl (take_ofW HT_.out HW_.out (by kernel_rfl)) (fun _ _ _ h => h) (Or.inl ⟨by rfl, ?_⟩) hHeld ?_ ?_
    rotate_left
    ·
     rintro w' ⟨s0, s1, s2, s3, s4, s5⟩
     go_simp
     with_reducible rfl
    rotate_left
    ·
     simp only [Act.put, List.setIfInBounds_toArray, List.set_cons_zero, List.set_cons_succ, i64_w, i32_w]
     rfl
    refine take_ (i := 2) (N := some 44) (v := ?_) (a' := ?_) #[true, true, true, false, true, false, false, false, true, false, false, false, true, false, false, false, false, false] rfl rfl (take_ofW HT_.out HW_.out (by kernel_rfl)) (fun _ _ _ h => h) (Or.inl ⟨by rfl, ?_⟩) hHeld ?_ ?_
    rotate_left
    ·
     rintro w' ⟨s0, s1, s2, s3, s4, s5⟩
     go_simp
     with_reducible rfl
    rotate_left
    ·
     simp only [Act.put, List.setIfInBounds_toArray, List.set_cons_zero, List.set_cons_succ, i64_w, i32_w]
     rfl
    refine pure_ (i := 3) (N := some 45) (v := ?_) (a' := ?_) #[true, true, true, true, true, false, false, false, true, false, false, false, true, false, false, false, false, false] rfl rfl (any_of HT_.out (by kernel_rfl)) (fun _ _ _ h => h) (Or.inl ⟨by rfl, ?_⟩) ?_ ?_
    rotate_left
    ·
     intro w'
     go_simp
     with_reducible rfl
    rotate_left
    ·
     simp only [Act.put, List.setIfInBounds_toArray, List.set_cons_zero, List.set_cons_succ, i64_w, i32_w]
     rfl
    refine take_ (i := 5) (N := some 47) (v := ?_) (a' := ?_) #[true, true, true, true, true, true, false, false, true, false, false, false, true, false, false, false, false, false] rfl rfl (take_ofW HT_.out HW_.out (by kernel_rfl)) (fun _ _ _ h => h) (Or.inl ⟨by rfl, ?_⟩) hHeld ?_ ?_
    rotate_left
    ·
     rintro w' ⟨s0, s1, s2, s3, s4, s5⟩
     go_simp
     with_reducible rfl
    rotate_left
    ·
     simp only [Act.put, List.setIfInBounds_toArray, List.set_cons_zero, List.set_cons_succ, i64_w, i32_w]
     rfl
    refine pure_ (i := 6) (N := some 48) (v := ?_) (a' := ?_) #[true, true, true, true, true, true, true, false, true, false, false, false, true, false, false, false, false, false] rfl rfl (any_of HT_.out (by kernel_rfl)) (fun _ _ _ h => h) (Or.inl ⟨by rfl, ?_⟩) ?_ ?_
    rotate_left
    ·
     intro w'
     go_simp
     with_reducible rfl
    rotate_left
    ·
     simp only [Act.put, List.setIfInBounds_toArray, List.set_cons_zero, List.set_cons_succ, i64_w, i32_w]
     rfl
    refine pure_ (i := 7) (N := some 49) (v := ?_) (a' := ?_) #[true, true, true, true, true, true, true, true, true, false, false, false, true, false, false, false, false, false] rfl rfl (any_of HT_.out (by kernel_rfl)) (fun _ _ _ h => h) (Or.inl ⟨by rfl, ?_⟩) ?_ ?_
    rotate_left
    ·
     intro w'
     go_simp
     with_reducible rfl
    rotate_left
    ·
     simp only [Act.put, List.setIfInBounds_toArray, List.set_cons_zero, List.set_cons_succ, i64_w, i32_w]
     rfl
    refine take_ (i := 9) (N := some 51) (v := ?_) (a' := ?_) #[true, true, true, true, true, true, true, true, true, true, false, false, true, false, false, false, false, false] rfl rfl (take_ofW HT_.out HW_.out (by kernel_rfl)) (fun _ _ _ h => h) (Or.inl ⟨by rfl, ?_⟩) hHeld ?_ ?_
    rotate_left
    ·
     rintro w' ⟨s0, s1, s2, s3, s4, s5⟩
     go_simp
     with_reducible rfl
    rotate_left
    ·
     simp only [Act.put, List.setIfInBounds_toArray, List.set_cons_zero, List.set_cons_succ, i64_w, i32_w]
     rfl
    refine pure_ (i := 10) (N := some 52) (v := ?_) (a' := ?_) #[true, true, true, true, true, true, true, true, true, true, true, false, true, false, false, false, false, false] rfl rfl (any_of HT_.out (by kernel_rfl)) (fun _ _ _ h => h) (Or.inl ⟨by rfl, ?_⟩) ?_ ?_
    rotate_left
    ·
     intro w'
     go_simp
     with_reducible rfl
    rotate_left
    ·
     simp only [Act.put, List.setIfInBounds_toArray, List.set_cons_zero, List.set_cons_succ, i64_w, i32_w]
     rfl
    refine pure_ (i := 11) (N := some 53) (v := ?_) (a' := ?_) #[true, true, true, true, true, true, true, true, true, true, true, true, true, false, false, false, false, false] rfl rfl (any_of HT_.out (by kernel_rfl)) (fun _ _ _ h => h) (Or.inl ⟨by rfl, ?_⟩) ?_ ?_
    rotate_left
    ·
     intro w'
     go_simp
     with_reducible rfl
    rotate_left
    ·
     simp only [Act.put, List.setIfInBounds_toArray, List.set_cons_zero, List.set_cons_succ, i64_w, i32_w]
     rfl
    refine take_ (i := 13) (N := some 55) (v := ?_) (a' := ?_) #[true, true, true, true, true, true, true, true, true, true, true, true, true, true, false, false, false, false] rfl rfl (take_ofW HT_.out HW_.out (by kernel_rfl)) (fun _ _ _ h => h) (Or.inl ⟨by rfl, ?_⟩) hHeld ?_ ?_
    rotate_left
    ·
     rintro w' ⟨s0, s1, s2, s3, s4, s5⟩
     go_simp
     with_reducible rfl
    rotate_left
    ·
     simp only [Act.put, List.setIfInBounds_toArray, List.set_cons_zero, List.set_cons_succ, i64_w, i32_w]
     rfl
    refine pure_ (i := 14) (N := some 56) (v := ?_) (a' := ?_) #[true, true, true, true, true, true, true, true, true, true, true, true, true, true, true, false, false, false] rfl rfl (any_of HT_.out (by kernel_rfl)) (fun _ _ _ h => h) (Or.inl ⟨by rfl, ?_⟩) ?_ ?_
    rotate_left
    ·
     intro w'
     go_simp
     with_reducible rfl
    rotate_left
    ·
     simp only [Act.put, List.setIfInBounds_toArray, List.set_cons_zero, List.set_cons_succ, i64_w, i32_w]
     rfl
    refine pure_ (i := 15) (N := some 57) (v := ?_) (a' := ?_) #[true, true, true, true, true, true, true, true, true, true, true, true, true, true, true, true, false, false] rfl rfl (any_of HT_.out (by kernel_rfl)) (fun _ _ _ h => h) (Or.inl ⟨by rfl, ?_⟩) ?_ ?_
    rotate_left
    ·
     intro w'
     go_simp
     with_reducible rfl
    rotate_left
    ·
     simp only [Act.put, List.setIfInBounds_toArray, List.set_cons_zero, List.set_cons_succ, i64_w, i32_w]
     rfl
    refine one_ (i := 16) (N := none) #[true, true, true, true, true, true, true, true, true, true, true, true, true, true, true, true, true, false] rfl rfl (one_of HT_.out (by kernel_rfl)) (by decide) (fun K hK => ?_)
    have hs73 : w72.cell? ⟨gb258, 0, none⟩ = some (.slice none 0 0) := (qk BK258.out 0).trans rfl
    have hfs73 := qh BK258.out 0
    have hns73_0 := NB256_258.out
    have hns73_1 := NB257_258.out
    have hns73_3 := NB266_258.out
    have hms73_0 := NB258_256.out
    have hms73_1 := NB258_257.out
    have hms73_3 := NB258_266.out
    have hs74 : w72.cell? ⟨gb258, 1, none⟩ = some (.slice none 0 0) := (qk BK258.out 1).trans rfl
    have hfs74 := qh BK258.out 1
    have hns74_0 := NB256_258.out
    have hns74_1 := NB257_258.out
    have hns74_3 := NB266_258.out
    have hms74_0 := NB258_256.out
    have hms74_1 := NB258_257.out
    have hms74_3 := NB258_266.out
    have hs75 : w72.cell? ⟨gb258, 2, none⟩ = some (.int .i64 0) := (qk BK258.out 2).trans rfl
    have hfs75 := qh BK258.out 2
    have hns75_0 := NB256_258.out
    have hns75_1 := NB257_258.out
    have hns75_3 := NB266_258.out
    have hms75_0 := NB258_256.out
    have hms75_1 := NB258_257.out
    have hms75_3 := NB258_266.out
    refine skip_ (w1 := ?_) (by rfl) rfl ?_ ?_
    rotate_left
    ·
     go_simp
     rfl
    refine hK.out _ _ ⟨((cell_far (p := ⟨gb258, _, none⟩) NB266_258.out _).trans (((cell_far (p := ⟨gb258, _, none⟩) NB266_258.out _).trans (((cell_far (p := ⟨gb258, _, none⟩) NB266_258.out _).trans (hHeld.1)))))), ((cell_far (p := ⟨gb258, _, none⟩) NB266_258.out _).trans (((cell_far (p := ⟨gb258, _, none⟩) NB266_258.out _).trans (((cell_far (p := ⟨gb258, _, none⟩) NB266_258.out _).trans (hHeld.2.1)))))), ((cell_far (p := ⟨gb258, _, none⟩) NB266_258.out _).trans (((cell_far (p := ⟨gb258, _, none⟩) NB266_258.out _).trans (((cell_far (p := ⟨gb258, _, none⟩) NB266_258.out _).trans (hHeld.2.2.1)))))), ((cell_far (p := ⟨gb258, _, none⟩) NB256_258.out _).trans (((cell_far (p := ⟨gb258, _, none⟩) NB256_258.out _).trans (((cell_far (p := ⟨gb258, _, none⟩) NB256_258.out _).trans (hHeld.2.2.2.1)))))), ((cell_far (p := ⟨gb258, _, none⟩) NB256_258.out _).trans (((cell_far (p := ⟨gb258, _, none⟩) NB256_258.out _).trans (((cell_far (p := ⟨gb258, _, none⟩) NB256_258.out _).trans (hHeld.2.2.2.2.1)))))), ((cell_far (p := ⟨gb258, _, none⟩) NB256_258.out _).trans (((cell_far (p := ⟨gb258, _, none⟩) NB256_258.out _).trans (((cell_far (p := ⟨gb258, _, none⟩) NB256_258.out _).trans (hHeld.2.2.2.2.2))))))⟩ (fun hHeld => ?_)
    clear hK K
    refine pure_ (i := 17) (N := some 7) (v := ?_) (a' := ?_) #[true, true, true, true, true, true, true, true, true, true, true, true, true, true, true, true, true, true] rfl rfl (any_of HT_.out (by kernel_rfl)) (fun _ _ _ h => h) (Or.inl ⟨by rfl, ?_⟩) ?_ ?_
    rotate_left
    ·
     intro w'
     go_simp
     with_reducible rfl
    rotate_left
    ·
     simp only [Act.put, List.setIfInBounds_toArray, List.set_cons_zero, List.set_cons_succ, i64_w, i32_w]
     rfl
    refine done_ (done_of HT_.out (by kernel_rfl)) ?_
    try go_wp2
    refine bodyPost_ret (results_ct rfl _ _ gb258 29 #[.slice Ao64 t270.length co64, .slice Ao69 t273.length co69, .int .i64 ji51] (0, 0) _ rfl (by (with_reducible repeat (first | refine qa ?_ _ | refine qc ?_ | refine qb ?_ _)); refine blk_put (cs := #[.slice Ao64 t270.length co64, .slice Ao69 t273.length co69, .int .i64 0]) ?_ 2 _ rfl; (with_reducible repeat (first | refine qa ?_ _ | refine qc ?_ | refine qb ?_ _)); refine blk_put (cs := #[.slice Ao64 t270.length co64, .slice none 0 0, .int .i64 0]) ?_ 1 _ rfl; (with_reducible repeat (first | refine qa ?_ _ | refine qc ?_ | refine qb ?_ _)); refine blk_put (cs := #[.slice none 0 0, .slice none 0 0, .int .i64 0]) ?_ 0 _ rfl; (with_reducible repeat (first | refine qa ?_ _ | refine qc ?_ | refine qb ?_ _)); exact BK258.out) Try.underlying29 rfl (by kernel_rfl)) rfl ?_
    exact ⟨_, _, by first | rfl | (simp [errW_none, errW_some] <;> rfl) | (simp only [← hji51]; first | rfl | (simp [errW_none, errW_some] <;> rfl)) | (simp [*, errW_none, errW_some] <;> rfl), by (with_reducible repeat (first | apply qi | apply qj | apply ql)); exact qn (qm (p := ⟨gb258, 2, none⟩) (qm (p := ⟨gb258, 1, none⟩) (qm (p := ⟨gb258, 0, none⟩) (Kd.R_types HO272.out BK258.out (by decide)) (fun _ hk => hk.2) (.slice Ao64 t270.length co64)) (fun _ hk => hk.2) (.slice Ao69 t273.length co69)) (fun _ hk => hk.2) (.int .i64 ji51)) (fun _ hk => hk.1), by (with_reducible repeat (first | apply qi | apply qj | apply ql)); exact qn (qm (p := ⟨gb258, 2, none⟩) (qm (p := ⟨gb258, 1, none⟩) (qm (p := ⟨gb258, 0, none⟩) (Kd.R_types HO275.out BK258.out (by decide)) (fun _ hk => hk.2) (.slice Ao64 t270.length co64)) (fun _ hk => hk.2) (.slice Ao69 t273.length co69)) (fun _ hk => hk.2) (.int .i64 ji51)) (fun _ hk => hk.1), by repeat (first | (with_reducible first | exact HB.out | apply qg | apply qe | apply qf | refine qd ?_ GE256.out | refine qd ?_ GE257.out | refine qd ?_ GE258.out | refine qd ?_ GE266.out) | exact HB.out)⟩

/-! ### laws_markFrameS: function 26 -/
def laws_markFrameS.l0 : Nat → List (S56) → Int → Int → Option (Int × (List (S56)))
 | 0, _, _, _ => none
 | k + 1, x0, x1, x5 => if x5 < (x0.length : Int) then (if 0 ≤ x5 then ((some (x0.set (x5 : Int).toNat (⟨x1, (rd_T56 x0 x5).f1, (rd_T56 x0 x5).f2, (rd_T56 x0 x5).f3⟩ : S56) : List (S56))).bind fun y276 => ((some (y276.set (x5 : Int).toNat (⟨(rd_T56 y276 x5).f0, wrap64 (x1 + 1), (rd_T56 y276 x5).f2, (rd_T56 y276 x5).f3⟩ : S56) : List (S56))).bind fun y277 => ((some (y277.set (x5 : Int).toNat (⟨(rd_T56 y277 x5).f0, (rd_T56 y277 x5).f1, wrap64 ((wrap64 (x1 + 1)) + 1), (rd_T56 y277 x5).f3⟩ : S56) : List (S56))).bind fun y278 => (laws_markFrameS.l0 k (y278.set (x5 : Int).toNat (⟨(rd_T56 y278 x5).f0, (rd_T56 y278 x5).f1, (rd_T56 y278 x5).f2, wrap64 ((wrap64 ((wrap64 (x1 + 1)) + 1)) + 1)⟩ : S56)) (wrap64 ((wrap64 ((wrap64 ((wrap64 (x1 + 1)) + 1)) + 1)) + 1)) (wrap64 (x5 + 1)))))) else (none)) else (some (x1, x0))
def laws_markFrameS.f (k : Nat) (l0 : List (S56)) (a1 : Int) : Option (Int × (List (S56))) := laws_markFrameS.l0 k l0 a1 0
theorem laws_markFrameS.mono_l : ∀ k, (∀ y0 y1 y2, LeO (laws_markFrameS.l0 k y0 y1 y2) (laws_markFrameS.l0 (k + 1) y0 y1 y2))
 | 0 => fun _ _ _ r h => by simp [laws_markFrameS.l0] at h
 | k + 1 => by
  have ih0 := laws_markFrameS.mono_l k
  ·
   intro y0 y1 y2
   unfold laws_markFrameS.l0
   repeat' first
   | (with_reducible exact ih0 _ _ _)
   | (with_reducible exact LeO.refl _)
   | (with_reducible exact LeO.none _)
   | (with_reducible refine LeO.ite ?_ ?_)
   | (with_reducible refine LeO.bind ?_ (fun _ => ?_))
   | exact ih0 _ _ _
   | exact LeO.none _
   | refine LeO.ite ?_ ?_
   | refine LeO.bind ?_ (fun _ => ?_)
theorem laws_markFrameS.mono : ∀ a0 a1 k, LeO (laws_markFrameS.f k a0 a1) (laws_markFrameS.f (k + 1) a0 a1) := by
 intro a0 a1 k
 have ih0 := laws_markFrameS.mono_l k
 unfold laws_markFrameS.f
 repeat' first
   | (with_reducible exact ih0 _ _ _)
   | (with_reducible exact LeO.refl _)
   | (with_reducible exact LeO.none _)
   | (with_reducible refine LeO.ite ?_ ?_)
   | (with_reducible refine LeO.bind ?_ (fun _ => ?_))
   | exact ih0 _ _ _
   | exact LeO.none _
   | refine LeO.ite ?_ ?_
   | refine LeO.bind ?_ (fun _ => ?_)
set_option maxHeartbeats 8000000 in
set_option maxRecDepth 100000 in
theorem laws_markFrameS.calls (k : Nat) (P0_ : Nat → Prop) (u9000_ : Value) (l0 : List (S56)) (a1 : Int) (r1 : Int) (r2 : List (S56)) (w0 w : World) (hB : Below w0.heap.size w0 w) (ho0 : Kd.R k56 56 w w0.heap.size P0_ u9000_ l0) (h : laws_markFrameS.f k l0 a1 = some (r1, r2)) :
  Calls Try.prog 26 #[u9000_, .int .i64 a1] w fun e w' => e = .returned (.int .i64 r1) ∧ Kd.R k56 56 w' w0.heap.size (fun k_ => (P0_ k_ ∨ w.heap.size ≤ k_)) u9000_ r2 ∧ Below w0.heap.size w0 w' ∧ Kept w w' (fun k_ => P0_ k_) := by
 have HO0 := Aside0.mk (show Kd.R k56 56 w w0.heap.size (fun k_ => (P0_ k_ ∨ w.heap.size ≤ k_)) u9000_ l0 from qn ho0 (fun k_ hk => (.inl hk)))
 have HK := Aside0.mk (Kept.refl w (fun k_ => P0_ k_))
 have HW0 := Aside0.mk hB.size
 have HB := Aside0.mk hB
 clear hB
 have H : (laws_markFrameS.l0 k l0 a1 0) = some (r1, r2) := h
 clear h
 have H' := Aside0.mk H
 clear H
 go_enter Try.func26, Try.ntmps26
 go_wp2
 go_loopg [1, 5] k (fun kq v1 v5 w' => ∃ (x0_1 : List (S56)) (x1_1 : Int) (x5_1 : Int), v1 = .int .i64 x1_1 ∧ v5 = .int .i64 x5_1 ∧ Aside0 (laws_markFrameS.l0 kq x0_1 x1_1 x5_1 = some (r1, r2)) ∧ Aside0 (kq ≤ k) ∧ Aside0 (Kd.R k56 56 w' w0.heap.size (fun k_ => (P0_ k_ ∨ w.heap.size ≤ k_)) u9000_ x0_1) ∧ Aside0 (Kept w w' (fun k_ => P0_ k_)) ∧ Aside0 (Below w0.heap.size w0 w'))
 case atStart => exact ⟨(l0), (a1), (0), (by first | rfl | (simp; done) | (simp [*]; done)), (by first | rfl | (simp; done) | (simp [*]; done)), H', ⟨Nat.le_refl _⟩, ⟨by (with_reducible repeat (first | apply qi | apply qj | apply ql)); exact HO0.out⟩, ⟨by repeat (first | (with_reducible first | exact HK.out | apply Kept.alloc | apply Kept.drewN | apply Kept.drew) | exact HK.out)⟩, ⟨by repeat (first | (with_reducible first | exact HB.out | apply qg | apply qe | apply qf) | exact HB.out)⟩⟩
 case round =>
  clear H'
  try clear c2
  try clear p2
  obtain ⟨x0_1, x1_1, x5_1, rfl, rfl, HA, HK1, HO_0, HK, HB⟩ := hrel
  cases gk with
  | zero => exact absurd HA.out (by simp [laws_markFrameS.l0])
  | succ k1 =>
   have H := HA.out
   clear HA
   simp only [laws_markFrameS.l0] at H
   by_cases c3 : x5_1 < (x0_1.length : Int)
   ·
    rw [if_pos c3] at H
    have c3b0 : decide (x5_1 < (x0_1.length : Int)) = true := decide_eq_true c3
    clear c3
    by_cases c4 : 0 ≤ x5_1
    ·
     rw [if_pos c4] at H
     have c4b0 : decide (0 ≤ x5_1) = true := decide_eq_true c4
     clear c4
     obtain ⟨y276, hy276⟩ : ∃ y_ : List (S56), y_ = (x0_1.set (x5_1 : Int).toNat (⟨x1_1, (rd_T56 x0_1 x5_1).f1, (rd_T56 x0_1 x5_1).f2, (rd_T56 x0_1 x5_1).f3⟩ : S56)) := ⟨_, rfl⟩
     replace H : ((some (y276.set (x5_1 : Int).toNat (⟨(rd_T56 y276 x5_1).f0, wrap64 (x1_1 + 1), (rd_T56 y276 x5_1).f2, (rd_T56 y276 x5_1).f3⟩ : S56) : List (S56))).bind fun y277 => ((some (y277.set (x5_1 : Int).toNat (⟨(rd_T56 y277 x5_1).f0, (rd_T56 y277 x5_1).f1, wrap64 ((wrap64 (x1_1 + 1)) + 1), (rd_T56 y277 x5_1).f3⟩ : S56) : List (S56))).bind fun y278 => (laws_markFrameS.l0 k1 (y278.set (x5_1 : Int).toNat (⟨(rd_T56 y278 x5_1).f0, (rd_T56 y278 x5_1).f1, (rd_T56 y278 x5_1).f2, wrap64 ((wrap64 ((wrap64 (x1_1 + 1)) + 1)) + 1)⟩ : S56)) (wrap64 ((wrap64 ((wrap64 ((wrap64 (x1_1 + 1)) + 1)) + 1)) + 1)) (wrap64 (x5_1 + 1))))) = some (r1, r2) := by first | (rw [hy276]; with_reducible exact H) | (have H2_ := (Option.bind_some _ _).symm.trans H; rw [hy276]; with_reducible exact H2_) | (have H2_ := (Option.bind_some _ _).symm.trans H; with_reducible exact H2_) | with_reducible exact H | (rw [hy276]; exact H) | exact H
     have Ny276 := Aside0.mk hy276
     clear hy276
     obtain ⟨y277, hy277⟩ : ∃ y_ : List (S56), y_ = (y276.set (x5_1 : Int).toNat (⟨(rd_T56 y276 x5_1).f0, wrap64 (x1_1 + 1), (rd_T56 y276 x5_1).f2, (rd_T56 y276 x5_1).f3⟩ : S56)) := ⟨_, rfl⟩
     replace H : ((some (y277.set (x5_1 : Int).toNat (⟨(rd_T56 y277 x5_1).f0, (rd_T56 y277 x5_1).f1, wrap64 ((wrap64 (x1_1 + 1)) + 1), (rd_T56 y277 x5_1).f3⟩ : S56) : List (S56))).bind fun y278 => (laws_markFrameS.l0 k1 (y278.set (x5_1 : Int).toNat (⟨(rd_T56 y278 x5_1).f0, (rd_T56 y278 x5_1).f1, (rd_T56 y278 x5_1).f2, wrap64 ((wrap64 ((wrap64 (x1_1 + 1)) + 1)) + 1)⟩ : S56)) (wrap64 ((wrap64 ((wrap64 ((wrap64 (x1_1 + 1)) + 1)) + 1)) + 1)) (wrap64 (x5_1 + 1)))) = some (r1, r2) := by first | (rw [hy277]; with_reducible exact H) | (have H2_ := (Option.bind_some _ _).symm.trans H; rw [hy277]; with_reducible exact H2_) | (have H2_ := (Option.bind_some _ _).symm.trans H; with_reducible exact H2_) | with_reducible exact H | (rw [hy277]; exact H) | exact H
     have Ny277 := Aside0.mk hy277
     clear hy277
     obtain ⟨y278, hy278⟩ : ∃ y_ : List (S56), y_ = (y277.set (x5_1 : Int).toNat (⟨(rd_T56 y277 x5_1).f0, (rd_T56 y277 x5_1).f1, wrap64 ((wrap64 (x1_1 + 1)) + 1), (rd_T56 y277 x5_1).f3⟩ : S56)) := ⟨_, rfl⟩
     replace H : (laws_markFrameS.l0 k1 (y278.set (x5_1 : Int).toNat (⟨(rd_T56 y278 x5_1).f0, (rd_T56 y278 x5_1).f1, (rd_T56 y278 x5_1).f2, wrap64 ((wrap64 ((wrap64 (x1_1 + 1)) + 1)) + 1)⟩ : S56)) (wrap64 ((wrap64 ((wrap64 ((wrap64 (x1_1 + 1)) + 1)) + 1)) + 1)) (wrap64 (x5_1 + 1))) = some (r1, r2) := by first | (rw [hy278]; with_reducible exact H) | (have H2_ := (Option.bind_some _ _).symm.trans H; rw [hy278]; with_reducible exact H2_) | (have H2_ := (Option.bind_some _ _).symm.trans H; with_reducible exact H2_) | with_reducible exact H | (rw [hy278]; exact H) | exact H
     have Ny278 := Aside0.mk hy278
     clear hy278
     obtain ⟨y279, hy279⟩ : ∃ y_ : List (S56), y_ = (y278.set (x5_1 : Int).toNat (⟨(rd_T56 y278 x5_1).f0, (rd_T56 y278 x5_1).f1, (rd_T56 y278 x5_1).f2, wrap64 ((wrap64 ((wrap64 (x1_1 + 1)) + 1)) + 1)⟩ : S56)) := ⟨_, rfl⟩
     replace H : (laws_markFrameS.l0 k1 y279 (wrap64 ((wrap64 ((wrap64 ((wrap64 (x1_1 + 1)) + 1)) + 1)) + 1)) (wrap64 (x5_1 + 1))) = some (r1, r2) := by first | (rw [hy279]; with_reducible exact H) | (have H2_ := (Option.bind_some _ _).symm.trans H; rw [hy279]; with_reducible exact H2_) | (have H2_ := (Option.bind_some _ _).symm.trans H; with_reducible exact H2_) | with_reducible exact H | (rw [hy279]; exact H) | exact H
     have Ny279 := Aside0.mk hy279
     clear hy279
     have H' := Aside0.mk H
     clear H
     obtain ⟨Ao9, co9, eo9⟩ := Kd.R_slice HO_0.out
     subst eo9
     have p5 : 0 ≤ (x5_1 : Int) := of_decide_eq_true (by first | (with_reducible assumption) | assumption)
     have q5 : (x5_1 : Int) < ((x0_1.length : Int) : Int) := of_decide_eq_true (by first | (with_reducible assumption) | assumption)
     obtain ⟨go5, co5, eo5, gb5, gl5, cl5, HG5⟩ := Kd.R_form HO_0.out (by omega)
     (first | cases eo5 | (injection eo5 with ea_ en_ ec_; (first | subst ea_ | (injection ea_ with ea_; subst ea_)); subst ec_; clear en_))
     have GB5 := Aside0.mk gb5
     have GG5 := Aside0.mk HG5
     clear gb5 gl5 HG5
     have HMgo5 := Aside0.mk (show (P0_ go5 ∨ w.heap.size ≤ go5) from (HO_0.out.1 _ rfl))
     obtain ⟨ce5, hcl5, hM5, hcc5, hfr5⟩ := Kd.R_elem HO_0.out z56 (x5_1 : Int) p5 q5
     obtain rfl := k56_openM hM5
     have hx5_0 : wr.cell? ⟨go5, (x5_1 : Int).toNat * 4, none⟩ = some (.int .i64 ((rd_T56 x0_1 x5_1).f0)) := hcc5 0 _ rfl
     have hx5_1 : wr.cell? ⟨go5, (x5_1 : Int).toNat * 4 + 1, none⟩ = some (.int .i64 ((rd_T56 x0_1 x5_1).f1)) := hcc5 1 _ rfl
     have hx5_2 : wr.cell? ⟨go5, (x5_1 : Int).toNat * 4 + 2, none⟩ = some (.int .i64 ((rd_T56 x0_1 x5_1).f2)) := hcc5 2 _ rfl
     have hx5_3 : wr.cell? ⟨go5, (x5_1 : Int).toNat * 4 + 3, none⟩ = some (.int .i64 ((rd_T56 x0_1 x5_1).f3)) := hcc5 3 _ rfl
     have hf5_0 : wr.frozen? ⟨go5, (x5_1 : Int).toNat * 4, none⟩ = false := hfr5 0
     have hf5_1 : wr.frozen? ⟨go5, (x5_1 : Int).toNat * 4 + 1, none⟩ = false := hfr5 1
     have hf5_2 : wr.frozen? ⟨go5, (x5_1 : Int).toNat * 4 + 2, none⟩ = false := hfr5 2
     have hf5_3 : wr.frozen? ⟨go5, (x5_1 : Int).toNat * 4 + 3, none⟩ = false := hfr5 3
     clear hcl5 hcc5 hfr5 hM5
     replace p5 := eq_true p5
     replace q5 := eq_true q5
     have HX10 := Aside0.mk (show Kd.R k56 56 wr w0.heap.size (fun k_ => (P0_ k_ ∨ w.heap.size ≤ k_)) (.slice (some ⟨go5, 0, none⟩) x0_1.length co9) x0_1 from (by (with_reducible repeat (first | apply qi | apply qj | apply ql)); exact HO_0.out))
     obtain ⟨ce10, hcl10, hM10, hcc10, hfr10⟩ := Kd.R_elem HX10.out z56 (x5_1 : Int) (of_decide_eq_true (by first | (with_reducible assumption) | assumption)) (by have h_ : (x5_1 : Int) < ((x0_1.length : Int) : Int) := of_decide_eq_true (by first | (with_reducible assumption) | assumption); first | exact h_ | (have e_ := (Kd.R_reads' HO_0.out).1; omega) | simpa using h_)
     obtain rfl := k56_openM hM10
     have HP10 := Kd.R_seg HX10.out (x5_1 : Int) (of_decide_eq_true (by first | (with_reducible assumption) | assumption)) (by have h_ : (x5_1 : Int) < ((x0_1.length : Int) : Int) := of_decide_eq_true (by first | (with_reducible assumption) | assumption); first | exact h_ | (have e_ := (Kd.R_reads' HO_0.out).1; omega) | simpa using h_) (seg := [.int .i64 x1_1]) (j := 0) hcl10 hcc10 (show 1 ≤ 4 from by decide) (x' := (⟨x1_1, (rd_T56 x0_1 x5_1).f1, (rd_T56 x0_1 x5_1).f2, (rd_T56 x0_1 x5_1).f3⟩ : S56)) (k56_mkM _ _ _ (⟨x1_1, (rd_T56 x0_1 x5_1).f1, (rd_T56 x0_1 x5_1).f2, (rd_T56 x0_1 x5_1).f3⟩ : S56) ) (fun _ hk => hk)
     have hx10_0 := hcc10 0 _ rfl
     (try simp only [show (k56).sz = 4 from rfl, Nat.mul_one, Nat.add_zero] at hx10_0)
     have hf10_0 := hfr10 0
     (try simp only [show (k56).sz = 4 from rfl, Nat.mul_one, Nat.add_zero] at hf10_0)
     clear hcl10 hcc10 hfr10 hM10
     go_wp2_with (first | ((with_reducible refine gate_store (t := 3) (p := 16) rfl ?_); refine store_event (t := 3) (p := 16) (v := ?vo_w11) (w1 := (wr.setCell ⟨go5, (x5_1 : Int).toNat * 4, none⟩ (.int .i64 x1_1))) ?hg ?ho ?hn ?hr ?_; (case ho => rfl); (case hg => rfl); (case hn => rfl); (case hr => first | (go_simp; done) | (go_simp; rfl)); intro w11 hw; have hg : wr.grownBy w11 (some go5) := (by rw [hw]; exact HP10.2); have hp_ : Kd.R k56 56 w11 w0.heap.size (fun k_ => (P0_ k_ ∨ w.heap.size ≤ k_)) (.slice (some ⟨go5, 0, none⟩) x0_1.length co9) y276 := (by rw [hw, Ny276.out]; exact HP10.1); clear HP10; have n0_ := Aside0.mk (hp_); have n1_ := Aside0.mk ((by rw [hw]; exact qd (HB.out) GB5.out : Below w0.heap.size w0 w11)); have n2_ := Aside0.mk (Kept.of_grown (S := (fun k_ => P0_ k_)) hg (by repeat (first | (with_reducible first | exact HK.out | apply Kept.alloc | apply Kept.drewN | apply Kept.drew) | exact HK.out)) (fun k_ e_ => (HO_0.out.1 k_ e_))); clear HO_0; clear HB; clear HK; have HO_0 := n0_; have HB := n1_; have HK := n2_; clear n0_ n1_ n2_; clear hg hw hp_; have p6 : 0 ≤ (x5_1 : Int) := of_decide_eq_true (by first | (with_reducible assumption) | assumption); have q6 : (x5_1 : Int) < ((x0_1.length : Int) : Int) := of_decide_eq_true (by first | (with_reducible assumption) | assumption); obtain ⟨ce6, hcl6, hM6, hcc6, hfr6⟩ := Kd.R_elem HO_0.out z56 (x5_1 : Int) p6 q6; obtain rfl := k56_openM hM6; have hx6_0 : w11.cell? ⟨go5, (x5_1 : Int).toNat * 4, none⟩ = some (.int .i64 ((rd_T56 y276 x5_1).f0)) := hcc6 0 _ rfl; have hx6_1 : w11.cell? ⟨go5, (x5_1 : Int).toNat * 4 + 1, none⟩ = some (.int .i64 ((rd_T56 y276 x5_1).f1)) := hcc6 1 _ rfl; have hx6_2 : w11.cell? ⟨go5, (x5_1 : Int).toNat * 4 + 2, none⟩ = some (.int .i64 ((rd_T56 y276 x5_1).f2)) := hcc6 2 _ rfl; have hx6_3 : w11.cell? ⟨go5, (x5_1 : Int).toNat * 4 + 3, none⟩ = some (.int .i64 ((rd_T56 y276 x5_1).f3)) := hcc6 3 _ rfl; have hf6_0 : w11.frozen? ⟨go5, (x5_1 : Int).toNat * 4, none⟩ = false := hfr6 0; have hf6_1 : w11.frozen? ⟨go5, (x5_1 : Int).toNat * 4 + 1, none⟩ = false := hfr6 1; have hf6_2 : w11.frozen? ⟨go5, (x5_1 : Int).toNat * 4 + 2, none⟩ = false := hfr6 2; have hf6_3 : w11.frozen? ⟨go5, (x5_1 : Int).toNat * 4 + 3, none⟩ = false := hfr6 3; clear hcl6 hcc6 hfr6 hM6; replace p6 := eq_true p6; replace q6 := eq_true q6; have HX12 := Aside0.mk (show Kd.R k56 56 w11 w0.heap.size (fun k_ => (P0_ k_ ∨ w.heap.size ≤ k_)) (.slice (some ⟨go5, 0, none⟩) x0_1.length co9) y276 from (by (with_reducible repeat (first | apply qi | apply qj | apply ql)); exact HO_0.out)); obtain ⟨ce12, hcl12, hM12, hcc12, hfr12⟩ := Kd.R_elem HX12.out z56 (x5_1 : Int) (of_decide_eq_true (by first | (with_reducible assumption) | assumption)) (by have h_ : (x5_1 : Int) < ((x0_1.length : Int) : Int) := of_decide_eq_true (by first | (with_reducible assumption) | assumption); first | exact h_ | (have e_ := (Kd.R_reads' HO_0.out).1; omega) | simpa using h_); obtain rfl := k56_openM hM12; have HP12 := Kd.R_seg HX12.out (x5_1 : Int) (of_decide_eq_true (by first | (with_reducible assumption) | assumption)) (by have h_ : (x5_1 : Int) < ((x0_1.length : Int) : Int) := of_decide_eq_true (by first | (with_reducible assumption) | assumption); first | exact h_ | (have e_ := (Kd.R_reads' HO_0.out).1; omega) | simpa using h_) (seg := [.int .i64 (wrap64 (x1_1 + 1))]) (j := 1) hcl12 hcc12 (show 2 ≤ 4 from by decide) (x' := (⟨(rd_T56 y276 x5_1).f0, wrap64 (x1_1 + 1), (rd_T56 y276 x5_1).f2, (rd_T56 y276 x5_1).f3⟩ : S56)) (k56_mkM _ _ _ (⟨(rd_T56 y276 x5_1).f0, wrap64 (x1_1 + 1), (rd_T56 y276 x5_1).f2, (rd_T56 y276 x5_1).f3⟩ : S56) ) (fun _ hk => hk); have hx12_1 := hcc12 1 _ rfl; (try simp only [show (k56).sz = 4 from rfl, Nat.mul_one, Nat.add_zero] at hx12_1); have hf12_1 := hfr12 1; (try simp only [show (k56).sz = 4 from rfl, Nat.mul_one, Nat.add_zero] at hf12_1); clear hcl12 hcc12 hfr12 hM12) | ((with_reducible refine gate_store (t := 3) (p := 23) rfl ?_); refine store_event (t := 3) (p := 23) (v := ?vo_w13) (w1 := (w11.setCell ⟨go5, (x5_1 : Int).toNat * 4 + 1, none⟩ (.int .i64 (wrap64 (x1_1 + 1))))) ?hg ?ho ?hn ?hr ?_; (case ho => rfl); (case hg => rfl); (case hn => rfl); (case hr => first | (go_simp; done) | (go_simp; rfl)); intro w13 hw; have hg : w11.grownBy w13 (some go5) := (by rw [hw]; exact HP12.2); have hp_ : Kd.R k56 56 w13 w0.heap.size (fun k_ => (P0_ k_ ∨ w.heap.size ≤ k_)) (.slice (some ⟨go5, 0, none⟩) x0_1.length co9) y277 := (by rw [hw, Ny277.out]; exact HP12.1); clear HP12; have n0_ := Aside0.mk (hp_); have n1_ := Aside0.mk ((by rw [hw]; exact qd (HB.out) GB5.out : Below w0.heap.size w0 w13)); have n2_ := Aside0.mk (Kept.of_grown (S := (fun k_ => P0_ k_)) hg (by repeat (first | (with_reducible first | exact HK.out | apply Kept.alloc | apply Kept.drewN | apply Kept.drew) | exact HK.out)) (fun k_ e_ => (HO_0.out.1 k_ e_))); clear HO_0; clear HB; clear HK; have HO_0 := n0_; have HB := n1_; have HK := n2_; clear n0_ n1_ n2_; clear hg hw hp_; have p7 : 0 ≤ (x5_1 : Int) := of_decide_eq_true (by first | (with_reducible assumption) | assumption); have q7 : (x5_1 : Int) < ((x0_1.length : Int) : Int) := of_decide_eq_true (by first | (with_reducible assumption) | assumption); obtain ⟨ce7, hcl7, hM7, hcc7, hfr7⟩ := Kd.R_elem HO_0.out z56 (x5_1 : Int) p7 q7; obtain rfl := k56_openM hM7; have hx7_0 : w13.cell? ⟨go5, (x5_1 : Int).toNat * 4, none⟩ = some (.int .i64 ((rd_T56 y277 x5_1).f0)) := hcc7 0 _ rfl; have hx7_1 : w13.cell? ⟨go5, (x5_1 : Int).toNat * 4 + 1, none⟩ = some (.int .i64 ((rd_T56 y277 x5_1).f1)) := hcc7 1 _ rfl; have hx7_2 : w13.cell? ⟨go5, (x5_1 : Int).toNat * 4 + 2, none⟩ = some (.int .i64 ((rd_T56 y277 x5_1).f2)) := hcc7 2 _ rfl; have hx7_3 : w13.cell? ⟨go5, (x5_1 : Int).toNat * 4 + 3, none⟩ = some (.int .i64 ((rd_T56 y277 x5_1).f3)) := hcc7 3 _ rfl; have hf7_0 : w13.frozen? ⟨go5, (x5_1 : Int).toNat * 4, none⟩ = false := hfr7 0; have hf7_1 : w13.frozen? ⟨go5, (x5_1 : Int).toNat * 4 + 1, none⟩ = false := hfr7 1; have hf7_2 : w13.frozen? ⟨go5, (x5_1 : Int).toNat * 4 + 2, none⟩ = false := hfr7 2; have hf7_3 : w13.frozen? ⟨go5, (x5_1 : Int).toNat * 4 + 3, none⟩ = false := hfr7 3; clear hcl7 hcc7 hfr7 hM7; replace p7 := eq_true p7; replace q7 := eq_true q7; have HX14 := Aside0.mk (show Kd.R k56 56 w13 w0.heap.size (fun k_ => (P0_ k_ ∨ w.heap.size ≤ k_)) (.slice (some ⟨go5, 0, none⟩) x0_1.length co9) y277 from (by (with_reducible repeat (first | apply qi | apply qj | apply ql)); exact HO_0.out)); obtain ⟨ce14, hcl14, hM14, hcc14, hfr14⟩ := Kd.R_elem HX14.out z56 (x5_1 : Int) (of_decide_eq_true (by first | (with_reducible assumption) | assumption)) (by have h_ : (x5_1 : Int) < ((x0_1.length : Int) : Int) := of_decide_eq_true (by first | (with_reducible assumption) | assumption); first | exact h_ | (have e_ := (Kd.R_reads' HO_0.out).1; omega) | simpa using h_); obtain rfl := k56_openM hM14; have HP14 := Kd.R_seg HX14.out (x5_1 : Int) (of_decide_eq_true (by first | (with_reducible assumption) | assumption)) (by have h_ : (x5_1 : Int) < ((x0_1.length : Int) : Int) := of_decide_eq_true (by first | (with_reducible assumption) | assumption); first | exact h_ | (have e_ := (Kd.R_reads' HO_0.out).1; omega) | simpa using h_) (seg := [.int .i64 (wrap64 ((wrap64 (x1_1 + 1)) + 1))]) (j := 2) hcl14 hcc14 (show 3 ≤ 4 from by decide) (x' := (⟨(rd_T56 y277 x5_1).f0, (rd_T56 y277 x5_1).f1, wrap64 ((wrap64 (x1_1 + 1)) + 1), (rd_T56 y277 x5_1).f3⟩ : S56)) (k56_mkM _ _ _ (⟨(rd_T56 y277 x5_1).f0, (rd_T56 y277 x5_1).f1, wrap64 ((wrap64 (x1_1 + 1)) + 1), (rd_T56 y277 x5_1).f3⟩ : S56) ) (fun _ hk => hk); have hx14_2 := hcc14 2 _ rfl; (try simp only [show (k56).sz = 4 from rfl, Nat.mul_one, Nat.add_zero] at hx14_2); have hf14_2 := hfr14 2; (try simp only [show (k56).sz = 4 from rfl, Nat.mul_one, Nat.add_zero] at hf14_2); clear hcl14 hcc14 hfr14 hM14) | ((with_reducible refine gate_store (t := 3) (p := 30) rfl ?_); refine store_event (t := 3) (p := 30) (v := ?vo_w15) (w1 := (w13.setCell ⟨go5, (x5_1 : Int).toNat * 4 + 2, none⟩ (.int .i64 (wrap64 ((wrap64 (x1_1 + 1)) + 1))))) ?hg ?ho ?hn ?hr ?_; (case ho => rfl); (case hg => rfl); (case hn => rfl); (case hr => first | (go_simp; done) | (go_simp; rfl)); intro w15 hw; have hg : w13.grownBy w15 (some go5) := (by rw [hw]; exact HP14.2); have hp_ : Kd.R k56 56 w15 w0.heap.size (fun k_ => (P0_ k_ ∨ w.heap.size ≤ k_)) (.slice (some ⟨go5, 0, none⟩) x0_1.length co9) y278 := (by rw [hw, Ny278.out]; exact HP14.1); clear HP14; have n0_ := Aside0.mk (hp_); have n1_ := Aside0.mk ((by rw [hw]; exact qd (HB.out) GB5.out : Below w0.heap.size w0 w15)); have n2_ := Aside0.mk (Kept.of_grown (S := (fun k_ => P0_ k_)) hg (by repeat (first | (with_reducible first | exact HK.out | apply Kept.alloc | apply Kept.drewN | apply Kept.drew) | exact HK.out)) (fun k_ e_ => (HO_0.out.1 k_ e_))); clear HO_0; clear HB; clear HK; have HO_0 := n0_; have HB := n1_; have HK := n2_; clear n0_ n1_ n2_; clear hg hw hp_; have p8 : 0 ≤ (x5_1 : Int) := of_decide_eq_true (by first | (with_reducible assumption) | assumption); have q8 : (x5_1 : Int) < ((x0_1.length : Int) : Int) := of_decide_eq_true (by first | (with_reducible assumption) | assumption); obtain ⟨ce8, hcl8, hM8, hcc8, hfr8⟩ := Kd.R_elem HO_0.out z56 (x5_1 : Int) p8 q8; obtain rfl := k56_openM hM8; have hx8_0 : w15.cell? ⟨go5, (x5_1 : Int).toNat * 4, none⟩ = some (.int .i64 ((rd_T56 y278 x5_1).f0)) := hcc8 0 _ rfl; have hx8_1 : w15.cell? ⟨go5, (x5_1 : Int).toNat * 4 + 1, none⟩ = some (.int .i64 ((rd_T56 y278 x5_1).f1)) := hcc8 1 _ rfl; have hx8_2 : w15.cell? ⟨go5, (x5_1 : Int).toNat * 4 + 2, none⟩ = some (.int .i64 ((rd_T56 y278 x5_1).f2)) := hcc8 2 _ rfl; have hx8_3 : w15.cell? ⟨go5, (x5_1 : Int).toNat * 4 + 3, none⟩ = some (.int .i64 ((rd_T56 y278 x5_1).f3)) := hcc8 3 _ rfl; have hf8_0 : w15.frozen? ⟨go5, (x5_1 : Int).toNat * 4, none⟩ = false := hfr8 0; have hf8_1 : w15.frozen? ⟨go5, (x5_1 : Int).toNat * 4 + 1, none⟩ = false := hfr8 1; have hf8_2 : w15.frozen? ⟨go5, (x5_1 : Int).toNat * 4 + 2, none⟩ = false := hfr8 2; have hf8_3 : w15.frozen? ⟨go5, (x5_1 : Int).toNat * 4 + 3, none⟩ = false := hfr8 3; clear hcl8 hcc8 hfr8 hM8; replace p8 := eq_true p8; replace q8 := eq_true q8; have HX16 := Aside0.mk (show Kd.R k56 56 w15 w0.heap.size (fun k_ => (P0_ k_ ∨ w.heap.size ≤ k_)) (.slice (some ⟨go5, 0, none⟩) x0_1.length co9) y278 from (by (with_reducible repeat (first | apply qi | apply qj | apply ql)); exact HO_0.out)); obtain ⟨ce16, hcl16, hM16, hcc16, hfr16⟩ := Kd.R_elem HX16.out z56 (x5_1 : Int) (of_decide_eq_true (by first | (with_reducible assumption) | assumption)) (by have h_ : (x5_1 : Int) < ((x0_1.length : Int) : Int) := of_decide_eq_true (by first | (with_reducible assumption) | assumption); first | exact h_ | (have e_ := (Kd.R_reads' HO_0.out).1; omega) | simpa using h_); obtain rfl := k56_openM hM16; have HP16 := Kd.R_seg HX16.out (x5_1 : Int) (of_decide_eq_true (by first | (with_reducible assumption) | assumption)) (by have h_ : (x5_1 : Int) < ((x0_1.length : Int) : Int) := of_decide_eq_true (by first | (with_reducible assumption) | assumption); first | exact h_ | (have e_ := (Kd.R_reads' HO_0.out).1; omega) | simpa using h_) (seg := [.int .i64 (wrap64 ((wrap64 ((wrap64 (x1_1 + 1)) + 1)) + 1))]) (j := 3) hcl16 hcc16 (show 4 ≤ 4 from by decide) (x' := (⟨(rd_T56 y278 x5_1).f0, (rd_T56 y278 x5_1).f1, (rd_T56 y278 x5_1).f2, wrap64 ((wrap64 ((wrap64 (x1_1 + 1)) + 1)) + 1)⟩ : S56)) (k56_mkM _ _ _ (⟨(rd_T56 y278 x5_1).f0, (rd_T56 y278 x5_1).f1, (rd_T56 y278 x5_1).f2, wrap64 ((wrap64 ((wrap64 (x1_1 + 1)) + 1)) + 1)⟩ : S56) ) (fun _ hk => hk); have hx16_3 := hcc16 3 _ rfl; (try simp only [show (k56).sz = 4 from rfl, Nat.mul_one, Nat.add_zero] at hx16_3); have hf16_3 := hfr16 3; (try simp only [show (k56).sz = 4 from rfl, Nat.mul_one, Nat.add_zero] at hf16_3); clear hcl16 hcc16 hfr16 hM16) | ((with_reducible refine gate_store (t := 3) (p := 37) rfl ?_); refine store_event (t := 3) (p := 37) (v := ?vo_w17) (w1 := (w15.setCell ⟨go5, (x5_1 : Int).toNat * 4 + 3, none⟩ (.int .i64 (wrap64 ((wrap64 ((wrap64 (x1_1 + 1)) + 1)) + 1))))) ?hg ?ho ?hn ?hr ?_; (case ho => rfl); (case hg => rfl); (case hn => rfl); (case hr => first | (go_simp; done) | (go_simp; rfl)); intro w17 hw; have hg : w15.grownBy w17 (some go5) := (by rw [hw]; exact HP16.2); have hp_ : Kd.R k56 56 w17 w0.heap.size (fun k_ => (P0_ k_ ∨ w.heap.size ≤ k_)) (.slice (some ⟨go5, 0, none⟩) x0_1.length co9) y279 := (by rw [hw, Ny279.out]; exact HP16.1); clear HP16; have n0_ := Aside0.mk (hp_); have n1_ := Aside0.mk ((by rw [hw]; exact qd (HB.out) GB5.out : Below w0.heap.size w0 w17)); have n2_ := Aside0.mk (Kept.of_grown (S := (fun k_ => P0_ k_)) hg (by repeat (first | (with_reducible first | exact HK.out | apply Kept.alloc | apply Kept.drewN | apply Kept.drew) | exact HK.out)) (fun k_ e_ => (HO_0.out.1 k_ e_))); clear HO_0; clear HB; clear HK; have HO_0 := n0_; have HB := n1_; have HK := n2_; clear n0_ n1_ n2_; clear hg hw hp_))
     go_roundg k1
     case measure => have := HK1.out; omega
     case rel => exact ⟨(y279), (wrap64 ((wrap64 ((wrap64 ((wrap64 (x1_1 + 1)) + 1)) + 1)) + 1)), (wrap64 (x5_1 + 1)), (by first | rfl | (simp; done) | (simp [*]; done)), (by first | rfl | (simp; done) | (simp [*]; done)), H', ⟨by have := HK1.out; omega⟩, ⟨by (with_reducible repeat (first | apply qi | apply qj | apply ql)); exact HO_0.out⟩, ⟨by repeat (first | (with_reducible first | exact HK.out | apply Kept.alloc | apply Kept.drewN | apply Kept.drew) | exact HK.out)⟩, ⟨by repeat (first | (with_reducible first | exact HB.out | apply qg | apply qe | apply qf) | exact HB.out)⟩⟩
    ·
     rw [if_neg c4] at H
     exact absurd H (by simp)
   ·
    rw [if_neg c3] at H
    have c3b0 : decide (x5_1 < (x0_1.length : Int)) = false := decide_eq_false c3
    clear c3
    simp only [Option.some.injEq, Prod.mk.injEq] at H
    obtain ⟨rfl, rfl⟩ := H
    obtain ⟨Ao18, co18, eo18⟩ := Kd.R_slice HO_0.out
    subst eo18
    go_wp2
    go_ret
    exact ⟨by first | rfl | (simp [errW_none, errW_some] <;> rfl) | (simp [*, errW_none, errW_some] <;> rfl), by (with_reducible repeat (first | apply qi | apply qj | apply ql)); exact HO_0.out, by repeat (first | (with_reducible first | exact HB.out | apply qg | apply qe | apply qf) | exact HB.out), by repeat (first | (with_reducible first | exact HK.out | apply Kept.alloc | apply Kept.drewN | apply Kept.drew) | exact HK.out)⟩

end Go.Proofs.Ytkdndllgocdbdaa.PFnExactRaiseJoin

-- Written by this session's program myprint.py over the kit's print and its own texts; Lean checks it.
-- made smaller: short names, half the indentation
import Derived.Test.YthmmalkdobklhaaPFnExactClosedSessionsx0
import Derived.Test.YthmmalkdobklhaaPFnExactClosedSessionsx1
import Derived.Test.YthmmalkdobklhaaPFnExactClosedSessionsx2
namespace Go.Proofs.Ythmmalkdobklhaa.PFnExactClosedSessions
open Go.RowKit Go.Proofs.YthmmalkdobklhaaW.PrintWords Go.Proofs.YthmmalkdobklhaaW.PrintLast Go.Proofs.YthmmalkdobklhaaW.PrintMore
open Go.Proofs.YthmmalkdobklhaaW.PrintWords renaming pw_below_drewN → qd, below_alloc → qe, below_drew1 → qf, gate_callee → qg, below_step → qm, below_size → qq
open Go.Proofs.YthmmalkdobklhaaW.PrintWords.Kd renaming R_alloc → qa, R_drewN → qb, R_drew → qc, C_alloc → qh, C_drewN → qi, C_drew → qj, R_below → qk, R_base → ql, R_lt → qn, R_slice → qo, R_lower → qp
attribute [local go_sem] max2_int min2_int max_two min_two max_three min_three max_four min_four   -- for this text's walks alone
set_option linter.unusedVariables false
set_option linter.unusedSimpArgs false

/-! ### laws_markSessionS: function 15 -/
def laws_markSessionS.l0 : Nat → List (S70) → Int → Int → Option (Int × (List (S70)))
 | 0, _, _, _ => none
 | k + 1, x0, x1, x5 => if x5 < (x0.length : Int) then (if 0 ≤ x5 then ((some (x0.set (x5 : Int).toNat (⟨x1, (rd_T70 x0 x5).f1, (rd_T70 x0 x5).f2, (rd_T70 x0 x5).f3, (rd_T70 x0 x5).f4⟩ : S70) : List (S70))).bind fun y166 => ((some (y166.set (x5 : Int).toNat (⟨(rd_T70 y166 x5).f0, wrap64 (x1 + 1), (rd_T70 y166 x5).f2, (rd_T70 y166 x5).f3, (rd_T70 y166 x5).f4⟩ : S70) : List (S70))).bind fun y167 => ((some (y167.set (x5 : Int).toNat (⟨(rd_T70 y167 x5).f0, (rd_T70 y167 x5).f1, wrap64 ((wrap64 (x1 + 1)) + 1), (rd_T70 y167 x5).f3, (rd_T70 y167 x5).f4⟩ : S70) : List (S70))).bind fun y168 => ((some (y168.set (x5 : Int).toNat (⟨(rd_T70 y168 x5).f0, (rd_T70 y168 x5).f1, (rd_T70 y168 x5).f2, wrap64 ((wrap64 ((wrap64 (x1 + 1)) + 1)) + 1), (rd_T70 y168 x5).f4⟩ : S70) : List (S70))).bind fun y169 => (laws_markSessionS.l0 k (y169.set (x5 : Int).toNat (⟨(rd_T70 y169 x5).f0, (rd_T70 y169 x5).f1, (rd_T70 y169 x5).f2, (rd_T70 y169 x5).f3, wrap64 ((wrap64 ((wrap64 ((wrap64 (x1 + 1)) + 1)) + 1)) + 1)⟩ : S70)) (wrap64 ((wrap64 ((wrap64 ((wrap64 ((wrap64 (x1 + 1)) + 1)) + 1)) + 1)) + 1)) (wrap64 (x5 + 1))))))) else (none)) else (some (x1, x0))
def laws_markSessionS.f (k : Nat) (l0 : List (S70)) (a1 : Int) : Option (Int × (List (S70))) := laws_markSessionS.l0 k l0 a1 0
theorem laws_markSessionS.mono_l : ∀ k, (∀ y0 y1 y2, LeO (laws_markSessionS.l0 k y0 y1 y2) (laws_markSessionS.l0 (k + 1) y0 y1 y2))
 | 0 => fun _ _ _ r h => by simp [laws_markSessionS.l0] at h
 | k + 1 => by
  have ih0 := laws_markSessionS.mono_l k
  ·
   intro y0 y1 y2
   unfold laws_markSessionS.l0
   repeat' first
   | (with_reducible exact ih0 _ _ _)
   | (with_reducible exact LeO.refl _)
   | (with_reducible exact LeO.none _)
   | (with_reducible refine LeO.ite ?_ ?_)
   | (with_reducible refine LeO.bind ?_ (fun _ => ?_))
   | exact ih0 _ _ _
   | exact LeO.none _
   | refine LeO.ite ?_ ?_
   | refine LeO.bind ?_ (fun _ => ?_)
theorem laws_markSessionS.mono : ∀ a0 a1 k, LeO (laws_markSessionS.f k a0 a1) (laws_markSessionS.f (k + 1) a0 a1) := by
 intro a0 a1 k
 have ih0 := laws_markSessionS.mono_l k
 unfold laws_markSessionS.f
 repeat' first
   | (with_reducible exact ih0 _ _ _)
   | (with_reducible exact LeO.refl _)
   | (with_reducible exact LeO.none _)
   | (with_reducible refine LeO.ite ?_ ?_)
   | (with_reducible refine LeO.bind ?_ (fun _ => ?_))
   | exact ih0 _ _ _
   | exact LeO.none _
   | refine LeO.ite ?_ ?_
   | refine LeO.bind ?_ (fun _ => ?_)
set_option maxHeartbeats 8000000 in
set_option maxRecDepth 100000 in
theorem laws_markSessionS.calls (k : Nat) (P0_ : Nat → Prop) (u9000_ : Value) (l0 : List (S70)) (a1 : Int) (r1 : Int) (r2 : List (S70)) (w0 w : World) (hB : Below w0.heap.size w0 w) (ho0 : Kd.R k70 70 w w0.heap.size P0_ u9000_ l0) (h : laws_markSessionS.f k l0 a1 = some (r1, r2)) :
  Calls Try.prog 15 #[u9000_, .int .i64 a1] w fun e w' => e = .returned (.int .i64 r1) ∧ Kd.R k70 70 w' w0.heap.size (fun k_ => (P0_ k_ ∨ w.heap.size ≤ k_)) u9000_ r2 ∧ Below w0.heap.size w0 w' ∧ Kept w w' (fun k_ => P0_ k_) := by
 have HO0 := Aside0.mk (show Kd.R k70 70 w w0.heap.size (fun k_ => (P0_ k_ ∨ w.heap.size ≤ k_)) u9000_ l0 from Kd.R_mono ho0 (fun k_ hk => (.inl hk)))
 have HK := Aside0.mk (Kept.refl w (fun k_ => P0_ k_))
 have HW0 := Aside0.mk hB.size
 have HB := Aside0.mk hB
 clear hB
 have H : (laws_markSessionS.l0 k l0 a1 0) = some (r1, r2) := h
 clear h
 have H' := Aside0.mk H
 clear H
 go_enter Try.func15, Try.ntmps15
 go_wp2
 go_loopg [1, 5] k (fun kq v1 v5 w' => ∃ (x0_1 : List (S70)) (x1_1 : Int) (x5_1 : Int), v1 = .int .i64 x1_1 ∧ v5 = .int .i64 x5_1 ∧ Aside0 (laws_markSessionS.l0 kq x0_1 x1_1 x5_1 = some (r1, r2)) ∧ Aside0 (kq ≤ k) ∧ Aside0 (Kd.R k70 70 w' w0.heap.size (fun k_ => (P0_ k_ ∨ w.heap.size ≤ k_)) u9000_ x0_1) ∧ Aside0 (Kept w w' (fun k_ => P0_ k_)) ∧ Aside0 (Below w0.heap.size w0 w'))
 case atStart => exact ⟨(l0), (a1), (0), (by first | rfl | (simp; done) | (simp [*]; done)), (by first | rfl | (simp; done) | (simp [*]; done)), H', ⟨Nat.le_refl _⟩, ⟨by (with_reducible repeat (first | apply qa | apply qb | apply qc)); exact HO0.out⟩, ⟨by repeat (first | (with_reducible first | exact HK.out | apply Kept.alloc | apply Kept.drewN | apply Kept.drew) | exact HK.out)⟩, ⟨by repeat (first | (with_reducible first | exact HB.out | apply qe | apply qd | apply qf) | exact HB.out)⟩⟩
 case round =>
  clear H'
  try clear c1
  try clear p2
  obtain ⟨x0_1, x1_1, x5_1, rfl, rfl, HA, HK1, HO_0, HK, HB⟩ := hrel
  cases gk with
  | zero => exact absurd HA.out (by simp [laws_markSessionS.l0])
  | succ k1 =>
   have H := HA.out
   clear HA
   simp only [laws_markSessionS.l0] at H
   by_cases c3 : x5_1 < (x0_1.length : Int)
   ·
    rw [if_pos c3] at H
    have c3b0 : decide (x5_1 < (x0_1.length : Int)) = true := decide_eq_true c3
    clear c3
    by_cases c4 : 0 ≤ x5_1
    ·
     rw [if_pos c4] at H
     have c4b0 : decide (0 ≤ x5_1) = true := decide_eq_true c4
     clear c4
     obtain ⟨y166, hy166⟩ : ∃ y_ : List (S70), y_ = (x0_1.set (x5_1 : Int).toNat (⟨x1_1, (rd_T70 x0_1 x5_1).f1, (rd_T70 x0_1 x5_1).f2, (rd_T70 x0_1 x5_1).f3, (rd_T70 x0_1 x5_1).f4⟩ : S70)) := ⟨_, rfl⟩
     replace H : ((some (y166.set (x5_1 : Int).toNat (⟨(rd_T70 y166 x5_1).f0, wrap64 (x1_1 + 1), (rd_T70 y166 x5_1).f2, (rd_T70 y166 x5_1).f3, (rd_T70 y166 x5_1).f4⟩ : S70) : List (S70))).bind fun y167 => ((some (y167.set (x5_1 : Int).toNat (⟨(rd_T70 y167 x5_1).f0, (rd_T70 y167 x5_1).f1, wrap64 ((wrap64 (x1_1 + 1)) + 1), (rd_T70 y167 x5_1).f3, (rd_T70 y167 x5_1).f4⟩ : S70) : List (S70))).bind fun y168 => ((some (y168.set (x5_1 : Int).toNat (⟨(rd_T70 y168 x5_1).f0, (rd_T70 y168 x5_1).f1, (rd_T70 y168 x5_1).f2, wrap64 ((wrap64 ((wrap64 (x1_1 + 1)) + 1)) + 1), (rd_T70 y168 x5_1).f4⟩ : S70) : List (S70))).bind fun y169 => (laws_markSessionS.l0 k1 (y169.set (x5_1 : Int).toNat (⟨(rd_T70 y169 x5_1).f0, (rd_T70 y169 x5_1).f1, (rd_T70 y169 x5_1).f2, (rd_T70 y169 x5_1).f3, wrap64 ((wrap64 ((wrap64 ((wrap64 (x1_1 + 1)) + 1)) + 1)) + 1)⟩ : S70)) (wrap64 ((wrap64 ((wrap64 ((wrap64 ((wrap64 (x1_1 + 1)) + 1)) + 1)) + 1)) + 1)) (wrap64 (x5_1 + 1)))))) = some (r1, r2) := by first | (rw [hy166]; with_reducible exact H) | (have H2_ := (Option.bind_some _ _).symm.trans H; rw [hy166]; with_reducible exact H2_) | (have H2_ := (Option.bind_some _ _).symm.trans H; with_reducible exact H2_) | with_reducible exact H | (rw [hy166]; exact H) | exact H
     have Ny166 := Aside0.mk hy166
     clear hy166
     obtain ⟨y167, hy167⟩ : ∃ y_ : List (S70), y_ = (y166.set (x5_1 : Int).toNat (⟨(rd_T70 y166 x5_1).f0, wrap64 (x1_1 + 1), (rd_T70 y166 x5_1).f2, (rd_T70 y166 x5_1).f3, (rd_T70 y166 x5_1).f4⟩ : S70)) := ⟨_, rfl⟩
     replace H : ((some (y167.set (x5_1 : Int).toNat (⟨(rd_T70 y167 x5_1).f0, (rd_T70 y167 x5_1).f1, wrap64 ((wrap64 (x1_1 + 1)) + 1), (rd_T70 y167 x5_1).f3, (rd_T70 y167 x5_1).f4⟩ : S70) : List (S70))).bind fun y168 => ((some (y168.set (x5_1 : Int).toNat (⟨(rd_T70 y168 x5_1).f0, (rd_T70 y168 x5_1).f1, (rd_T70 y168 x5_1).f2, wrap64 ((wrap64 ((wrap64 (x1_1 + 1)) + 1)) + 1), (rd_T70 y168 x5_1).f4⟩ : S70) : List (S70))).bind fun y169 => (laws_markSessionS.l0 k1 (y169.set (x5_1 : Int).toNat (⟨(rd_T70 y169 x5_1).f0, (rd_T70 y169 x5_1).f1, (rd_T70 y169 x5_1).f2, (rd_T70 y169 x5_1).f3, wrap64 ((wrap64 ((wrap64 ((wrap64 (x1_1 + 1)) + 1)) + 1)) + 1)⟩ : S70)) (wrap64 ((wrap64 ((wrap64 ((wrap64 ((wrap64 (x1_1 + 1)) + 1)) + 1)) + 1)) + 1)) (wrap64 (x5_1 + 1))))) = some (r1, r2) := by first | (rw [hy167]; with_reducible exact H) | (have H2_ := (Option.bind_some _ _).symm.trans H; rw [hy167]; with_reducible exact H2_) | (have H2_ := (Option.bind_some _ _).symm.trans H; with_reducible exact H2_) | with_reducible exact H | (rw [hy167]; exact H) | exact H
     have Ny167 := Aside0.mk hy167
     clear hy167
     obtain ⟨y168, hy168⟩ : ∃ y_ : List (S70), y_ = (y167.set (x5_1 : Int).toNat (⟨(rd_T70 y167 x5_1).f0, (rd_T70 y167 x5_1).f1, wrap64 ((wrap64 (x1_1 + 1)) + 1), (rd_T70 y167 x5_1).f3, (rd_T70 y167 x5_1).f4⟩ : S70)) := ⟨_, rfl⟩
     replace H : ((some (y168.set (x5_1 : Int).toNat (⟨(rd_T70 y168 x5_1).f0, (rd_T70 y168 x5_1).f1, (rd_T70 y168 x5_1).f2, wrap64 ((wrap64 ((wrap64 (x1_1 + 1)) + 1)) + 1), (rd_T70 y168 x5_1).f4⟩ : S70) : List (S70))).bind fun y169 => (laws_markSessionS.l0 k1 (y169.set (x5_1 : Int).toNat (⟨(rd_T70 y169 x5_1).f0, (rd_T70 y169 x5_1).f1, (rd_T70 y169 x5_1).f2, (rd_T70 y169 x5_1).f3, wrap64 ((wrap64 ((wrap64 ((wrap64 (x1_1 + 1)) + 1)) + 1)) + 1)⟩ : S70)) (wrap64 ((wrap64 ((wrap64 ((wrap64 ((wrap64 (x1_1 + 1)) + 1)) + 1)) + 1)) + 1)) (wrap64 (x5_1 + 1)))) = some (r1, r2) := by first | (rw [hy168]; with_reducible exact H) | (have H2_ := (Option.bind_some _ _).symm.trans H; rw [hy168]; with_reducible exact H2_) | (have H2_ := (Option.bind_some _ _).symm.trans H; with_reducible exact H2_) | with_reducible exact H | (rw [hy168]; exact H) | exact H
     have Ny168 := Aside0.mk hy168
     clear hy168
     obtain ⟨y169, hy169⟩ : ∃ y_ : List (S70), y_ = (y168.set (x5_1 : Int).toNat (⟨(rd_T70 y168 x5_1).f0, (rd_T70 y168 x5_1).f1, (rd_T70 y168 x5_1).f2, wrap64 ((wrap64 ((wrap64 (x1_1 + 1)) + 1)) + 1), (rd_T70 y168 x5_1).f4⟩ : S70)) := ⟨_, rfl⟩
     replace H : (laws_markSessionS.l0 k1 (y169.set (x5_1 : Int).toNat (⟨(rd_T70 y169 x5_1).f0, (rd_T70 y169 x5_1).f1, (rd_T70 y169 x5_1).f2, (rd_T70 y169 x5_1).f3, wrap64 ((wrap64 ((wrap64 ((wrap64 (x1_1 + 1)) + 1)) + 1)) + 1)⟩ : S70)) (wrap64 ((wrap64 ((wrap64 ((wrap64 ((wrap64 (x1_1 + 1)) + 1)) + 1)) + 1)) + 1)) (wrap64 (x5_1 + 1))) = some (r1, r2) := by first | (rw [hy169]; with_reducible exact H) | (have H2_ := (Option.bind_some _ _).symm.trans H; rw [hy169]; with_reducible exact H2_) | (have H2_ := (Option.bind_some _ _).symm.trans H; with_reducible exact H2_) | with_reducible exact H | (rw [hy169]; exact H) | exact H
     have Ny169 := Aside0.mk hy169
     clear hy169
     obtain ⟨y170, hy170⟩ : ∃ y_ : List (S70), y_ = (y169.set (x5_1 : Int).toNat (⟨(rd_T70 y169 x5_1).f0, (rd_T70 y169 x5_1).f1, (rd_T70 y169 x5_1).f2, (rd_T70 y169 x5_1).f3, wrap64 ((wrap64 ((wrap64 ((wrap64 (x1_1 + 1)) + 1)) + 1)) + 1)⟩ : S70)) := ⟨_, rfl⟩
     replace H : (laws_markSessionS.l0 k1 y170 (wrap64 ((wrap64 ((wrap64 ((wrap64 ((wrap64 (x1_1 + 1)) + 1)) + 1)) + 1)) + 1)) (wrap64 (x5_1 + 1))) = some (r1, r2) := by first | (rw [hy170]; with_reducible exact H) | (have H2_ := (Option.bind_some _ _).symm.trans H; rw [hy170]; with_reducible exact H2_) | (have H2_ := (Option.bind_some _ _).symm.trans H; with_reducible exact H2_) | with_reducible exact H | (rw [hy170]; exact H) | exact H
     have Ny170 := Aside0.mk hy170
     clear hy170
     have H' := Aside0.mk H
     clear H
     obtain ⟨Ao10, co10, eo10⟩ := qo HO_0.out
     subst eo10
     have p5 : 0 ≤ (x5_1 : Int) := of_decide_eq_true (by first | (with_reducible assumption) | assumption)
     have q5 : (x5_1 : Int) < ((x0_1.length : Int) : Int) := of_decide_eq_true (by first | (with_reducible assumption) | assumption)
     obtain ⟨go5, co5, eo5, gb5, gl5, cl5, HG5⟩ := Kd.R_form HO_0.out (by omega)
     (first | cases eo5 | (injection eo5 with ea_ en_ ec_; (first | subst ea_ | (injection ea_ with ea_; subst ea_)); subst ec_; clear en_))
     have GB5 := Aside0.mk gb5
     have GG5 := Aside0.mk HG5
     clear gb5 gl5 HG5
     have HMgo5 := Aside0.mk (show (P0_ go5 ∨ w.heap.size ≤ go5) from (HO_0.out.1 _ rfl))
     obtain ⟨ce5, hcl5, hM5, hcc5, hfr5⟩ := Kd.R_elem HO_0.out z70 (x5_1 : Int) p5 q5
     obtain rfl := k70_openM hM5
     have hx5_0 : wr.cell? ⟨go5, (x5_1 : Int).toNat * 5, none⟩ = some (.int .i64 ((rd_T70 x0_1 x5_1).f0)) := hcc5 0 _ rfl
     have hx5_1 : wr.cell? ⟨go5, (x5_1 : Int).toNat * 5 + 1, none⟩ = some (.int .i64 ((rd_T70 x0_1 x5_1).f1)) := hcc5 1 _ rfl
     have hx5_2 : wr.cell? ⟨go5, (x5_1 : Int).toNat * 5 + 2, none⟩ = some (.int .i64 ((rd_T70 x0_1 x5_1).f2)) := hcc5 2 _ rfl
     have hx5_3 : wr.cell? ⟨go5, (x5_1 : Int).toNat * 5 + 3, none⟩ = some (.int .i64 ((rd_T70 x0_1 x5_1).f3)) := hcc5 3 _ rfl
     have hx5_4 : wr.cell? ⟨go5, (x5_1 : Int).toNat * 5 + 4, none⟩ = some (.int .i64 ((rd_T70 x0_1 x5_1).f4)) := hcc5 4 _ rfl
     have hf5_0 : wr.frozen? ⟨go5, (x5_1 : Int).toNat * 5, none⟩ = false := hfr5 0
     have hf5_1 : wr.frozen? ⟨go5, (x5_1 : Int).toNat * 5 + 1, none⟩ = false := hfr5 1
     have hf5_2 : wr.frozen? ⟨go5, (x5_1 : Int).toNat * 5 + 2, none⟩ = false := hfr5 2
     have hf5_3 : wr.frozen? ⟨go5, (x5_1 : Int).toNat * 5 + 3, none⟩ = false := hfr5 3
     have hf5_4 : wr.frozen? ⟨go5, (x5_1 : Int).toNat * 5 + 4, none⟩ = false := hfr5 4
     clear hcl5 hcc5 hfr5 hM5
     replace p5 := eq_true p5
     replace q5 := eq_true q5
     have HX11 := Aside0.mk (show Kd.R k70 70 wr w0.heap.size (fun k_ => (P0_ k_ ∨ w.heap.size ≤ k_)) (.slice (some ⟨go5, 0, none⟩) x0_1.length co10) x0_1 from (by (with_reducible repeat (first | apply qa | apply qb | apply qc)); exact HO_0.out))
     obtain ⟨ce11, hcl11, hM11, hcc11, hfr11⟩ := Kd.R_elem HX11.out z70 (x5_1 : Int) (of_decide_eq_true (by first | (with_reducible assumption) | assumption)) (by have h_ : (x5_1 : Int) < ((x0_1.length : Int) : Int) := of_decide_eq_true (by first | (with_reducible assumption) | assumption); first | exact h_ | (have e_ := (Kd.R_reads' HO_0.out).1; omega) | simpa using h_)
     obtain rfl := k70_openM hM11
     have HP11 := Kd.R_seg HX11.out (x5_1 : Int) (of_decide_eq_true (by first | (with_reducible assumption) | assumption)) (by have h_ : (x5_1 : Int) < ((x0_1.length : Int) : Int) := of_decide_eq_true (by first | (with_reducible assumption) | assumption); first | exact h_ | (have e_ := (Kd.R_reads' HO_0.out).1; omega) | simpa using h_) (seg := [.int .i64 x1_1]) (j := 0) hcl11 hcc11 (show 1 ≤ 5 from by decide) (x' := (⟨x1_1, (rd_T70 x0_1 x5_1).f1, (rd_T70 x0_1 x5_1).f2, (rd_T70 x0_1 x5_1).f3, (rd_T70 x0_1 x5_1).f4⟩ : S70)) (k70_mkM _ _ _ (⟨x1_1, (rd_T70 x0_1 x5_1).f1, (rd_T70 x0_1 x5_1).f2, (rd_T70 x0_1 x5_1).f3, (rd_T70 x0_1 x5_1).f4⟩ : S70) ) (fun _ hk => hk)
     have hx11_0 := hcc11 0 _ rfl
     (try simp only [show (k70).sz = 5 from rfl, Nat.mul_one, Nat.add_zero] at hx11_0)
     have hf11_0 := hfr11 0
     (try simp only [show (k70).sz = 5 from rfl, Nat.mul_one, Nat.add_zero] at hf11_0)
     clear hcl11 hcc11 hfr11 hM11
     go_wp2_with (first | ((with_reducible refine gate_store (t := 3) (p := 16) rfl ?_); refine store_event (t := 3) (p := 16) (v := ?vo_w12) (w1 := (wr.setCell ⟨go5, (x5_1 : Int).toNat * 5, none⟩ (.int .i64 x1_1))) ?hg ?ho ?hn ?hr ?_; (case ho => rfl); (case hg => rfl); (case hn => rfl); (case hr => first | (go_simp; done) | (go_simp; rfl)); intro w12 hw; have hg : wr.grownBy w12 (some go5) := (by rw [hw]; exact HP11.2); have hp_ : Kd.R k70 70 w12 w0.heap.size (fun k_ => (P0_ k_ ∨ w.heap.size ≤ k_)) (.slice (some ⟨go5, 0, none⟩) x0_1.length co10) y166 := (by rw [hw, Ny166.out]; exact HP11.1); clear HP11; have n0_ := Aside0.mk (hp_); have n1_ := Aside0.mk ((by rw [hw]; exact below_set (HB.out) GB5.out : Below w0.heap.size w0 w12)); have n2_ := Aside0.mk (Kept.of_grown (S := (fun k_ => P0_ k_)) hg (by repeat (first | (with_reducible first | exact HK.out | apply Kept.alloc | apply Kept.drewN | apply Kept.drew) | exact HK.out)) (fun k_ e_ => (HO_0.out.1 k_ e_))); clear HO_0; clear HB; clear HK; have HO_0 := n0_; have HB := n1_; have HK := n2_; clear n0_ n1_ n2_; clear hg hw hp_; have p6 : 0 ≤ (x5_1 : Int) := of_decide_eq_true (by first | (with_reducible assumption) | assumption); have q6 : (x5_1 : Int) < ((x0_1.length : Int) : Int) := of_decide_eq_true (by first | (with_reducible assumption) | assumption); obtain ⟨ce6, hcl6, hM6, hcc6, hfr6⟩ := Kd.R_elem HO_0.out z70 (x5_1 : Int) p6 q6; obtain rfl := k70_openM hM6; have hx6_0 : w12.cell? ⟨go5, (x5_1 : Int).toNat * 5, none⟩ = some (.int .i64 ((rd_T70 y166 x5_1).f0)) := hcc6 0 _ rfl; have hx6_1 : w12.cell? ⟨go5, (x5_1 : Int).toNat * 5 + 1, none⟩ = some (.int .i64 ((rd_T70 y166 x5_1).f1)) := hcc6 1 _ rfl; have hx6_2 : w12.cell? ⟨go5, (x5_1 : Int).toNat * 5 + 2, none⟩ = some (.int .i64 ((rd_T70 y166 x5_1).f2)) := hcc6 2 _ rfl; have hx6_3 : w12.cell? ⟨go5, (x5_1 : Int).toNat * 5 + 3, none⟩ = some (.int .i64 ((rd_T70 y166 x5_1).f3)) := hcc6 3 _ rfl; have hx6_4 : w12.cell? ⟨go5, (x5_1 : Int).toNat * 5 + 4, none⟩ = some (.int .i64 ((rd_T70 y166 x5_1).f4)) := hcc6 4 _ rfl; have hf6_0 : w12.frozen? ⟨go5, (x5_1 : Int).toNat * 5, none⟩ = false := hfr6 0; have hf6_1 : w12.frozen? ⟨go5, (x5_1 : Int).toNat * 5 + 1, none⟩ = false := hfr6 1; have hf6_2 : w12.frozen? ⟨go5, (x5_1 : Int).toNat * 5 + 2, none⟩ = false := hfr6 2; have hf6_3 : w12.frozen? ⟨go5, (x5_1 : Int).toNat * 5 + 3, none⟩ = false := hfr6 3; have hf6_4 : w12.frozen? ⟨go5, (x5_1 : Int).toNat * 5 + 4, none⟩ = false := hfr6 4; clear hcl6 hcc6 hfr6 hM6; replace p6 := eq_true p6; replace q6 := eq_true q6; have HX13 := Aside0.mk (show Kd.R k70 70 w12 w0.heap.size (fun k_ => (P0_ k_ ∨ w.heap.size ≤ k_)) (.slice (some ⟨go5, 0, none⟩) x0_1.length co10) y166 from (by (with_reducible repeat (first | apply qa | apply qb | apply qc)); exact HO_0.out)); obtain ⟨ce13, hcl13, hM13, hcc13, hfr13⟩ := Kd.R_elem HX13.out z70 (x5_1 : Int) (of_decide_eq_true (by first | (with_reducible assumption) | assumption)) (by have h_ : (x5_1 : Int) < ((x0_1.length : Int) : Int) := of_decide_eq_true (by first | (with_reducible assumption) | assumption); first | exact h_ | (have e_ := (Kd.R_reads' HO_0.out).1; omega) | simpa using h_); obtain rfl := k70_openM hM13; have HP13 := Kd.R_seg HX13.out (x5_1 : Int) (of_decide_eq_true (by first | (with_reducible assumption) | assumption)) (by have h_ : (x5_1 : Int) < ((x0_1.length : Int) : Int) := of_decide_eq_true (by first | (with_reducible assumption) | assumption); first | exact h_ | (have e_ := (Kd.R_reads' HO_0.out).1; omega) | simpa using h_) (seg := [.int .i64 (wrap64 (x1_1 + 1))]) (j := 1) hcl13 hcc13 (show 2 ≤ 5 from by decide) (x' := (⟨(rd_T70 y166 x5_1).f0, wrap64 (x1_1 + 1), (rd_T70 y166 x5_1).f2, (rd_T70 y166 x5_1).f3, (rd_T70 y166 x5_1).f4⟩ : S70)) (k70_mkM _ _ _ (⟨(rd_T70 y166 x5_1).f0, wrap64 (x1_1 + 1), (rd_T70 y166 x5_1).f2, (rd_T70 y166 x5_1).f3, (rd_T70 y166 x5_1).f4⟩ : S70) ) (fun _ hk => hk); have hx13_1 := hcc13 1 _ rfl; (try simp only [show (k70).sz = 5 from rfl, Nat.mul_one, Nat.add_zero] at hx13_1); have hf13_1 := hfr13 1; (try simp only [show (k70).sz = 5 from rfl, Nat.mul_one, Nat.add_zero] at hf13_1); clear hcl13 hcc13 hfr13 hM13) | ((with_reducible refine gate_store (t := 3) (p := 23) rfl ?_); refine store_event (t := 3) (p := 23) (v := ?vo_w14) (w1 := (w12.setCell ⟨go5, (x5_1 : Int).toNat * 5 + 1, none⟩ (.int .i64 (wrap64 (x1_1 + 1))))) ?hg ?ho ?hn ?hr ?_; (case ho => rfl); (case hg => rfl); (case hn => rfl); (case hr => first | (go_simp; done) | (go_simp; rfl)); intro w14 hw; have hg : w12.grownBy w14 (some go5) := (by rw [hw]; exact HP13.2); have hp_ : Kd.R k70 70 w14 w0.heap.size (fun k_ => (P0_ k_ ∨ w.heap.size ≤ k_)) (.slice (some ⟨go5, 0, none⟩) x0_1.length co10) y167 := (by rw [hw, Ny167.out]; exact HP13.1); clear HP13; have n0_ := Aside0.mk (hp_); have n1_ := Aside0.mk ((by rw [hw]; exact below_set (HB.out) GB5.out : Below w0.heap.size w0 w14)); have n2_ := Aside0.mk (Kept.of_grown (S := (fun k_ => P0_ k_)) hg (by repeat (first | (with_reducible first | exact HK.out | apply Kept.alloc | apply Kept.drewN | apply Kept.drew) | exact HK.out)) (fun k_ e_ => (HO_0.out.1 k_ e_))); clear HO_0; clear HB; clear HK; have HO_0 := n0_; have HB := n1_; have HK := n2_; clear n0_ n1_ n2_; clear hg hw hp_; have p7 : 0 ≤ (x5_1 : Int) := of_decide_eq_true (by first | (with_reducible assumption) | assumption); have q7 : (x5_1 : Int) < ((x0_1.length : Int) : Int) := of_decide_eq_true (by first | (with_reducible assumption) | assumption); obtain ⟨ce7, hcl7, hM7, hcc7, hfr7⟩ := Kd.R_elem HO_0.out z70 (x5_1 : Int) p7 q7; obtain rfl := k70_openM hM7; have hx7_0 : w14.cell? ⟨go5, (x5_1 : Int).toNat * 5, none⟩ = some (.int .i64 ((rd_T70 y167 x5_1).f0)) := hcc7 0 _ rfl; have hx7_1 : w14.cell? ⟨go5, (x5_1 : Int).toNat * 5 + 1, none⟩ = some (.int .i64 ((rd_T70 y167 x5_1).f1)) := hcc7 1 _ rfl; have hx7_2 : w14.cell? ⟨go5, (x5_1 : Int).toNat * 5 + 2, none⟩ = some (.int .i64 ((rd_T70 y167 x5_1).f2)) := hcc7 2 _ rfl; have hx7_3 : w14.cell? ⟨go5, (x5_1 : Int).toNat * 5 + 3, none⟩ = some (.int .i64 ((rd_T70 y167 x5_1).f3)) := hcc7 3 _ rfl; have hx7_4 : w14.cell? ⟨go5, (x5_1 : Int).toNat * 5 + 4, none⟩ = some (.int .i64 ((rd_T70 y167 x5_1).f4)) := hcc7 4 _ rfl; have hf7_0 : w14.frozen? ⟨go5, (x5_1 : Int).toNat * 5, none⟩ = false := hfr7 0; have hf7_1 : w14.frozen? ⟨go5, (x5_1 : Int).toNat * 5 + 1, none⟩ = false := hfr7 1; have hf7_2 : w14.frozen? ⟨go5, (x5_1 : Int).toNat * 5 + 2, none⟩ = false := hfr7 2; have hf7_3 : w14.frozen? ⟨go5, (x5_1 : Int).toNat * 5 + 3, none⟩ = false := hfr7 3; have hf7_4 : w14.frozen? ⟨go5, (x5_1 : Int).toNat * 5 + 4, none⟩ = false := hfr7 4; clear hcl7 hcc7 hfr7 hM7; replace p7 := eq_true p7; replace q7 := eq_true q7; have HX15 := Aside0.mk (show Kd.R k70 70 w14 w0.heap.size (fun k_ => (P0_ k_ ∨ w.heap.size ≤ k_)) (.slice (some ⟨go5, 0, none⟩) x0_1.length co10) y167 from (by (with_reducible repeat (first | apply qa | apply qb | apply qc)); exact HO_0.out)); obtain ⟨ce15, hcl15, hM15, hcc15, hfr15⟩ := Kd.R_elem HX15.out z70 (x5_1 : Int) (of_decide_eq_true (by first | (with_reducible assumption) | assumption)) (by have h_ : (x5_1 : Int) < ((x0_1.length : Int) : Int) := of_decide_eq_true (by first | (with_reducible assumption) | assumption); first | exact h_ | (have e_ := (Kd.R_reads' HO_0.out).1; omega) | simpa using h_); obtain rfl := k70_openM hM15; have HP15 := Kd.R_seg HX15.out (x5_1 : Int) (of_decide_eq_true (by first | (with_reducible assumption) | assumption)) (by have h_ : (x5_1 : Int) < ((x0_1.length : Int) : Int) := of_decide_eq_true (by first | (with_reducible assumption) | assumption); first | exact h_ | (have e_ := (Kd.R_reads' HO_0.out).1; omega) | simpa using h_) (seg := [.int .i64 (wrap64 ((wrap64 (x1_1 + 1)) + 1))]) (j := 2) hcl15 hcc15 (show 3 ≤ 5 from by decide) (x' := (⟨(rd_T70 y167 x5_1).f0, (rd_T70 y167 x5_1).f1, wrap64 ((wrap64 (x1_1 + 1)) + 1), (rd_T70 y167 x5_1).f3, (rd_T70 y167 x5_1).f4⟩ : S70)) (k70_mkM _ _ _ (⟨(rd_T70 y167 x5_1).f0, (rd_T70 y167 x5_1).f1, wrap64 ((wrap64 (x1_1 + 1)) + 1), (rd_T70 y167 x5_1).f3, (rd_T70 y167 x5_1).f4⟩ : S70) ) (fun _ hk => hk); have hx15_2 := hcc15 2 _ rfl; (try simp only [show (k70).sz = 5 from rfl, Nat.mul_one, Nat.add_zero] at hx15_2); have hf15_2 := hfr15 2; (try simp only [show (k70).sz = 5 from rfl, Nat.mul_one, Nat.add_zero] at hf15_2); clear hcl15 hcc15 hfr15 hM15) | ((with_reducible refine gate_store (t := 3) (p := 30) rfl ?_); refine store_event (t := 3) (p := 30) (v := ?vo_w16) (w1 := (w14.setCell ⟨go5, (x5_1 : Int).toNat * 5 + 2, none⟩ (.int .i64 (wrap64 ((wrap64 (x1_1 + 1)) + 1))))) ?hg ?ho ?hn ?hr ?_; (case ho => rfl); (case hg => rfl); (case hn => rfl); (case hr => first | (go_simp; done) | (go_simp; rfl)); intro w16 hw; have hg : w14.grownBy w16 (some go5) := (by rw [hw]; exact HP15.2); have hp_ : Kd.R k70 70 w16 w0.heap.size (fun k_ => (P0_ k_ ∨ w.heap.size ≤ k_)) (.slice (some ⟨go5, 0, none⟩) x0_1.length co10) y168 := (by rw [hw, Ny168.out]; exact HP15.1); clear HP15; have n0_ := Aside0.mk (hp_); have n1_ := Aside0.mk ((by rw [hw]; exact below_set (HB.out) GB5.out : Below w0.heap.size w0 w16)); have n2_ := Aside0.mk (Kept.of_grown (S := (fun k_ => P0_ k_)) hg (by repeat (first | (with_reducible first | exact HK.out | apply Kept.alloc | apply Kept.drewN | apply Kept.drew) | exact HK.out)) (fun k_ e_ => (HO_0.out.1 k_ e_))); clear HO_0; clear HB; clear HK; have HO_0 := n0_; have HB := n1_; have HK := n2_; clear n0_ n1_ n2_; clear hg hw hp_; have p8 : 0 ≤ (x5_1 : Int) := of_decide_eq_true (by first | (with_reducible assumption) | assumption); have q8 : (x5_1 : Int) < ((x0_1.length : Int) : Int) := of_decide_eq_true (by first | (with_reducible assumption) | assumption); obtain ⟨ce8, hcl8, hM8, hcc8, hfr8⟩ := Kd.R_elem HO_0.out z70 (x5_1 : Int) p8 q8; obtain rfl := k70_openM hM8; have hx8_0 : w16.cell? ⟨go5, (x5_1 : Int).toNat * 5, none⟩ = some (.int .i64 ((rd_T70 y168 x5_1).f0)) := hcc8 0 _ rfl; have hx8_1 : w16.cell? ⟨go5, (x5_1 : Int).toNat * 5 + 1, none⟩ = some (.int .i64 ((rd_T70 y168 x5_1).f1)) := hcc8 1 _ rfl; have hx8_2 : w16.cell? ⟨go5, (x5_1 : Int).toNat * 5 + 2, none⟩ = some (.int .i64 ((rd_T70 y168 x5_1).f2)) := hcc8 2 _ rfl; have hx8_3 : w16.cell? ⟨go5, (x5_1 : Int).toNat * 5 + 3, none⟩ = some (.int .i64 ((rd_T70 y168 x5_1).f3)) := hcc8 3 _ rfl; have hx8_4 : w16.cell? ⟨go5, (x5_1 : Int).toNat * 5 + 4, none⟩ = some (.int .i64 ((rd_T70 y168 x5_1).f4)) := hcc8 4 _ rfl; have hf8_0 : w16.frozen? ⟨go5, (x5_1 : Int).toNat * 5, none⟩ = false := hfr8 0; have hf8_1 : w16.frozen? ⟨go5, (x5_1 : Int).toNat * 5 + 1, none⟩ = false := hfr8 1; have hf8_2 : w16.frozen? ⟨go5, (x5_1 : Int).toNat * 5 + 2, none⟩ = false := hfr8 2; have hf8_3 : w16.frozen? ⟨go5, (x5_1 : Int).toNat * 5 + 3, none⟩ = false := hfr8 3; have hf8_4 : w16.frozen? ⟨go5, (x5_1 : Int).toNat * 5 + 4, none⟩ = false := hfr8 4; clear hcl8 hcc8 hfr8 hM8; replace p8 := eq_true p8; replace q8 := eq_true q8; have HX17 := Aside0.mk (show Kd.R k70 70 w16 w0.heap.size (fun k_ => (P0_ k_ ∨ w.heap.size ≤ k_)) (.slice (some ⟨go5, 0, none⟩) x0_1.length co10) y168 from (by (with_reducible repeat (first | apply qa | apply qb | apply qc)); exact HO_0.out)); obtain ⟨ce17, hcl17, hM17, hcc17, hfr17⟩ := Kd.R_elem HX17.out z70 (x5_1 : Int) (of_decide_eq_true (by first | (with_reducible assumption) | assumption)) (by have h_ : (x5_1 : Int) < ((x0_1.length : Int) : Int) := of_decide_eq_true (by first | (with_reducible assumption) | assumption); first | exact h_ | (have e_ := (Kd.R_reads' HO_0.out).1; omega) | simpa using h_); obtain rfl := k70_openM hM17; have HP17 := Kd.R_seg HX17.out (x5_1 : Int) (of_decide_eq_true (by first | (with_reducible assumption) | assumption)) (by have h_ : (x5_1 : Int) < ((x0_1.length : Int) : Int) := of_decide_eq_true (by first | (with_reducible assumption) | assumption); first | exact h_ | (have e_ := (Kd.R_reads' HO_0.out).1; omega) | simpa using h_) (seg := [.int .i64 (wrap64 ((wrap64 ((wrap64 (x1_1 + 1)) + 1)) + 1))]) (j := 3) hcl17 hcc17 (show 4 ≤ 5 from by decide) (x' := (⟨(rd_T70 y168 x5_1).f0, (rd_T70 y168 x5_1).f1, (rd_T70 y168 x5_1).f2, wrap64 ((wrap64 ((wrap64 (x1_1 + 1)) + 1)) + 1), (rd_T70 y168 x5_1).f4⟩ : S70)) (k70_mkM _ _ _ (⟨(rd_T70 y168 x5_1).f0, (rd_T70 y168 x5_1).f1, (rd_T70 y168 x5_1).f2, wrap64 ((wrap64 ((wrap64 (x1_1 + 1)) + 1)) + 1), (rd_T70 y168 x5_1).f4⟩ : S70) ) (fun _ hk => hk); have hx17_3 := hcc17 3 _ rfl; (try simp only [show (k70).sz = 5 from rfl, Nat.mul_one, Nat.add_zero] at hx17_3); have hf17_3 := hfr17 3; (try simp only [show (k70).sz = 5 from rfl, Nat.mul_one, Nat.add_zero] at hf17_3); clear hcl17 hcc17 hfr17 hM17) | ((with_reducible refine gate_store (t := 3) (p := 37) rfl ?_); refine store_event (t := 3) (p := 37) (v := ?vo_w18) (w1 := (w16.setCell ⟨go5, (x5_1 : Int).toNat * 5 + 3, none⟩ (.int .i64 (wrap64 ((wrap64 ((wrap64 (x1_1 + 1)) + 1)) + 1))))) ?hg ?ho ?hn ?hr ?_; (case ho => rfl); (case hg => rfl); (case hn => rfl); (case hr => first | (go_simp; done) | (go_simp; rfl)); intro w18 hw; have hg : w16.grownBy w18 (some go5) := (by rw [hw]; exact HP17.2); have hp_ : Kd.R k70 70 w18 w0.heap.size (fun k_ => (P0_ k_ ∨ w.heap.size ≤ k_)) (.slice (some ⟨go5, 0, none⟩) x0_1.length co10) y169 := (by rw [hw, Ny169.out]; exact HP17.1); clear HP17; have n0_ := Aside0.mk (hp_); have n1_ := Aside0.mk ((by rw [hw]; exact below_set (HB.out) GB5.out : Below w0.heap.size w0 w18)); have n2_ := Aside0.mk (Kept.of_grown (S := (fun k_ => P0_ k_)) hg (by repeat (first | (with_reducible first | exact HK.out | apply Kept.alloc | apply Kept.drewN | apply Kept.drew) | exact HK.out)) (fun k_ e_ => (HO_0.out.1 k_ e_))); clear HO_0; clear HB; clear HK; have HO_0 := n0_; have HB := n1_; have HK := n2_; clear n0_ n1_ n2_; clear hg hw hp_; have p9 : 0 ≤ (x5_1 : Int) := of_decide_eq_true (by first | (with_reducible assumption) | assumption); have q9 : (x5_1 : Int) < ((x0_1.length : Int) : Int) := of_decide_eq_true (by first | (with_reducible assumption) | assumption); obtain ⟨ce9, hcl9, hM9, hcc9, hfr9⟩ := Kd.R_elem HO_0.out z70 (x5_1 : Int) p9 q9; obtain rfl := k70_openM hM9; have hx9_0 : w18.cell? ⟨go5, (x5_1 : Int).toNat * 5, none⟩ = some (.int .i64 ((rd_T70 y169 x5_1).f0)) := hcc9 0 _ rfl; have hx9_1 : w18.cell? ⟨go5, (x5_1 : Int).toNat * 5 + 1, none⟩ = some (.int .i64 ((rd_T70 y169 x5_1).f1)) := hcc9 1 _ rfl; have hx9_2 : w18.cell? ⟨go5, (x5_1 : Int).toNat * 5 + 2, none⟩ = some (.int .i64 ((rd_T70 y169 x5_1).f2)) := hcc9 2 _ rfl; have hx9_3 : w18.cell? ⟨go5, (x5_1 : Int).toNat * 5 + 3, none⟩ = some (.int .i64 ((rd_T70 y169 x5_1).f3)) := hcc9 3 _ rfl; have hx9_4 : w18.cell? ⟨go5, (x5_1 : Int).toNat * 5 + 4, none⟩ = some (.int .i64 ((rd_T70 y169 x5_1).f4)) := hcc9 4 _ rfl; have hf9_0 : w18.frozen? ⟨go5, (x5_1 : Int).toNat * 5, none⟩ = false := hfr9 0; have hf9_1 : w18.frozen? ⟨go5, (x5_1 : Int).toNat * 5 + 1, none⟩ = false := hfr9 1; have hf9_2 : w18.frozen? ⟨go5, (x5_1 : Int).toNat * 5 + 2, none⟩ = false := hfr9 2; have hf9_3 : w18.frozen? ⟨go5, (x5_1 : Int).toNat * 5 + 3, none⟩ = false := hfr9 3; have hf9_4 : w18.frozen? ⟨go5, (x5_1 : Int).toNat * 5 + 4, none⟩ = false := hfr9 4; clear hcl9 hcc9 hfr9 hM9; replace p9 := eq_true p9; replace q9 := eq_true q9; have HX19 := Aside0.mk (show Kd.R k70 70 w18 w0.heap.size (fun k_ => (P0_ k_ ∨ w.heap.size ≤ k_)) (.slice (some ⟨go5, 0, none⟩) x0_1.length co10) y169 from (by (with_reducible repeat (first | apply qa | apply qb | apply qc)); exact HO_0.out)); obtain ⟨ce19, hcl19, hM19, hcc19, hfr19⟩ := Kd.R_elem HX19.out z70 (x5_1 : Int) (of_decide_eq_true (by first | (with_reducible assumption) | assumption)) (by have h_ : (x5_1 : Int) < ((x0_1.length : Int) : Int) := of_decide_eq_true (by first | (with_reducible assumption) | assumption); first | exact h_ | (have e_ := (Kd.R_reads' HO_0.out).1; omega) | simpa using h_); obtain rfl := k70_openM hM19; have HP19 := Kd.R_seg HX19.out (x5_1 : Int) (of_decide_eq_true (by first | (with_reducible assumption) | assumption)) (by have h_ : (x5_1 : Int) < ((x0_1.length : Int) : Int) := of_decide_eq_true (by first | (with_reducible assumption) | assumption); first | exact h_ | (have e_ := (Kd.R_reads' HO_0.out).1; omega) | simpa using h_) (seg := [.int .i64 (wrap64 ((wrap64 ((wrap64 ((wrap64 (x1_1 + 1)) + 1)) + 1)) + 1))]) (j := 4) hcl19 hcc19 (show 5 ≤ 5 from by decide) (x' := (⟨(rd_T70 y169 x5_1).f0, (rd_T70 y169 x5_1).f1, (rd_T70 y169 x5_1).f2, (rd_T70 y169 x5_1).f3, wrap64 ((wrap64 ((wrap64 ((wrap64 (x1_1 + 1)) + 1)) + 1)) + 1)⟩ : S70)) (k70_mkM _ _ _ (⟨(rd_T70 y169 x5_1).f0, (rd_T70 y169 x5_1).f1, (rd_T70 y169 x5_1).f2, (rd_T70 y169 x5_1).f3, wrap64 ((wrap64 ((wrap64 ((wrap64 (x1_1 + 1)) + 1)) + 1)) + 1)⟩ : S70) ) (fun _ hk => hk); have hx19_4 := hcc19 4 _ rfl; (try simp only [show (k70).sz = 5 from rfl, Nat.mul_one, Nat.add_zero] at hx19_4); have hf19_4 := hfr19 4; (try simp only [show (k70).sz = 5 from rfl, Nat.mul_one, Nat.add_zero] at hf19_4); clear hcl19 hcc19 hfr19 hM19) | ((with_reducible refine gate_store (t := 3) (p := 44) rfl ?_); refine store_event (t := 3) (p := 44) (v := ?vo_w20) (w1 := (w18.setCell ⟨go5, (x5_1 : Int).toNat * 5 + 4, none⟩ (.int .i64 (wrap64 ((wrap64 ((wrap64 ((wrap64 (x1_1 + 1)) + 1)) + 1)) + 1))))) ?hg ?ho ?hn ?hr ?_; (case ho => rfl); (case hg => rfl); (case hn => rfl); (case hr => first | (go_simp; done) | (go_simp; rfl)); intro w20 hw; have hg : w18.grownBy w20 (some go5) := (by rw [hw]; exact HP19.2); have hp_ : Kd.R k70 70 w20 w0.heap.size (fun k_ => (P0_ k_ ∨ w.heap.size ≤ k_)) (.slice (some ⟨go5, 0, none⟩) x0_1.length co10) y170 := (by rw [hw, Ny170.out]; exact HP19.1); clear HP19; have n0_ := Aside0.mk (hp_); have n1_ := Aside0.mk ((by rw [hw]; exact below_set (HB.out) GB5.out : Below w0.heap.size w0 w20)); have n2_ := Aside0.mk (Kept.of_grown (S := (fun k_ => P0_ k_)) hg (by repeat (first | (with_reducible first | exact HK.out | apply Kept.alloc | apply Kept.drewN | apply Kept.drew) | exact HK.out)) (fun k_ e_ => (HO_0.out.1 k_ e_))); clear HO_0; clear HB; clear HK; have HO_0 := n0_; have HB := n1_; have HK := n2_; clear n0_ n1_ n2_; clear hg hw hp_))
     go_roundg k1
     case measure => have := HK1.out; omega
     case rel => exact ⟨(y170), (wrap64 ((wrap64 ((wrap64 ((wrap64 ((wrap64 (x1_1 + 1)) + 1)) + 1)) + 1)) + 1)), (wrap64 (x5_1 + 1)), (by first | rfl | (simp; done) | (simp [*]; done)), (by first | rfl | (simp; done) | (simp [*]; done)), H', ⟨by have := HK1.out; omega⟩, ⟨by (with_reducible repeat (first | apply qa | apply qb | apply qc)); exact HO_0.out⟩, ⟨by repeat (first | (with_reducible first | exact HK.out | apply Kept.alloc | apply Kept.drewN | apply Kept.drew) | exact HK.out)⟩, ⟨by repeat (first | (with_reducible first | exact HB.out | apply qe | apply qd | apply qf) | exact HB.out)⟩⟩
    ·
     rw [if_neg c4] at H
     exact absurd H (by simp)
   ·
    rw [if_neg c3] at H
    have c3b0 : decide (x5_1 < (x0_1.length : Int)) = false := decide_eq_false c3
    clear c3
    simp only [Option.some.injEq, Prod.mk.injEq] at H
    obtain ⟨rfl, rfl⟩ := H
    obtain ⟨Ao21, co21, eo21⟩ := qo HO_0.out
    subst eo21
    go_wp2
    go_ret
    exact ⟨by first | rfl | (simp [errW_none, errW_some] <;> rfl) | (simp [*, errW_none, errW_some] <;> rfl), by (with_reducible repeat (first | apply qa | apply qb | apply qc)); exact HO_0.out, by repeat (first | (with_reducible first | exact HB.out | apply qe | apply qd | apply qf) | exact HB.out), by repeat (first | (with_reducible first | exact HK.out | apply Kept.alloc | apply Kept.drewN | apply Kept.drew) | exact HK.out)⟩

/-! ### laws_heldSessionS: function 16 -/
def laws_heldSessionS.l0 : Nat → List (S70) → Int → Int → Option (Int)
 | 0, _, _, _ => none
 | k + 1, x0, x1, x5 => if x5 < (x0.length : Int) then (if 0 ≤ x5 then (if ((rd_T70 x0 x5).f0) = x1 then (if ((rd_T70 x0 x5).f1) = (wrap64 (x1 + 1)) then (if ((rd_T70 x0 x5).f2) = (wrap64 ((wrap64 (x1 + 1)) + 1)) then (if ((rd_T70 x0 x5).f3) = (wrap64 ((wrap64 ((wrap64 (x1 + 1)) + 1)) + 1)) then (if ((rd_T70 x0 x5).f4) = (wrap64 ((wrap64 ((wrap64 ((wrap64 (x1 + 1)) + 1)) + 1)) + 1)) then (laws_heldSessionS.l0 k x0 (wrap64 ((wrap64 ((wrap64 ((wrap64 ((wrap64 (x1 + 1)) + 1)) + 1)) + 1)) + 1)) (wrap64 (x5 + 1))) else (some (-1))) else (some (-1))) else (some (-1))) else (some (-1))) else (some (-1))) else (none)) else (some x1)
def laws_heldSessionS.f (k : Nat) (l0 : List (S70)) (a1 : Int) : Option (Int) := laws_heldSessionS.l0 k l0 a1 0
theorem laws_heldSessionS.mono_l : ∀ k, (∀ y0 y1 y2, LeO (laws_heldSessionS.l0 k y0 y1 y2) (laws_heldSessionS.l0 (k + 1) y0 y1 y2))
 | 0 => fun _ _ _ r h => by simp [laws_heldSessionS.l0] at h
 | k + 1 => by
  have ih0 := laws_heldSessionS.mono_l k
  ·
   intro y0 y1 y2
   unfold laws_heldSessionS.l0
   repeat' first
   | (with_reducible exact ih0 _ _ _)
   | (with_reducible exact LeO.refl _)
   | (with_reducible exact LeO.none _)
   | (with_reducible refine LeO.ite ?_ ?_)
   | (with_reducible refine LeO.bind ?_ (fun _ => ?_))
   | exact ih0 _ _ _
   | exact LeO.none _
   | refine LeO.ite ?_ ?_
   | refine LeO.bind ?_ (fun _ => ?_)
theorem laws_heldSessionS.mono : ∀ a0 a1 k, LeO (laws_heldSessionS.f k a0 a1) (laws_heldSessionS.f (k + 1) a0 a1) := by
 intro a0 a1 k
 have ih0 := laws_heldSessionS.mono_l k
 unfold laws_heldSessionS.f
 repeat' first
   | (with_reducible exact ih0 _ _ _)
   | (with_reducible exact LeO.refl _)
   | (with_reducible exact LeO.none _)
   | (with_reducible refine LeO.ite ?_ ?_)
   | (with_reducible refine LeO.bind ?_ (fun _ => ?_))
   | exact ih0 _ _ _
   | exact LeO.none _
   | refine LeO.ite ?_ ?_
   | refine LeO.bind ?_ (fun _ => ?_)
set_option maxHeartbeats 8000000 in
set_option maxRecDepth 100000 in
theorem laws_heldSessionS.calls (k : Nat) (A0 : Option Addr) (c0 : Nat) (l0 : List (S70)) (a1 : Int) (r : Int) (w : World) (hr0 : Kd.C k70 w A0 l0.length l0) (hc0 : l0.length ≤ c0) (h : laws_heldSessionS.f k l0 a1 = some r) :
  Calls Try.prog 16 #[.slice A0 l0.length c0, .int .i64 a1] w fun e w' => e = .returned (.int .i64 r) ∧ Drawn0 w w' := by
 have HR0 := Aside0.mk hr0
 have HC0 := Aside0.mk hc0
 clear hr0 hc0
 have H : (laws_heldSessionS.l0 k l0 a1 0) = some r := h
 clear h
 have H' := Aside0.mk H
 clear H
 go_enter Try.func16, Try.ntmps16
 go_wp2
 go_loopg [1, 5] k (fun kq v1 v5 w' => ∃ (x1_1 : Int) (x5_1 : Int), v1 = .int .i64 x1_1 ∧ v5 = .int .i64 x5_1 ∧ Aside0 (laws_heldSessionS.l0 kq l0 x1_1 x5_1 = some r) ∧ Aside0 (kq ≤ k) ∧ Drawn0 w w')
 case atStart => exact ⟨(a1), (0), (by first | rfl | (simp; done) | (simp [*]; done)), (by first | rfl | (simp; done) | (simp [*]; done)), H', ⟨Nat.le_refl _⟩, by repeat (first | exact Drawn0.refl _ | apply Drawn0.step)⟩
 case round =>
  clear H'
  try clear c1
  try clear p2
  obtain ⟨x1_1, x5_1, rfl, rfl, HA, HK1, ⟨m1, rfl⟩⟩ := hrel
  cases gk with
  | zero => exact absurd HA.out (by simp [laws_heldSessionS.l0])
  | succ k1 =>
   have H := HA.out
   clear HA
   simp only [laws_heldSessionS.l0] at H
   by_cases c3 : x5_1 < (l0.length : Int)
   ·
    rw [if_pos c3] at H
    have c3b0 : decide (x5_1 < (l0.length : Int)) = true := decide_eq_true c3
    clear c3
    by_cases c4 : 0 ≤ x5_1
    ·
     rw [if_pos c4] at H
     have c4b0 : decide (0 ≤ x5_1) = true := decide_eq_true c4
     clear c4
     by_cases c5 : ((rd_T70 l0 x5_1).f0) = x1_1
     ·
      rw [if_pos c5] at H
      have c5b0 : (((rd_T70 l0 x5_1).f0) == x1_1) = true := beq_iff_eq.mpr c5
      have c5b1 : (((rd_T70 l0 x5_1).f0) != x1_1) = false := bne_eq_false_iff_eq.mpr c5
      clear c5
      by_cases c6 : ((rd_T70 l0 x5_1).f1) = (wrap64 (x1_1 + 1))
      ·
       rw [if_pos c6] at H
       have c6b0 : (((rd_T70 l0 x5_1).f1) == (wrap64 (x1_1 + 1))) = true := beq_iff_eq.mpr c6
       have c6b1 : (((rd_T70 l0 x5_1).f1) != (wrap64 (x1_1 + 1))) = false := bne_eq_false_iff_eq.mpr c6
       clear c6
       by_cases c7 : ((rd_T70 l0 x5_1).f2) = (wrap64 ((wrap64 (x1_1 + 1)) + 1))
       ·
        rw [if_pos c7] at H
        have c7b0 : (((rd_T70 l0 x5_1).f2) == (wrap64 ((wrap64 (x1_1 + 1)) + 1))) = true := beq_iff_eq.mpr c7
        have c7b1 : (((rd_T70 l0 x5_1).f2) != (wrap64 ((wrap64 (x1_1 + 1)) + 1))) = false := bne_eq_false_iff_eq.mpr c7
        clear c7
        by_cases c8 : ((rd_T70 l0 x5_1).f3) = (wrap64 ((wrap64 ((wrap64 (x1_1 + 1)) + 1)) + 1))
        ·
         rw [if_pos c8] at H
         have c8b0 : (((rd_T70 l0 x5_1).f3) == (wrap64 ((wrap64 ((wrap64 (x1_1 + 1)) + 1)) + 1))) = true := beq_iff_eq.mpr c8
         have c8b1 : (((rd_T70 l0 x5_1).f3) != (wrap64 ((wrap64 ((wrap64 (x1_1 + 1)) + 1)) + 1))) = false := bne_eq_false_iff_eq.mpr c8
         clear c8
         by_cases c9 : ((rd_T70 l0 x5_1).f4) = (wrap64 ((wrap64 ((wrap64 ((wrap64 (x1_1 + 1)) + 1)) + 1)) + 1))
         ·
          rw [if_pos c9] at H
          have c9b0 : (((rd_T70 l0 x5_1).f4) == (wrap64 ((wrap64 ((wrap64 ((wrap64 (x1_1 + 1)) + 1)) + 1)) + 1))) = true := beq_iff_eq.mpr c9
          have c9b1 : (((rd_T70 l0 x5_1).f4) != (wrap64 ((wrap64 ((wrap64 ((wrap64 (x1_1 + 1)) + 1)) + 1)) + 1))) = false := bne_eq_false_iff_eq.mpr c9
          clear c9
          have H' := Aside0.mk H
          clear H
          have p171 : 0 ≤ (x5_1 : Int) := of_decide_eq_true (by first | (with_reducible assumption) | assumption)
          have q171 : x5_1 < (l0.length : Int) := of_decide_eq_true (by first | (with_reducible assumption) | assumption)
          obtain ⟨ad171, e171, hx171_0, hx171_1, hx171_2, hx171_3, hx171_4⟩ := at_T70 HR0.out x5_1 p171 q171
          cases e171
          replace p171 := eq_true p171
          replace q171 := eq_true q171
          have p172 : 0 ≤ (x5_1 : Int) := of_decide_eq_true (by first | (with_reducible assumption) | assumption)
          have q172 : x5_1 < (l0.length : Int) := of_decide_eq_true (by first | (with_reducible assumption) | assumption)
          obtain ⟨ad172, e172, hx172_0, hx172_1, hx172_2, hx172_3, hx172_4⟩ := at_T70 HR0.out x5_1 p172 q172
          obtain rfl : ad171 = ad172 := (by injection e172)
          replace p172 := eq_true p172
          replace q172 := eq_true q172
          have p173 : 0 ≤ (x5_1 : Int) := of_decide_eq_true (by first | (with_reducible assumption) | assumption)
          have q173 : x5_1 < (l0.length : Int) := of_decide_eq_true (by first | (with_reducible assumption) | assumption)
          obtain ⟨ad173, e173, hx173_0, hx173_1, hx173_2, hx173_3, hx173_4⟩ := at_T70 HR0.out x5_1 p173 q173
          obtain rfl : ad171 = ad173 := (by injection e173)
          replace p173 := eq_true p173
          replace q173 := eq_true q173
          have p174 : 0 ≤ (x5_1 : Int) := of_decide_eq_true (by first | (with_reducible assumption) | assumption)
          have q174 : x5_1 < (l0.length : Int) := of_decide_eq_true (by first | (with_reducible assumption) | assumption)
          obtain ⟨ad174, e174, hx174_0, hx174_1, hx174_2, hx174_3, hx174_4⟩ := at_T70 HR0.out x5_1 p174 q174
          obtain rfl : ad171 = ad174 := (by injection e174)
          replace p174 := eq_true p174
          replace q174 := eq_true q174
          have p175 : 0 ≤ (x5_1 : Int) := of_decide_eq_true (by first | (with_reducible assumption) | assumption)
          have q175 : x5_1 < (l0.length : Int) := of_decide_eq_true (by first | (with_reducible assumption) | assumption)
          obtain ⟨ad175, e175, hx175_0, hx175_1, hx175_2, hx175_3, hx175_4⟩ := at_T70 HR0.out x5_1 p175 q175
          obtain rfl : ad171 = ad175 := (by injection e175)
          replace p175 := eq_true p175
          replace q175 := eq_true q175
          go_wp2
          go_roundg k1
          case measure => have := HK1.out; omega
          case rel => exact ⟨(wrap64 ((wrap64 ((wrap64 ((wrap64 ((wrap64 (x1_1 + 1)) + 1)) + 1)) + 1)) + 1)), (wrap64 (x5_1 + 1)), (by first | rfl | (simp; done) | (simp [*]; done)), (by first | rfl | (simp; done) | (simp [*]; done)), H', ⟨by have := HK1.out; omega⟩, by repeat (first | exact Drawn0.refl _ | apply Drawn0.step)⟩
         ·
          rw [if_neg c9] at H
          have c9b0 : (((rd_T70 l0 x5_1).f4) == (wrap64 ((wrap64 ((wrap64 ((wrap64 (x1_1 + 1)) + 1)) + 1)) + 1))) = false := beq_eq_false_iff_ne.mpr c9
          have c9b1 : (((rd_T70 l0 x5_1).f4) != (wrap64 ((wrap64 ((wrap64 ((wrap64 (x1_1 + 1)) + 1)) + 1)) + 1))) = true := bne_iff_ne.mpr c9
          obtain rfl := Option.some.inj H
          have p171 : 0 ≤ (x5_1 : Int) := of_decide_eq_true (by first | (with_reducible assumption) | assumption)
          have q171 : x5_1 < (l0.length : Int) := of_decide_eq_true (by first | (with_reducible assumption) | assumption)
          obtain ⟨ad171, e171, hx171_0, hx171_1, hx171_2, hx171_3, hx171_4⟩ := at_T70 HR0.out x5_1 p171 q171
          cases e171
          replace p171 := eq_true p171
          replace q171 := eq_true q171
          have p172 : 0 ≤ (x5_1 : Int) := of_decide_eq_true (by first | (with_reducible assumption) | assumption)
          have q172 : x5_1 < (l0.length : Int) := of_decide_eq_true (by first | (with_reducible assumption) | assumption)
          obtain ⟨ad172, e172, hx172_0, hx172_1, hx172_2, hx172_3, hx172_4⟩ := at_T70 HR0.out x5_1 p172 q172
          obtain rfl : ad171 = ad172 := (by injection e172)
          replace p172 := eq_true p172
          replace q172 := eq_true q172
          have p173 : 0 ≤ (x5_1 : Int) := of_decide_eq_true (by first | (with_reducible assumption) | assumption)
          have q173 : x5_1 < (l0.length : Int) := of_decide_eq_true (by first | (with_reducible assumption) | assumption)
          obtain ⟨ad173, e173, hx173_0, hx173_1, hx173_2, hx173_3, hx173_4⟩ := at_T70 HR0.out x5_1 p173 q173
          obtain rfl : ad171 = ad173 := (by injection e173)
          replace p173 := eq_true p173
          replace q173 := eq_true q173
          have p174 : 0 ≤ (x5_1 : Int) := of_decide_eq_true (by first | (with_reducible assumption) | assumption)
          have q174 : x5_1 < (l0.length : Int) := of_decide_eq_true (by first | (with_reducible assumption) | assumption)
          obtain ⟨ad174, e174, hx174_0, hx174_1, hx174_2, hx174_3, hx174_4⟩ := at_T70 HR0.out x5_1 p174 q174
          obtain rfl : ad171 = ad174 := (by injection e174)
          replace p174 := eq_true p174
          replace q174 := eq_true q174
          have p175 : 0 ≤ (x5_1 : Int) := of_decide_eq_true (by first | (with_reducible assumption) | assumption)
          have q175 : x5_1 < (l0.length : Int) := of_decide_eq_true (by first | (with_reducible assumption) | assumption)
          obtain ⟨ad175, e175, hx175_0, hx175_1, hx175_2, hx175_3, hx175_4⟩ := at_T70 HR0.out x5_1 p175 q175
          obtain rfl : ad171 = ad175 := (by injection e175)
          replace p175 := eq_true p175
          replace q175 := eq_true q175
          go_wp2
          go_ret
          exact ⟨by first | rfl | (simp; done) | (simp [*]; done), by repeat (first | exact Drawn0.refl _ | apply Drawn0.step)⟩
        ·
         rw [if_neg c8] at H
         have c8b0 : (((rd_T70 l0 x5_1).f3) == (wrap64 ((wrap64 ((wrap64 (x1_1 + 1)) + 1)) + 1))) = false := beq_eq_false_iff_ne.mpr c8
         have c8b1 : (((rd_T70 l0 x5_1).f3) != (wrap64 ((wrap64 ((wrap64 (x1_1 + 1)) + 1)) + 1))) = true := bne_iff_ne.mpr c8
         obtain rfl := Option.some.inj H
         have p171 : 0 ≤ (x5_1 : Int) := of_decide_eq_true (by first | (with_reducible assumption) | assumption)
         have q171 : x5_1 < (l0.length : Int) := of_decide_eq_true (by first | (with_reducible assumption) | assumption)
         obtain ⟨ad171, e171, hx171_0, hx171_1, hx171_2, hx171_3, hx171_4⟩ := at_T70 HR0.out x5_1 p171 q171
         cases e171
         replace p171 := eq_true p171
         replace q171 := eq_true q171
         have p172 : 0 ≤ (x5_1 : Int) := of_decide_eq_true (by first | (with_reducible assumption) | assumption)
         have q172 : x5_1 < (l0.length : Int) := of_decide_eq_true (by first | (with_reducible assumption) | assumption)
         obtain ⟨ad172, e172, hx172_0, hx172_1, hx172_2, hx172_3, hx172_4⟩ := at_T70 HR0.out x5_1 p172 q172
         obtain rfl : ad171 = ad172 := (by injection e172)
         replace p172 := eq_true p172
         replace q172 := eq_true q172
         have p173 : 0 ≤ (x5_1 : Int) := of_decide_eq_true (by first | (with_reducible assumption) | assumption)
         have q173 : x5_1 < (l0.length : Int) := of_decide_eq_true (by first | (with_reducible assumption) | assumption)
         obtain ⟨ad173, e173, hx173_0, hx173_1, hx173_2, hx173_3, hx173_4⟩ := at_T70 HR0.out x5_1 p173 q173
         obtain rfl : ad171 = ad173 := (by injection e173)
         replace p173 := eq_true p173
         replace q173 := eq_true q173
         have p174 : 0 ≤ (x5_1 : Int) := of_decide_eq_true (by first | (with_reducible assumption) | assumption)
         have q174 : x5_1 < (l0.length : Int) := of_decide_eq_true (by first | (with_reducible assumption) | assumption)
         obtain ⟨ad174, e174, hx174_0, hx174_1, hx174_2, hx174_3, hx174_4⟩ := at_T70 HR0.out x5_1 p174 q174
         obtain rfl : ad171 = ad174 := (by injection e174)
         replace p174 := eq_true p174
         replace q174 := eq_true q174
         go_wp2
         go_ret
         exact ⟨by first | rfl | (simp; done) | (simp [*]; done), by repeat (first | exact Drawn0.refl _ | apply Drawn0.step)⟩
       ·
        rw [if_neg c7] at H
        have c7b0 : (((rd_T70 l0 x5_1).f2) == (wrap64 ((wrap64 (x1_1 + 1)) + 1))) = false := beq_eq_false_iff_ne.mpr c7
        have c7b1 : (((rd_T70 l0 x5_1).f2) != (wrap64 ((wrap64 (x1_1 + 1)) + 1))) = true := bne_iff_ne.mpr c7
        obtain rfl := Option.some.inj H
        have p171 : 0 ≤ (x5_1 : Int) := of_decide_eq_true (by first | (with_reducible assumption) | assumption)
        have q171 : x5_1 < (l0.length : Int) := of_decide_eq_true (by first | (with_reducible assumption) | assumption)
        obtain ⟨ad171, e171, hx171_0, hx171_1, hx171_2, hx171_3, hx171_4⟩ := at_T70 HR0.out x5_1 p171 q171
        cases e171
        replace p171 := eq_true p171
        replace q171 := eq_true q171
        have p172 : 0 ≤ (x5_1 : Int) := of_decide_eq_true (by first | (with_reducible assumption) | assumption)
        have q172 : x5_1 < (l0.length : Int) := of_decide_eq_true (by first | (with_reducible assumption) | assumption)
        obtain ⟨ad172, e172, hx172_0, hx172_1, hx172_2, hx172_3, hx172_4⟩ := at_T70 HR0.out x5_1 p172 q172
        obtain rfl : ad171 = ad172 := (by injection e172)
        replace p172 := eq_true p172
        replace q172 := eq_true q172
        have p173 : 0 ≤ (x5_1 : Int) := of_decide_eq_true (by first | (with_reducible assumption) | assumption)
        have q173 : x5_1 < (l0.length : Int) := of_decide_eq_true (by first | (with_reducible assumption) | assumption)
        obtain ⟨ad173, e173, hx173_0, hx173_1, hx173_2, hx173_3, hx173_4⟩ := at_T70 HR0.out x5_1 p173 q173
        obtain rfl : ad171 = ad173 := (by injection e173)
        replace p173 := eq_true p173
        replace q173 := eq_true q173
        go_wp2
        go_ret
        exact ⟨by first | rfl | (simp; done) | (simp [*]; done), by repeat (first | exact Drawn0.refl _ | apply Drawn0.step)⟩
      ·
       rw [if_neg c6] at H
       have c6b0 : (((rd_T70 l0 x5_1).f1) == (wrap64 (x1_1 + 1))) = false := beq_eq_false_iff_ne.mpr c6
       have c6b1 : (((rd_T70 l0 x5_1).f1) != (wrap64 (x1_1 + 1))) = true := bne_iff_ne.mpr c6
       obtain rfl := Option.some.inj H
       have p171 : 0 ≤ (x5_1 : Int) := of_decide_eq_true (by first | (with_reducible assumption) | assumption)
       have q171 : x5_1 < (l0.length : Int) := of_decide_eq_true (by first | (with_reducible assumption) | assumption)
       obtain ⟨ad171, e171, hx171_0, hx171_1, hx171_2, hx171_3, hx171_4⟩ := at_T70 HR0.out x5_1 p171 q171
       cases e171
       replace p171 := eq_true p171
       replace q171 := eq_true q171
       have p172 : 0 ≤ (x5_1 : Int) := of_decide_eq_true (by first | (with_reducible assumption) | assumption)
       have q172 : x5_1 < (l0.length : Int) := of_decide_eq_true (by first | (with_reducible assumption) | assumption)
       obtain ⟨ad172, e172, hx172_0, hx172_1, hx172_2, hx172_3, hx172_4⟩ := at_T70 HR0.out x5_1 p172 q172
       obtain rfl : ad171 = ad172 := (by injection e172)
       replace p172 := eq_true p172
       replace q172 := eq_true q172
       go_wp2
       go_ret
       exact ⟨by first | rfl | (simp; done) | (simp [*]; done), by repeat (first | exact Drawn0.refl _ | apply Drawn0.step)⟩
     ·
      rw [if_neg c5] at H
      have c5b0 : (((rd_T70 l0 x5_1).f0) == x1_1) = false := beq_eq_false_iff_ne.mpr c5
      have c5b1 : (((rd_T70 l0 x5_1).f0) != x1_1) = true := bne_iff_ne.mpr c5
      obtain rfl := Option.some.inj H
      have p171 : 0 ≤ (x5_1 : Int) := of_decide_eq_true (by first | (with_reducible assumption) | assumption)
      have q171 : x5_1 < (l0.length : Int) := of_decide_eq_true (by first | (with_reducible assumption) | assumption)
      obtain ⟨ad171, e171, hx171_0, hx171_1, hx171_2, hx171_3, hx171_4⟩ := at_T70 HR0.out x5_1 p171 q171
      cases e171
      replace p171 := eq_true p171
      replace q171 := eq_true q171
      go_wp2
      go_ret
      exact ⟨by first | rfl | (simp; done) | (simp [*]; done), by repeat (first | exact Drawn0.refl _ | apply Drawn0.step)⟩
    ·
     rw [if_neg c4] at H
     exact absurd H (by simp)
   ·
    rw [if_neg c3] at H
    have c3b0 : decide (x5_1 < (l0.length : Int)) = false := decide_eq_false c3
    clear c3
    obtain rfl := Option.some.inj H
    go_wp2
    go_ret
    exact ⟨by first | rfl | (simp; done) | (simp [*]; done), by repeat (first | exact Drawn0.refl _ | apply Drawn0.step)⟩

/-! ### laws_FnExactClosedSessions: function 3 -/
def laws_FnExactClosedSessions.j0 : Nat → List (S72) → Int → Int → List (S70) → List (S70) → Bool → Option (Bool)
 | 0, _, _, _, _, _, _ => none
 | k + 1, x0, x1, x2, x8, x10, x50 => if x50 = true then (some false) else ((laws_markSessionS.f k x10 1).bind fun bt197 => ((laws_heldSessionS.f k bt197.2 1).bind fun t199 => (if t199 < 0 then (some false) else (if t199 = bt197.1 then ((laws_toSessionS.f k x0).bind fun t200 => ((impl_ClosedSessions.f k t200 x1 x2).bind fun t203 => ((laws_eqSessionS.f k t203 x8).bind fun t206 => (if t206 = true then ((laws_heldSessionS.f k bt197.2 1).bind fun t207 => (if t207 < 0 then (some false) else (if t207 = bt197.1 then (some true) else (some false)))) else (some false))))) else (some false)))))
def laws_FnExactClosedSessions.f (k : Nat) (l0 : List (S72)) (a1 : Int) (a2 : Int) : Option (Bool) := (laws_szSessionS.f l0 1048576).bind fun t176 => (if t176 < 0 then (some true) else ((laws_toSessionS.f k l0).bind fun t177 => ((spec_ClosedSessions.f k t177 a1 a2).bind fun t180 => ((laws_toSessionS.f k l0).bind fun t183 => ((impl_ClosedSessions.f k t183 a1 a2).bind fun t186 => ((laws_eqSessionS.f k t186 t180).bind fun t189 => (if t189 = true then ((laws_toSessionS.f k l0).bind fun t190 => ((laws_eqSessionS.f k t183 t190).bind fun t193 => (if t193 = true then ((laws_markSessionS.f k t183 1).bind fun bt194 => (if bt194.1 < 0 then (laws_FnExactClosedSessions.j0 k l0 a1 a2 t180 t186 true) else ((laws_eqSessionS.f k t186 t180).bind fun t196 => (laws_FnExactClosedSessions.j0 k l0 a1 a2 t180 t186 (!t196))))) else (some false)))) else (some false))))))))
theorem laws_FnExactClosedSessions.mono_l : ∀ k, (∀ y0 y1 y2 y3 y4 y5, LeO (laws_FnExactClosedSessions.j0 k y0 y1 y2 y3 y4 y5) (laws_FnExactClosedSessions.j0 (k + 1) y0 y1 y2 y3 y4 y5))
 | 0 => fun _ _ _ _ _ _ r h => by simp [laws_FnExactClosedSessions.j0] at h
 | k + 1 => by
  have ih0 := laws_FnExactClosedSessions.mono_l k
  ·
   intro y0 y1 y2 y3 y4 y5
   unfold laws_FnExactClosedSessions.j0
   repeat' first
   | (with_reducible exact ih0 _ _ _ _ _ _)
   | (with_reducible exact impl_ClosedSessions.mono _ _ _ _)
   | (with_reducible exact laws_eqSessionS.mono _ _ _)
   | (with_reducible exact laws_heldSessionS.mono _ _ _)
   | (with_reducible exact laws_markSessionS.mono _ _ _)
   | (with_reducible exact laws_toSessionS.mono _ _)
   | (with_reducible exact spec_ClosedSessions.mono _ _ _ _)
   | (with_reducible exact LeO.refl _)
   | (with_reducible exact LeO.none _)
   | (with_reducible refine LeO.ite ?_ ?_)
   | (with_reducible refine LeO.bind ?_ (fun _ => ?_))
   | exact ih0 _ _ _ _ _ _
   | exact impl_ClosedSessions.mono _ _ _ _
   | exact laws_eqSessionS.mono _ _ _
   | exact laws_heldSessionS.mono _ _ _
   | exact laws_markSessionS.mono _ _ _
   | exact laws_toSessionS.mono _ _
   | exact spec_ClosedSessions.mono _ _ _ _
   | exact LeO.none _
   | refine LeO.ite ?_ ?_
   | refine LeO.bind ?_ (fun _ => ?_)
theorem laws_FnExactClosedSessions.mono : ∀ a0 a1 a2 k, LeO (laws_FnExactClosedSessions.f k a0 a1 a2) (laws_FnExactClosedSessions.f (k + 1) a0 a1 a2) := by
 intro a0 a1 a2 k
 have ih0 := laws_FnExactClosedSessions.mono_l k
 unfold laws_FnExactClosedSessions.f
 repeat' first
   | (with_reducible exact ih0 _ _ _ _ _ _)
   | (with_reducible exact impl_ClosedSessions.mono _ _ _ _)
   | (with_reducible exact laws_eqSessionS.mono _ _ _)
   | (with_reducible exact laws_heldSessionS.mono _ _ _)
   | (with_reducible exact laws_markSessionS.mono _ _ _)
   | (with_reducible exact laws_toSessionS.mono _ _)
   | (with_reducible exact spec_ClosedSessions.mono _ _ _ _)
   | (with_reducible exact LeO.refl _)
   | (with_reducible exact LeO.none _)
   | (with_reducible refine LeO.ite ?_ ?_)
   | (with_reducible refine LeO.bind ?_ (fun _ => ?_))
   | exact ih0 _ _ _ _ _ _
   | exact impl_ClosedSessions.mono _ _ _ _
   | exact laws_eqSessionS.mono _ _ _
   | exact laws_heldSessionS.mono _ _ _
   | exact laws_markSessionS.mono _ _ _
   | exact laws_toSessionS.mono _ _
   | exact spec_ClosedSessions.mono _ _ _ _
   | exact LeO.none _
   | refine LeO.ite ?_ ?_
   | refine LeO.bind ?_ (fun _ => ?_)
set_option maxHeartbeats 8000000 in
set_option maxRecDepth 100000 in
theorem laws_FnExactClosedSessions.calls (k : Nat) (A0 : Option Addr) (c0 : Nat) (l0 : List (S72)) (a1 : Int) (a2 : Int) (r : Bool) (w : World) (hr0 : Kd.C k72 w A0 l0.length l0) (hc0 : l0.length ≤ c0) (h : laws_FnExactClosedSessions.f k l0 a1 a2 = some r) :
  Calls Try.prog 3 #[.slice A0 l0.length c0, .int .i64 a1, .int .i64 a2] w fun e w' => e = .returned (.bool r) ∧ Below w.heap.size w w' := by
 have HR0 := Aside0.mk hr0
 have HC0 := Aside0.mk hc0
 clear hr0 hc0
 have HB := Aside0.mk (Below.refl w.heap.size w)
 have H : ((laws_szSessionS.f l0 1048576).bind fun t176 => (if t176 < 0 then (some true) else ((laws_toSessionS.f k l0).bind fun t177 => ((spec_ClosedSessions.f k t177 a1 a2).bind fun t180 => ((laws_toSessionS.f k l0).bind fun t183 => ((impl_ClosedSessions.f k t183 a1 a2).bind fun t186 => ((laws_eqSessionS.f k t186 t180).bind fun t189 => (if t189 = true then ((laws_toSessionS.f k l0).bind fun t190 => ((laws_eqSessionS.f k t183 t190).bind fun t193 => (if t193 = true then ((laws_markSessionS.f k t183 1).bind fun bt194 => (if bt194.1 < 0 then (laws_FnExactClosedSessions.j0 k l0 a1 a2 t180 t186 true) else ((laws_eqSessionS.f k t186 t180).bind fun t196 => (laws_FnExactClosedSessions.j0 k l0 a1 a2 t180 t186 (!t196))))) else (some false)))) else (some false))))))))) = some r := h
 clear h
 replace H := Option.bind_eq_some_iff.mp H
 obtain ⟨t176, A40, H⟩ := H
 replace H : (if t176 < 0 then (some true) else ((laws_toSessionS.f k l0).bind fun t177 => ((spec_ClosedSessions.f k t177 a1 a2).bind fun t180 => ((laws_toSessionS.f k l0).bind fun t183 => ((impl_ClosedSessions.f k t183 a1 a2).bind fun t186 => ((laws_eqSessionS.f k t186 t180).bind fun t189 => (if t189 = true then ((laws_toSessionS.f k l0).bind fun t190 => ((laws_eqSessionS.f k t183 t190).bind fun t193 => (if t193 = true then ((laws_markSessionS.f k t183 1).bind fun bt194 => (if bt194.1 < 0 then (laws_FnExactClosedSessions.j0 k l0 a1 a2 t180 t186 true) else ((laws_eqSessionS.f k t186 t180).bind fun t196 => (laws_FnExactClosedSessions.j0 k l0 a1 a2 t180 t186 (!t196))))) else (some false)))) else (some false)))))))) = some r := H
 have A4 := Aside0.mk A40
 clear A40
 by_cases c5 : t176 < 0
 ·
  rw [if_pos c5] at H
  have c5b0 : decide (t176 < 0) = true := decide_eq_true c5
  clear c5
  obtain rfl := Option.some.inj H
  go_enter Try.func3, Try.ntmps3
  go_wp2_with (first | ((with_reducible refine qg (f := 10) rfl ?_); refine goesL_ (some 17) rfl rfl Try.func10 (by kernel_rfl) rfl #[.slice A0 l0.length c0, .int .i64 1048576] rfl (by (try simp only [List.map_toArray, List.map_cons, List.map_nil]); first | done | rfl | (simp only [List.length_drop, List.length_take]; rfl)) ?_; (with_reducible refine (laws_szSessionS.calls _ _ l0 1048576 t176 _ ?side1 ?side2 A4.out).mono ?_); (case side1 => repeat (first | exact HR0.out | (with_reducible refine qh ?_ _) | (with_reducible refine qi ?_ _) | (with_reducible refine qj ?_))); (case side2 => exact HC0.out); rintro e w' ⟨rfl, ⟨nd, rfl⟩⟩; refine ⟨_, rfl, ?_⟩))
  go_ret
  exact ⟨by first | rfl | (simp [errW_none, errW_some] <;> rfl) | (simp [*, errW_none, errW_some] <;> rfl), by repeat (first | (with_reducible first | exact HB.out | apply qe | apply qd | apply qf) | exact HB.out)⟩
 ·
  rw [if_neg c5] at H
  have c5b0 : decide (t176 < 0) = false := decide_eq_false c5
  clear c5
  replace H := Option.bind_eq_some_iff.mp H
  obtain ⟨t177, A60, H⟩ := H
  replace H : ((spec_ClosedSessions.f k t177 a1 a2).bind fun t180 => ((laws_toSessionS.f k l0).bind fun t183 => ((impl_ClosedSessions.f k t183 a1 a2).bind fun t186 => ((laws_eqSessionS.f k t186 t180).bind fun t189 => (if t189 = true then ((laws_toSessionS.f k l0).bind fun t190 => ((laws_eqSessionS.f k t183 t190).bind fun t193 => (if t193 = true then ((laws_markSessionS.f k t183 1).bind fun bt194 => (if bt194.1 < 0 then (laws_FnExactClosedSessions.j0 k l0 a1 a2 t180 t186 true) else ((laws_eqSessionS.f k t186 t180).bind fun t196 => (laws_FnExactClosedSessions.j0 k l0 a1 a2 t180 t186 (!t196))))) else (some false)))) else (some false)))))) = some r := H
  have A6 := Aside0.mk A60
  clear A60
  replace H := Option.bind_eq_some_iff.mp H
  obtain ⟨t180, A70, H⟩ := H
  replace H : ((laws_toSessionS.f k l0).bind fun t183 => ((impl_ClosedSessions.f k t183 a1 a2).bind fun t186 => ((laws_eqSessionS.f k t186 t180).bind fun t189 => (if t189 = true then ((laws_toSessionS.f k l0).bind fun t190 => ((laws_eqSessionS.f k t183 t190).bind fun t193 => (if t193 = true then ((laws_markSessionS.f k t183 1).bind fun bt194 => (if bt194.1 < 0 then (laws_FnExactClosedSessions.j0 k l0 a1 a2 t180 t186 true) else ((laws_eqSessionS.f k t186 t180).bind fun t196 => (laws_FnExactClosedSessions.j0 k l0 a1 a2 t180 t186 (!t196))))) else (some false)))) else (some false))))) = some r := H
  have A7 := Aside0.mk A70
  clear A70
  replace H := Option.bind_eq_some_iff.mp H
  obtain ⟨t183, A80, H⟩ := H
  replace H : ((impl_ClosedSessions.f k t183 a1 a2).bind fun t186 => ((laws_eqSessionS.f k t186 t180).bind fun t189 => (if t189 = true then ((laws_toSessionS.f k l0).bind fun t190 => ((laws_eqSessionS.f k t183 t190).bind fun t193 => (if t193 = true then ((laws_markSessionS.f k t183 1).bind fun bt194 => (if bt194.1 < 0 then (laws_FnExactClosedSessions.j0 k l0 a1 a2 t180 t186 true) else ((laws_eqSessionS.f k t186 t180).bind fun t196 => (laws_FnExactClosedSessions.j0 k l0 a1 a2 t180 t186 (!t196))))) else (some false)))) else (some false)))) = some r := H
  have A8 := Aside0.mk A80
  clear A80
  replace H := Option.bind_eq_some_iff.mp H
  obtain ⟨t186, A90, H⟩ := H
  replace H : ((laws_eqSessionS.f k t186 t180).bind fun t189 => (if t189 = true then ((laws_toSessionS.f k l0).bind fun t190 => ((laws_eqSessionS.f k t183 t190).bind fun t193 => (if t193 = true then ((laws_markSessionS.f k t183 1).bind fun bt194 => (if bt194.1 < 0 then (laws_FnExactClosedSessions.j0 k l0 a1 a2 t180 t186 true) else ((laws_eqSessionS.f k t186 t180).bind fun t196 => (laws_FnExactClosedSessions.j0 k l0 a1 a2 t180 t186 (!t196))))) else (some false)))) else (some false))) = some r := H
  have A9 := Aside0.mk A90
  clear A90
  replace H := Option.bind_eq_some_iff.mp H
  obtain ⟨t189, A100, H⟩ := H
  replace H : (if t189 = true then ((laws_toSessionS.f k l0).bind fun t190 => ((laws_eqSessionS.f k t183 t190).bind fun t193 => (if t193 = true then ((laws_markSessionS.f k t183 1).bind fun bt194 => (if bt194.1 < 0 then (laws_FnExactClosedSessions.j0 k l0 a1 a2 t180 t186 true) else ((laws_eqSessionS.f k t186 t180).bind fun t196 => (laws_FnExactClosedSessions.j0 k l0 a1 a2 t180 t186 (!t196))))) else (some false)))) else (some false)) = some r := H
  have A10 := Aside0.mk A100
  clear A100
  by_cases c11 : t189 = true
  ·
   subst c11
   have H1 : ((laws_toSessionS.f k l0).bind fun t190 => ((laws_eqSessionS.f k t183 t190).bind fun t193 => (if t193 = true then ((laws_markSessionS.f k t183 1).bind fun bt194 => (if bt194.1 < 0 then (laws_FnExactClosedSessions.j0 k l0 a1 a2 t180 t186 true) else ((laws_eqSessionS.f k t186 t180).bind fun t196 => (laws_FnExactClosedSessions.j0 k l0 a1 a2 t180 t186 (!t196))))) else (some false)))) = some r := by rw [if_pos rfl] at H; exact H
   clear H
   have H := H1
   clear H1
   replace H := Option.bind_eq_some_iff.mp H
   obtain ⟨t190, A120, H⟩ := H
   replace H : ((laws_eqSessionS.f k t183 t190).bind fun t193 => (if t193 = true then ((laws_markSessionS.f k t183 1).bind fun bt194 => (if bt194.1 < 0 then (laws_FnExactClosedSessions.j0 k l0 a1 a2 t180 t186 true) else ((laws_eqSessionS.f k t186 t180).bind fun t196 => (laws_FnExactClosedSessions.j0 k l0 a1 a2 t180 t186 (!t196))))) else (some false))) = some r := H
   have A12 := Aside0.mk A120
   clear A120
   replace H := Option.bind_eq_some_iff.mp H
   obtain ⟨t193, A130, H⟩ := H
   replace H : (if t193 = true then ((laws_markSessionS.f k t183 1).bind fun bt194 => (if bt194.1 < 0 then (laws_FnExactClosedSessions.j0 k l0 a1 a2 t180 t186 true) else ((laws_eqSessionS.f k t186 t180).bind fun t196 => (laws_FnExactClosedSessions.j0 k l0 a1 a2 t180 t186 (!t196))))) else (some false)) = some r := H
   have A13 := Aside0.mk A130
   clear A130
   by_cases c14 : t193 = true
   ·
    subst c14
    have H1 : ((laws_markSessionS.f k t183 1).bind fun bt194 => (if bt194.1 < 0 then (laws_FnExactClosedSessions.j0 k l0 a1 a2 t180 t186 true) else ((laws_eqSessionS.f k t186 t180).bind fun t196 => (laws_FnExactClosedSessions.j0 k l0 a1 a2 t180 t186 (!t196))))) = some r := by rw [if_pos rfl] at H; exact H
    clear H
    have H := H1
    clear H1
    replace H := Option.bind_eq_some_iff.mp H
    obtain ⟨⟨t194, t195⟩, A150, H⟩ := H
    replace H : (if t194 < 0 then (laws_FnExactClosedSessions.j0 k l0 a1 a2 t180 t186 true) else ((laws_eqSessionS.f k t186 t180).bind fun t196 => (laws_FnExactClosedSessions.j0 k l0 a1 a2 t180 t186 (!t196)))) = some r := H
    have A15 := Aside0.mk A150
    clear A150
    have HC16 := Aside0.mk H
    clear H
    go_enter Try.func3, Try.ntmps3
    go_upto_region 14 with (first | ((with_reducible refine qg (f := 10) rfl ?_); refine goesL_ (some 17) rfl rfl Try.func10 (by kernel_rfl) rfl #[.slice A0 l0.length c0, .int .i64 1048576] rfl (by (try simp only [List.map_toArray, List.map_cons, List.map_nil]); first | done | rfl | (simp only [List.length_drop, List.length_take]; rfl)) ?_; (with_reducible refine (laws_szSessionS.calls _ _ l0 1048576 t176 _ ?side1 ?side2 A4.out).mono ?_); (case side1 => repeat (first | exact HR0.out | (with_reducible refine qh ?_ _) | (with_reducible refine qi ?_ _) | (with_reducible refine qj ?_))); (case side2 => exact HC0.out); rintro e w' ⟨rfl, ⟨nd, rfl⟩⟩; refine ⟨_, rfl, ?_⟩) | ((with_reducible refine qg (f := 12) rfl ?_); refine goesL_ (some 21) rfl rfl Try.func12 (by kernel_rfl) rfl #[.slice A0 l0.length c0] rfl (by (try simp only [List.map_toArray, List.map_cons, List.map_nil]); first | done | rfl | (simp only [List.length_drop, List.length_take]; rfl)) ?_; (with_reducible refine (laws_toSessionS.calls k _ _ l0 t177 _ ?side1 ?side2 A6.out).mono ?_); (case side1 => repeat (first | exact HR0.out | (with_reducible refine qh ?_ _) | (with_reducible refine qi ?_ _) | (with_reducible refine qj ?_))); (case side2 => exact HC0.out); rintro e w17 ⟨v178, rfl, ho0, hb⟩; refine ⟨_, rfl, ?_⟩; have n0_ := Aside0.mk (qp ho0 (qq (by repeat (first | (with_reducible first | exact HB.out | apply qe | apply qd | apply qf) | exact HB.out)))); have n1_ := Aside0.mk (qm (by repeat (first | (with_reducible first | exact HB.out | apply qe | apply qd | apply qf) | exact HB.out)) hb); clear HB; have HO179 := n0_; have HB := n1_; clear n0_ n1_; (try clear hb); (try clear hb2); (try clear hk); (try clear hi); (try clear ho0); obtain ⟨Ao18, co18, eo18⟩ := qo HO179.out; subst eo18) | ((with_reducible refine qg (f := 11) rfl ?_); refine goesL_ (some 24) rfl rfl Try.func11 (by kernel_rfl) rfl #[.slice Ao18 t177.length co18, .int .i64 a1, .int .i64 a2] rfl (by (try simp only [List.map_toArray, List.map_cons, List.map_nil]); first | done | rfl | (simp only [List.length_drop, List.length_take]; rfl)) ?_; (with_reducible refine (spec_ClosedSessions.calls k _ _ t177 a1 a2 t180 _ ?side1 ?side2 A7.out).mono ?_); (case side1 => repeat (first | exact (Kd.R_reads' HO179.out).2.2 | (with_reducible refine qh ?_ _) | (with_reducible refine qi ?_ _) | (with_reducible refine qj ?_))); (case side2 => exact (Kd.R_reads' HO179.out).2.1); rintro e w19 ⟨v181, rfl, ho0, hb⟩; refine ⟨_, rfl, ?_⟩; have n0_ := Aside0.mk (Kd.R_elder' (by (with_reducible repeat (first | apply qa | apply qb | apply qc)); exact HO179.out) (ql ho0) hb); have n1_ := Aside0.mk (qp (Kd.R_new' ho0 (qn (by (with_reducible repeat (first | apply qa | apply qb | apply qc)); exact HO179.out))) (qq (by repeat (first | (with_reducible first | exact HB.out | apply qe | apply qd | apply qf) | exact HB.out)))); have n2_ := Aside0.mk (qm (by repeat (first | (with_reducible first | exact HB.out | apply qe | apply qd | apply qf) | exact HB.out)) hb); clear HO179; clear HB; have HO179 := n0_; have HO182 := n1_; have HB := n2_; clear n0_ n1_ n2_; (try clear hb); (try clear hb2); (try clear hk); (try clear hi); (try clear ho0)) | ((with_reducible refine qg (f := 12) rfl ?_); refine goesL_ (some 26) rfl rfl Try.func12 (by kernel_rfl) rfl #[.slice A0 l0.length c0] rfl (by (try simp only [List.map_toArray, List.map_cons, List.map_nil]); first | done | rfl | (simp only [List.length_drop, List.length_take]; rfl)) ?_; (with_reducible refine (laws_toSessionS.calls k _ _ l0 t183 _ ?side1 ?side2 A8.out).mono ?_); (case side1 => repeat (first | exact (Kd.C_below HR0.out HB.out) | (with_reducible refine qh ?_ _) | (with_reducible refine qi ?_ _) | (with_reducible refine qj ?_))); (case side2 => exact HC0.out); rintro e w20 ⟨v184, rfl, ho0, hb⟩; refine ⟨_, rfl, ?_⟩; have n0_ := Aside0.mk (Kd.R_elder' (by (with_reducible repeat (first | apply qa | apply qb | apply qc)); exact HO179.out) (ql ho0) hb); have n1_ := Aside0.mk (Kd.R_elder' (by (with_reducible repeat (first | apply qa | apply qb | apply qc)); exact HO182.out) (ql ho0) hb); have n2_ := Aside0.mk (qp (Kd.R_new' (Kd.R_new' ho0 (qn (by (with_reducible repeat (first | apply qa | apply qb | apply qc)); exact HO179.out))) (qn (by (with_reducible repeat (first | apply qa | apply qb | apply qc)); exact HO182.out))) (qq (by repeat (first | (with_reducible first | exact HB.out | apply qe | apply qd | apply qf) | exact HB.out)))); have n3_ := Aside0.mk (qm (by repeat (first | (with_reducible first | exact HB.out | apply qe | apply qd | apply qf) | exact HB.out)) hb); clear HO179; clear HO182; clear HB; have HO179 := n0_; have HO182 := n1_; have HO185 := n2_; have HB := n3_; clear n0_ n1_ n2_ n3_; (try clear hb); (try clear hb2); (try clear hk); (try clear hi); (try clear ho0); obtain ⟨Ao21, co21, eo21⟩ := qo HO185.out; subst eo21) | ((with_reducible refine qg (f := 13) rfl ?_); refine goesL_ (some 30) rfl rfl Try.func13 (by kernel_rfl) rfl #[.slice Ao21 t183.length co21, .int .i64 a1, .int .i64 a2] rfl (by (try simp only [List.map_toArray, List.map_cons, List.map_nil]); first | done | rfl | (simp only [List.length_drop, List.length_take]; rfl)) ?_; (with_reducible refine (impl_ClosedSessions.calls k _ _ t183 a1 a2 t186 _ ?side1 ?side2 A9.out).mono ?_); (case side1 => repeat (first | exact (Kd.R_reads' HO185.out).2.2 | (with_reducible refine qh ?_ _) | (with_reducible refine qi ?_ _) | (with_reducible refine qj ?_))); (case side2 => exact (Kd.R_reads' HO185.out).2.1); rintro e w22 ⟨v187, rfl, ho0, hb⟩; refine ⟨_, rfl, ?_⟩; have n0_ := Aside0.mk (Kd.R_elder' (by (with_reducible repeat (first | apply qa | apply qb | apply qc)); exact HO179.out) (ql ho0) hb); have n1_ := Aside0.mk (Kd.R_elder' (by (with_reducible repeat (first | apply qa | apply qb | apply qc)); exact HO182.out) (ql ho0) hb); have n2_ := Aside0.mk (Kd.R_elder' (by (with_reducible repeat (first | apply qa | apply qb | apply qc)); exact HO185.out) (ql ho0) hb); have n3_ := Aside0.mk (qp (Kd.R_new' (Kd.R_new' (Kd.R_new' ho0 (qn (by (with_reducible repeat (first | apply qa | apply qb | apply qc)); exact HO179.out))) (qn (by (with_reducible repeat (first | apply qa | apply qb | apply qc)); exact HO182.out))) (qn (by (with_reducible repeat (first | apply qa | apply qb | apply qc)); exact HO185.out))) (qq (by repeat (first | (with_reducible first | exact HB.out | apply qe | apply qd | apply qf) | exact HB.out)))); have n4_ := Aside0.mk (qm (by repeat (first | (with_reducible first | exact HB.out | apply qe | apply qd | apply qf) | exact HB.out)) hb); clear HO179; clear HO182; clear HO185; clear HB; have HO179 := n0_; have HO182 := n1_; have HO185 := n2_; have HO188 := n3_; have HB := n4_; clear n0_ n1_ n2_ n3_ n4_; (try clear hb); (try clear hb2); (try clear hk); (try clear hi); (try clear ho0); obtain ⟨Ao23, co23, eo23⟩ := qo HO188.out; subst eo23; obtain ⟨Ao24, co24, eo24⟩ := qo HO182.out; subst eo24) | ((with_reducible refine qg (f := 14) rfl ?_); refine goesL_ (some 33) rfl rfl Try.func14 (by kernel_rfl) rfl #[.slice Ao23 t186.length co23, .slice Ao24 t180.length co24] rfl (by (try simp only [List.map_toArray, List.map_cons, List.map_nil]); first | done | rfl | (simp only [List.length_drop, List.length_take]; rfl)) ?_; (with_reducible refine (laws_eqSessionS.calls k _ _ t186 _ _ t180 true _ ?side1 ?side2 ?side3 ?side4 A10.out).mono ?_); (case side1 => repeat (first | exact (Kd.R_reads' HO188.out).2.2 | (with_reducible refine qh ?_ _) | (with_reducible refine qi ?_ _) | (with_reducible refine qj ?_))); (case side2 => exact (Kd.R_reads' HO188.out).2.1); (case side3 => repeat (first | exact (Kd.R_reads' HO182.out).2.2 | (with_reducible refine qh ?_ _) | (with_reducible refine qi ?_ _) | (with_reducible refine qj ?_))); (case side4 => exact (Kd.R_reads' HO182.out).2.1); rintro e w25 ⟨rfl, hb⟩; refine ⟨_, rfl, ?_⟩; have n0_ := Aside0.mk (qk (by (with_reducible repeat (first | apply qa | apply qb | apply qc)); exact HO179.out) hb); have n1_ := Aside0.mk (qk (by (with_reducible repeat (first | apply qa | apply qb | apply qc)); exact HO182.out) hb); have n2_ := Aside0.mk (qk (by (with_reducible repeat (first | apply qa | apply qb | apply qc)); exact HO185.out) hb); have n3_ := Aside0.mk (qk (by (with_reducible repeat (first | apply qa | apply qb | apply qc)); exact HO188.out) hb); have n4_ := Aside0.mk (qm (by repeat (first | (with_reducible first | exact HB.out | apply qe | apply qd | apply qf) | exact HB.out)) hb); clear HO179; clear HO182; clear HO185; clear HO188; clear HB; have HO179 := n0_; have HO182 := n1_; have HO185 := n2_; have HO188 := n3_; have HB := n4_; clear n0_ n1_ n2_ n3_ n4_; (try clear hb); (try clear hb2); (try clear hk); (try clear hi)) | ((with_reducible refine qg (f := 12) rfl ?_); refine goesL_ (some 37) rfl rfl Try.func12 (by kernel_rfl) rfl #[.slice A0 l0.length c0] rfl (by (try simp only [List.map_toArray, List.map_cons, List.map_nil]); first | done | rfl | (simp only [List.length_drop, List.length_take]; rfl)) ?_; (with_reducible refine (laws_toSessionS.calls k _ _ l0 t190 _ ?side1 ?side2 A12.out).mono ?_); (case side1 => repeat (first | exact (Kd.C_below HR0.out HB.out) | (with_reducible refine qh ?_ _) | (with_reducible refine qi ?_ _) | (with_reducible refine qj ?_))); (case side2 => exact HC0.out); rintro e w26 ⟨v191, rfl, ho0, hb⟩; refine ⟨_, rfl, ?_⟩; have n0_ := Aside0.mk (Kd.R_elder' (by (with_reducible repeat (first | apply qa | apply qb | apply qc)); exact HO179.out) (ql ho0) hb); have n1_ := Aside0.mk (Kd.R_elder' (by (with_reducible repeat (first | apply qa | apply qb | apply qc)); exact HO182.out) (ql ho0) hb); have n2_ := Aside0.mk (Kd.R_elder' (by (with_reducible repeat (first | apply qa | apply qb | apply qc)); exact HO185.out) (ql ho0) hb); have n3_ := Aside0.mk (Kd.R_elder' (by (with_reducible repeat (first | apply qa | apply qb | apply qc)); exact HO188.out) (ql ho0) hb); have n4_ := Aside0.mk (qp (Kd.R_new' (Kd.R_new' (Kd.R_new' (Kd.R_new' ho0 (qn (by (with_reducible repeat (first | apply qa | apply qb | apply qc)); exact HO179.out))) (qn (by (with_reducible repeat (first | apply qa | apply qb | apply qc)); exact HO182.out))) (qn (by (with_reducible repeat (first | apply qa | apply qb | apply qc)); exact HO185.out))) (qn (by (with_reducible repeat (first | apply qa | apply qb | apply qc)); exact HO188.out))) (qq (by repeat (first | (with_reducible first | exact HB.out | apply qe | apply qd | apply qf) | exact HB.out)))); have n5_ := Aside0.mk (qm (by repeat (first | (with_reducible first | exact HB.out | apply qe | apply qd | apply qf) | exact HB.out)) hb); clear HO179; clear HO182; clear HO185; clear HO188; clear HB; have HO179 := n0_; have HO182 := n1_; have HO185 := n2_; have HO188 := n3_; have HO192 := n4_; have HB := n5_; clear n0_ n1_ n2_ n3_ n4_ n5_; (try clear hb); (try clear hb2); (try clear hk); (try clear hi); (try clear ho0); obtain ⟨Ao27, co27, eo27⟩ := qo HO192.out; subst eo27) | ((with_reducible refine qg (f := 14) rfl ?_); refine goesL_ (some 38) rfl rfl Try.func14 (by kernel_rfl) rfl #[.slice Ao21 t183.length co21, .slice Ao27 t190.length co27] rfl (by (try simp only [List.map_toArray, List.map_cons, List.map_nil]); first | done | rfl | (simp only [List.length_drop, List.length_take]; rfl)) ?_; (with_reducible refine (laws_eqSessionS.calls k _ _ t183 _ _ t190 true _ ?side1 ?side2 ?side3 ?side4 A13.out).mono ?_); (case side1 => repeat (first | exact (Kd.R_reads' HO185.out).2.2 | (with_reducible refine qh ?_ _) | (with_reducible refine qi ?_ _) | (with_reducible refine qj ?_))); (case side2 => exact (Kd.R_reads' HO185.out).2.1); (case side3 => repeat (first | exact (Kd.R_reads' HO192.out).2.2 | (with_reducible refine qh ?_ _) | (with_reducible refine qi ?_ _) | (with_reducible refine qj ?_))); (case side4 => exact (Kd.R_reads' HO192.out).2.1); rintro e w28 ⟨rfl, hb⟩; refine ⟨_, rfl, ?_⟩; have n0_ := Aside0.mk (qk (by (with_reducible repeat (first | apply qa | apply qb | apply qc)); exact HO179.out) hb); have n1_ := Aside0.mk (qk (by (with_reducible repeat (first | apply qa | apply qb | apply qc)); exact HO182.out) hb); have n2_ := Aside0.mk (qk (by (with_reducible repeat (first | apply qa | apply qb | apply qc)); exact HO185.out) hb); have n3_ := Aside0.mk (qk (by (with_reducible repeat (first | apply qa | apply qb | apply qc)); exact HO188.out) hb); have n4_ := Aside0.mk (qk (by (with_reducible repeat (first | apply qa | apply qb | apply qc)); exact HO192.out) hb); have n5_ := Aside0.mk (qm (by repeat (first | (with_reducible first | exact HB.out | apply qe | apply qd | apply qf) | exact HB.out)) hb); clear HO179; clear HO182; clear HO185; clear HO188; clear HO192; clear HB; have HO179 := n0_; have HO182 := n1_; have HO185 := n2_; have HO188 := n3_; have HO192 := n4_; have HB := n5_; clear n0_ n1_ n2_ n3_ n4_ n5_; (try clear hb); (try clear hb2); (try clear hk); (try clear hi)) | ((with_reducible refine qg (f := 15) rfl ?_); refine goesL_ (some 42) rfl rfl Try.func15 (by kernel_rfl) rfl #[.slice Ao21 t183.length co21, .int .i64 1] rfl (by (try simp only [List.map_toArray, List.map_cons, List.map_nil]); first | done | rfl | (simp only [List.length_drop, List.length_take]; rfl)) ?_; (with_reducible refine (laws_markSessionS.calls k (fun k_ => some k_ = (.slice Ao21 t183.length co21 : Value).ownBlock) (.slice Ao21 t183.length co21) t183 1 t194 t195 w _ ?side1 ?side2 A15.out).mono ?_); (case side1 => repeat (first | (with_reducible first | exact HB.out | apply qe | apply qd | apply qf) | exact HB.out)); (case side2 => exact Kd.R_tight rfl HO185.out); rintro e w29 ⟨rfl, hy0, hb, hkp⟩; refine ⟨_, rfl, ?_⟩; have n0_ := Aside0.mk (Kd.R_mono (ok' := fun k_ => some k_ ≠ (.slice Ao24 t180.length co24 : Value).ownBlock ∧ some k_ ≠ (.slice Ao21 t183.length co21 : Value).ownBlock ∧ some k_ ≠ (.slice Ao23 t186.length co23 : Value).ownBlock ∧ some k_ ≠ (.slice Ao27 t190.length co27 : Value).ownBlock) (Kd.R_keptB (HO179.out) hkp (fun k_ hk_ hs_ => (hk_.1.1.2) hs_)) (fun k_ hk_ => ⟨hk_.1.1.1.1.2, hk_.1.1.1.2, hk_.1.1.2, hk_.1.2⟩)); have n1_ := Aside0.mk (Kd.R_mono (ok' := fun k_ => some k_ ≠ (.slice Ao18 t177.length co18 : Value).ownBlock ∧ some k_ ≠ (.slice Ao21 t183.length co21 : Value).ownBlock ∧ some k_ ≠ (.slice Ao23 t186.length co23 : Value).ownBlock ∧ some k_ ≠ (.slice Ao27 t190.length co27 : Value).ownBlock) (Kd.R_keptB (HO182.out) hkp (fun k_ hk_ hs_ => (hk_.1.1.2) hs_)) (fun k_ hk_ => ⟨hk_.1.1.1.1.2, hk_.1.1.1.2, hk_.1.1.2, hk_.1.2⟩)); have n2_ := Aside0.mk (Kd.R_reok rfl hy0 (fun k_ e_ => HO185.out.1 k_ e_)); have n3_ := Aside0.mk (Kd.R_mono (ok' := fun k_ => some k_ ≠ (.slice Ao18 t177.length co18 : Value).ownBlock ∧ some k_ ≠ (.slice Ao24 t180.length co24 : Value).ownBlock ∧ some k_ ≠ (.slice Ao21 t183.length co21 : Value).ownBlock ∧ some k_ ≠ (.slice Ao27 t190.length co27 : Value).ownBlock) (Kd.R_keptB (HO188.out) hkp (fun k_ hk_ hs_ => (hk_.1.2) hs_)) (fun k_ hk_ => ⟨hk_.1.1.1.1.2, hk_.1.1.1.2, hk_.1.1.2, hk_.1.2⟩)); have n4_ := Aside0.mk (Kd.R_mono (ok' := fun k_ => some k_ ≠ (.slice Ao18 t177.length co18 : Value).ownBlock ∧ some k_ ≠ (.slice Ao24 t180.length co24 : Value).ownBlock ∧ some k_ ≠ (.slice Ao21 t183.length co21 : Value).ownBlock ∧ some k_ ≠ (.slice Ao23 t186.length co23 : Value).ownBlock) (Kd.R_keptB (HO192.out) hkp (fun k_ hk_ hs_ => (hk_.1.2) hs_)) (fun k_ hk_ => ⟨hk_.1.1.1.1.2, hk_.1.1.1.2, hk_.1.1.2, hk_.1.2⟩)); have n5_ := Aside0.mk (hb); clear HO179; clear HO182; clear HO185; clear HO188; clear HO192; clear HB; have HO179 := n0_; have HO182 := n1_; have HO185 := n2_; have HO188 := n3_; have HO192 := n4_; have HB := n5_; clear n0_ n1_ n2_ n3_ n4_ n5_; (try clear hb); (try clear hkp); (try clear hy0)))
    (try simp only [Act.put, List.setIfInBounds_toArray, List.set_cons_zero, List.set_cons_succ])
    go_cut [50] (fun v50 wc => ∃ (kq : Nat) (x50_15 : Bool), v50 = .bool x50_15 ∧ Aside0 (laws_FnExactClosedSessions.j0 kq l0 a1 a2 t180 t186 x50_15 = some r) ∧ Aside0 (kq ≤ k) ∧ Aside0 (Kd.R k70 70 wc w.heap.size (fun k_ => some k_ ≠ ((.slice Ao23 t186.length co23) : Value).ownBlock) (.slice Ao24 t180.length co24) t180) ∧ Aside0 (Kd.R k70 70 wc w.heap.size (fun k_ => some k_ ≠ ((.slice Ao24 t180.length co24) : Value).ownBlock) (.slice Ao23 t186.length co23) t186) ∧ Aside0 (Below w.heap.size w wc))
    case first =>
     have H := HC16.out
     clear HC16
     by_cases c30 : t194 < 0
     ·
      rw [if_pos c30] at H
      have c30b0 : decide (t194 < 0) = true := decide_eq_true c30
      clear c30
      (first | rw [c30b0] | (simp only [i64_w, i32_w]; rw [c30b0]) | skip)
      have H' := Aside0.mk H
      clear H
      go_wp2
      go_meet
      case rel => exact ⟨_, (true), (by first | rfl | (simp; done) | (simp [*]; done)), H', ⟨by first | omega | exact Nat.le_refl _⟩, ⟨by (with_reducible repeat (first | apply qa | apply qb | apply qc)); exact Kd.R_mono HO182.out (fun _ hk => hk.2.2.1)⟩, ⟨by (with_reducible repeat (first | apply qa | apply qb | apply qc)); exact Kd.R_mono HO188.out (fun _ hk => hk.2.1)⟩, ⟨by repeat (first | (with_reducible first | exact HB.out | apply qe | apply qd | apply qf) | exact HB.out)⟩⟩
     ·
      rw [if_neg c30] at H
      have c30b0 : decide (t194 < 0) = false := decide_eq_false c30
      clear c30
      (first | rw [c30b0] | (simp only [i64_w, i32_w]; rw [c30b0]) | skip)
      replace H := Option.bind_eq_some_iff.mp H
      obtain ⟨t196, A310, H⟩ := H
      replace H : (laws_FnExactClosedSessions.j0 k l0 a1 a2 t180 t186 (!t196)) = some r := H
      have A31 := Aside0.mk A310
      clear A310
      have H' := Aside0.mk H
      clear H
      go_wp2_with (first | (go_at_call 14; (with_reducible refine (laws_eqSessionS.calls k _ _ t186 _ _ t180 t196 _ ?side1 ?side2 ?side3 ?side4 A31.out).mono ?_); (case side1 => repeat (first | exact (Kd.R_reads' HO188.out).2.2 | (with_reducible refine qh ?_ _) | (with_reducible refine qi ?_ _) | (with_reducible refine qj ?_))); (case side2 => exact (Kd.R_reads' HO188.out).2.1); (case side3 => repeat (first | exact (Kd.R_reads' HO182.out).2.2 | (with_reducible refine qh ?_ _) | (with_reducible refine qi ?_ _) | (with_reducible refine qj ?_))); (case side4 => exact (Kd.R_reads' HO182.out).2.1); rintro e w32 ⟨rfl, hb⟩; have n0_ := Aside0.mk (qk (by (with_reducible repeat (first | apply qa | apply qb | apply qc)); exact HO179.out) hb); have n1_ := Aside0.mk (qk (by (with_reducible repeat (first | apply qa | apply qb | apply qc)); exact HO182.out) hb); have n2_ := Aside0.mk (qk (by (with_reducible repeat (first | apply qa | apply qb | apply qc)); exact HO185.out) hb); have n3_ := Aside0.mk (qk (by (with_reducible repeat (first | apply qa | apply qb | apply qc)); exact HO188.out) hb); have n4_ := Aside0.mk (qk (by (with_reducible repeat (first | apply qa | apply qb | apply qc)); exact HO192.out) hb); have n5_ := Aside0.mk (qm (by repeat (first | (with_reducible first | exact HB.out | apply qe | apply qd | apply qf) | exact HB.out)) hb); clear HO179; clear HO182; clear HO185; clear HO188; clear HO192; clear HB; have HO179 := n0_; have HO182 := n1_; have HO185 := n2_; have HO188 := n3_; have HO192 := n4_; have HB := n5_; clear n0_ n1_ n2_ n3_ n4_ n5_; (try clear hb); (try clear hb2); (try clear hk); (try clear hi)))
      go_meet
      case rel => exact ⟨_, (!t196), (by first | rfl | (simp; done) | (simp [*]; done)), H', ⟨by first | omega | exact Nat.le_refl _⟩, ⟨by (with_reducible repeat (first | apply qa | apply qb | apply qc)); exact Kd.R_mono HO182.out (fun _ hk => hk.2.2.1)⟩, ⟨by (with_reducible repeat (first | apply qa | apply qb | apply qc)); exact Kd.R_mono HO188.out (fun _ hk => hk.2.1)⟩, ⟨by repeat (first | (with_reducible first | exact HB.out | apply qe | apply qd | apply qf) | exact HB.out)⟩⟩
    case rest =>
     clear HC16
     try clear c1
     try clear p2
     try clear c3
     try clear c5
     try clear c5b0
     try clear c10
     try clear c11
     try clear c12
     try clear c13
     try clear c14
     try clear c15
     try clear c30
     try clear c30b0
     obtain ⟨kq, x50_15, rfl, HA, HJ15, HO_8, HO_10, HB⟩ := hcut
     cases kq with
     | zero => exact absurd HA.out (by simp [laws_FnExactClosedSessions.j0])
     | succ kj15 =>
      have H := HA.out
      clear HA
      simp only [laws_FnExactClosedSessions.j0] at H
      by_cases c33 : x50_15 = true
      ·
       subst c33
       have H1 : (some false) = some r := by rw [if_pos rfl] at H; exact H
       clear H
       have H := H1
       clear H1
       obtain rfl := Option.some.inj H
       go_wp2
       go_ret
       exact ⟨by first | rfl | (simp [errW_none, errW_some] <;> rfl) | (simp [*, errW_none, errW_some] <;> rfl), by repeat (first | (with_reducible first | exact HB.out | apply qe | apply qd | apply qf) | exact HB.out)⟩
      ·
       replace c33 := Bool.eq_false_iff.mpr c33
       subst c33
       have H1 : ((laws_markSessionS.f kj15 t186 1).bind fun bt197 => ((laws_heldSessionS.f kj15 bt197.2 1).bind fun t199 => (if t199 < 0 then (some false) else (if t199 = bt197.1 then ((laws_toSessionS.f kj15 l0).bind fun t200 => ((impl_ClosedSessions.f kj15 t200 a1 a2).bind fun t203 => ((laws_eqSessionS.f kj15 t203 t180).bind fun t206 => (if t206 = true then ((laws_heldSessionS.f kj15 bt197.2 1).bind fun t207 => (if t207 < 0 then (some false) else (if t207 = bt197.1 then (some true) else (some false)))) else (some false))))) else (some false))))) = some r := by rw [if_neg (show ¬ (false = true) by decide)] at H; exact H
       clear H
       have H := H1
       clear H1
       replace H := Option.bind_eq_some_iff.mp H
       obtain ⟨⟨t197, t198⟩, A340, H⟩ := H
       replace H : ((laws_heldSessionS.f kj15 t198 1).bind fun t199 => (if t199 < 0 then (some false) else (if t199 = t197 then ((laws_toSessionS.f kj15 l0).bind fun t200 => ((impl_ClosedSessions.f kj15 t200 a1 a2).bind fun t203 => ((laws_eqSessionS.f kj15 t203 t180).bind fun t206 => (if t206 = true then ((laws_heldSessionS.f kj15 t198 1).bind fun t207 => (if t207 < 0 then (some false) else (if t207 = t197 then (some true) else (some false)))) else (some false))))) else (some false)))) = some r := H
       have A34 := Aside0.mk A340
       clear A340
       replace H := Option.bind_eq_some_iff.mp H
       obtain ⟨t199, A350, H⟩ := H
       replace H : (if t199 < 0 then (some false) else (if t199 = t197 then ((laws_toSessionS.f kj15 l0).bind fun t200 => ((impl_ClosedSessions.f kj15 t200 a1 a2).bind fun t203 => ((laws_eqSessionS.f kj15 t203 t180).bind fun t206 => (if t206 = true then ((laws_heldSessionS.f kj15 t198 1).bind fun t207 => (if t207 < 0 then (some false) else (if t207 = t197 then (some true) else (some false)))) else (some false))))) else (some false))) = some r := H
       have A35 := Aside0.mk A350
       clear A350
       by_cases c36 : t199 < 0
       ·
        rw [if_pos c36] at H
        have c36b0 : decide (t199 < 0) = true := decide_eq_true c36
        clear c36
        obtain rfl := Option.some.inj H
        go_wp2_with (first | ((with_reducible refine qg (f := 15) rfl ?_); refine goesL_ (some 53) rfl rfl Try.func15 (by kernel_rfl) rfl #[.slice Ao23 t186.length co23, .int .i64 1] rfl (by (try simp only [List.map_toArray, List.map_cons, List.map_nil]); first | done | rfl | (simp only [List.length_drop, List.length_take]; rfl)) ?_; (with_reducible refine (laws_markSessionS.calls kj15 (fun k_ => some k_ = (.slice Ao23 t186.length co23 : Value).ownBlock) (.slice Ao23 t186.length co23) t186 1 t197 t198 w _ ?side1 ?side2 A34.out).mono ?_); (case side1 => repeat (first | (with_reducible first | exact HB.out | apply qe | apply qd | apply qf) | exact HB.out)); (case side2 => exact Kd.R_tight rfl HO_10.out); rintro e w37 ⟨rfl, hy0, hb, hkp⟩; refine ⟨_, rfl, ?_⟩; have n0_ := Aside0.mk (Kd.R_mono (ok' := fun k_ => some k_ ≠ (.slice Ao23 t186.length co23 : Value).ownBlock) (Kd.R_keptB (HO_8.out) hkp (fun k_ hk_ hs_ => (hk_) hs_)) (fun k_ hk_ => hk_.1)); have n1_ := Aside0.mk (Kd.R_reok rfl hy0 (fun k_ e_ => HO_10.out.1 k_ e_)); have n2_ := Aside0.mk (hb); clear HO_8; clear HO_10; clear HB; have HO_8 := n0_; have HO_10 := n1_; have HB := n2_; clear n0_ n1_ n2_; (try clear hb); (try clear hkp); (try clear hy0)) | ((with_reducible refine qg (f := 16) rfl ?_); refine goesL_ (some 56) rfl rfl Try.func16 (by kernel_rfl) rfl #[.slice Ao23 t198.length co23, .int .i64 1] rfl (by (try simp only [List.map_toArray, List.map_cons, List.map_nil]); first | done | (rw [show t198.length = t186.length from (Kd.R_reads' HO_10.out).1.symm] <;> rfl) | rfl | (simp only [List.length_drop, List.length_take]; rfl)) ?_; (with_reducible refine (laws_heldSessionS.calls kj15 _ _ t198 1 t199 _ ?side1 ?side2 A35.out).mono ?_); (case side1 => repeat (first | exact (Kd.R_reads' HO_10.out).2.2 | (with_reducible refine qh ?_ _) | (with_reducible refine qi ?_ _) | (with_reducible refine qj ?_))); (case side2 => rw [show t198.length = t186.length from (Kd.R_reads' HO_10.out).1.symm]; exact (Kd.R_reads' HO_10.out).2.1); rintro e w' ⟨rfl, ⟨nd, rfl⟩⟩; refine ⟨_, rfl, ?_⟩))
        go_ret
        exact ⟨by first | rfl | (simp [errW_none, errW_some] <;> rfl) | (simp [*, errW_none, errW_some] <;> rfl), by repeat (first | (with_reducible first | exact HB.out | apply qe | apply qd | apply qf) | exact HB.out)⟩
       ·
        rw [if_neg c36] at H
        have c36b0 : decide (t199 < 0) = false := decide_eq_false c36
        clear c36
        by_cases c38 : t199 = t197
        ·
         rw [if_pos c38] at H
         have c38b0 : (t199 == t197) = true := beq_iff_eq.mpr c38
         have c38b1 : (t199 != t197) = false := bne_eq_false_iff_eq.mpr c38
         clear c38
         replace H := Option.bind_eq_some_iff.mp H
         obtain ⟨t200, A390, H⟩ := H
         replace H : ((impl_ClosedSessions.f kj15 t200 a1 a2).bind fun t203 => ((laws_eqSessionS.f kj15 t203 t180).bind fun t206 => (if t206 = true then ((laws_heldSessionS.f kj15 t198 1).bind fun t207 => (if t207 < 0 then (some false) else (if t207 = t197 then (some true) else (some false)))) else (some false)))) = some r := H
         have A39 := Aside0.mk A390
         clear A390
         replace H := Option.bind_eq_some_iff.mp H
         obtain ⟨t203, A400, H⟩ := H
         replace H : ((laws_eqSessionS.f kj15 t203 t180).bind fun t206 => (if t206 = true then ((laws_heldSessionS.f kj15 t198 1).bind fun t207 => (if t207 < 0 then (some false) else (if t207 = t197 then (some true) else (some false)))) else (some false))) = some r := H
         have A40 := Aside0.mk A400
         clear A400
         replace H := Option.bind_eq_some_iff.mp H
         obtain ⟨t206, A410, H⟩ := H
         replace H : (if t206 = true then ((laws_heldSessionS.f kj15 t198 1).bind fun t207 => (if t207 < 0 then (some false) else (if t207 = t197 then (some true) else (some false)))) else (some false)) = some r := H
         have A41 := Aside0.mk A410
         clear A410
         by_cases c42 : t206 = true
         ·
          subst c42
          have H1 : ((laws_heldSessionS.f kj15 t198 1).bind fun t207 => (if t207 < 0 then (some false) else (if t207 = t197 then (some true) else (some false)))) = some r := by rw [if_pos rfl] at H; exact H
          clear H
          have H := H1
          clear H1
          replace H := Option.bind_eq_some_iff.mp H
          obtain ⟨t207, A430, H⟩ := H
          replace H : (if t207 < 0 then (some false) else (if t207 = t197 then (some true) else (some false))) = some r := H
          have A43 := Aside0.mk A430
          clear A430
          by_cases c44 : t207 < 0
          ·
           rw [if_pos c44] at H
           have c44b0 : decide (t207 < 0) = true := decide_eq_true c44
           clear c44
           obtain rfl := Option.some.inj H
           go_wp2_with (first | ((with_reducible refine qg (f := 15) rfl ?_); refine goesL_ (some 53) rfl rfl Try.func15 (by kernel_rfl) rfl #[.slice Ao23 t186.length co23, .int .i64 1] rfl (by (try simp only [List.map_toArray, List.map_cons, List.map_nil]); first | done | rfl | (simp only [List.length_drop, List.length_take]; rfl)) ?_; (with_reducible refine (laws_markSessionS.calls kj15 (fun k_ => some k_ = (.slice Ao23 t186.length co23 : Value).ownBlock) (.slice Ao23 t186.length co23) t186 1 t197 t198 w _ ?side1 ?side2 A34.out).mono ?_); (case side1 => repeat (first | (with_reducible first | exact HB.out | apply qe | apply qd | apply qf) | exact HB.out)); (case side2 => exact Kd.R_tight rfl HO_10.out); rintro e w45 ⟨rfl, hy0, hb, hkp⟩; refine ⟨_, rfl, ?_⟩; have n0_ := Aside0.mk (Kd.R_mono (ok' := fun k_ => some k_ ≠ (.slice Ao23 t186.length co23 : Value).ownBlock) (Kd.R_keptB (HO_8.out) hkp (fun k_ hk_ hs_ => (hk_) hs_)) (fun k_ hk_ => hk_.1)); have n1_ := Aside0.mk (Kd.R_reok rfl hy0 (fun k_ e_ => HO_10.out.1 k_ e_)); have n2_ := Aside0.mk (hb); clear HO_8; clear HO_10; clear HB; have HO_8 := n0_; have HO_10 := n1_; have HB := n2_; clear n0_ n1_ n2_; (try clear hb); (try clear hkp); (try clear hy0)) | ((with_reducible refine qg (f := 16) rfl ?_); refine goesL_ (some 56) rfl rfl Try.func16 (by kernel_rfl) rfl #[.slice Ao23 t198.length co23, .int .i64 1] rfl (by (try simp only [List.map_toArray, List.map_cons, List.map_nil]); first | done | (rw [show t198.length = t186.length from (Kd.R_reads' HO_10.out).1.symm] <;> rfl) | rfl | (simp only [List.length_drop, List.length_take]; rfl)) ?_; (with_reducible refine (laws_heldSessionS.calls kj15 _ _ t198 1 t199 _ ?side1 ?side2 A35.out).mono ?_); (case side1 => repeat (first | exact (Kd.R_reads' HO_10.out).2.2 | (with_reducible refine qh ?_ _) | (with_reducible refine qi ?_ _) | (with_reducible refine qj ?_))); (case side2 => rw [show t198.length = t186.length from (Kd.R_reads' HO_10.out).1.symm]; exact (Kd.R_reads' HO_10.out).2.1); rintro e w' ⟨rfl, ⟨nd, rfl⟩⟩; refine ⟨_, rfl, ?_⟩) | ((with_reducible refine qg (f := 12) rfl ?_); refine goesL_ (some 63) rfl rfl Try.func12 (by kernel_rfl) rfl #[.slice A0 l0.length c0] rfl (by (try simp only [List.map_toArray, List.map_cons, List.map_nil]); first | done | rfl | (simp only [List.length_drop, List.length_take]; rfl)) ?_; (with_reducible refine (laws_toSessionS.calls kj15 _ _ l0 t200 _ ?side1 ?side2 A39.out).mono ?_); (case side1 => repeat (first | exact (Kd.C_below HR0.out (by repeat (first | (with_reducible first | exact HB.out | apply qe | apply qd | apply qf) | exact HB.out))) | (with_reducible refine qh ?_ _) | (with_reducible refine qi ?_ _) | (with_reducible refine qj ?_))); (case side2 => exact HC0.out); rintro e w46 ⟨v201, rfl, ho0, hb⟩; refine ⟨_, rfl, ?_⟩; have n0_ := Aside0.mk (Kd.R_elder' (by (with_reducible repeat (first | apply qa | apply qb | apply qc)); exact HO_8.out) (ql ho0) hb); have n1_ := Aside0.mk (Kd.R_elder' (by (with_reducible repeat (first | apply qa | apply qb | apply qc)); exact HO_10.out) (ql ho0) hb); have n2_ := Aside0.mk (qp (Kd.R_new' (Kd.R_new' ho0 (qn (by (with_reducible repeat (first | apply qa | apply qb | apply qc)); exact HO_8.out))) (qn (by (with_reducible repeat (first | apply qa | apply qb | apply qc)); exact HO_10.out))) (qq (by repeat (first | (with_reducible first | exact HB.out | apply qe | apply qd | apply qf) | exact HB.out)))); have n3_ := Aside0.mk (qm (by repeat (first | (with_reducible first | exact HB.out | apply qe | apply qd | apply qf) | exact HB.out)) hb); clear HO_8; clear HO_10; clear HB; have HO_8 := n0_; have HO_10 := n1_; have HO202 := n2_; have HB := n3_; clear n0_ n1_ n2_ n3_; (try clear hb); (try clear hb2); (try clear hk); (try clear hi); (try clear ho0); obtain ⟨Ao47, co47, eo47⟩ := qo HO202.out; subst eo47) | ((with_reducible refine qg (f := 13) rfl ?_); refine goesL_ (some 66) rfl rfl Try.func13 (by kernel_rfl) rfl #[.slice Ao47 t200.length co47, .int .i64 a1, .int .i64 a2] rfl (by (try simp only [List.map_toArray, List.map_cons, List.map_nil]); first | done | rfl | (simp only [List.length_drop, List.length_take]; rfl)) ?_; (with_reducible refine (impl_ClosedSessions.calls kj15 _ _ t200 a1 a2 t203 _ ?side1 ?side2 A40.out).mono ?_); (case side1 => repeat (first | exact (Kd.R_reads' HO202.out).2.2 | (with_reducible refine qh ?_ _) | (with_reducible refine qi ?_ _) | (with_reducible refine qj ?_))); (case side2 => exact (Kd.R_reads' HO202.out).2.1); rintro e w48 ⟨v204, rfl, ho0, hb⟩; refine ⟨_, rfl, ?_⟩; have n0_ := Aside0.mk (Kd.R_elder' (by (with_reducible repeat (first | apply qa | apply qb | apply qc)); exact HO_8.out) (ql ho0) hb); have n1_ := Aside0.mk (Kd.R_elder' (by (with_reducible repeat (first | apply qa | apply qb | apply qc)); exact HO_10.out) (ql ho0) hb); have n2_ := Aside0.mk (Kd.R_elder' (by (with_reducible repeat (first | apply qa | apply qb | apply qc)); exact HO202.out) (ql ho0) hb); have n3_ := Aside0.mk (qp (Kd.R_new' (Kd.R_new' (Kd.R_new' ho0 (qn (by (with_reducible repeat (first | apply qa | apply qb | apply qc)); exact HO_8.out))) (qn (by (with_reducible repeat (first | apply qa | apply qb | apply qc)); exact HO_10.out))) (qn (by (with_reducible repeat (first | apply qa | apply qb | apply qc)); exact HO202.out))) (qq (by repeat (first | (with_reducible first | exact HB.out | apply qe | apply qd | apply qf) | exact HB.out)))); have n4_ := Aside0.mk (qm (by repeat (first | (with_reducible first | exact HB.out | apply qe | apply qd | apply qf) | exact HB.out)) hb); clear HO_8; clear HO_10; clear HO202; clear HB; have HO_8 := n0_; have HO_10 := n1_; have HO202 := n2_; have HO205 := n3_; have HB := n4_; clear n0_ n1_ n2_ n3_ n4_; (try clear hb); (try clear hb2); (try clear hk); (try clear hi); (try clear ho0); obtain ⟨Ao49, co49, eo49⟩ := qo HO205.out; subst eo49) | ((with_reducible refine qg (f := 14) rfl ?_); refine goesL_ (some 69) rfl rfl Try.func14 (by kernel_rfl) rfl #[.slice Ao49 t203.length co49, .slice Ao24 t180.length co24] rfl (by (try simp only [List.map_toArray, List.map_cons, List.map_nil]); first | done | rfl | (simp only [List.length_drop, List.length_take]; rfl)) ?_; (with_reducible refine (laws_eqSessionS.calls kj15 _ _ t203 _ _ t180 true _ ?side1 ?side2 ?side3 ?side4 A41.out).mono ?_); (case side1 => repeat (first | exact (Kd.R_reads' HO205.out).2.2 | (with_reducible refine qh ?_ _) | (with_reducible refine qi ?_ _) | (with_reducible refine qj ?_))); (case side2 => exact (Kd.R_reads' HO205.out).2.1); (case side3 => repeat (first | exact (Kd.R_reads' HO_8.out).2.2 | (with_reducible refine qh ?_ _) | (with_reducible refine qi ?_ _) | (with_reducible refine qj ?_))); (case side4 => exact (Kd.R_reads' HO_8.out).2.1); rintro e w50 ⟨rfl, hb⟩; refine ⟨_, rfl, ?_⟩; have n0_ := Aside0.mk (qk (by (with_reducible repeat (first | apply qa | apply qb | apply qc)); exact HO_8.out) hb); have n1_ := Aside0.mk (qk (by (with_reducible repeat (first | apply qa | apply qb | apply qc)); exact HO_10.out) hb); have n2_ := Aside0.mk (qk (by (with_reducible repeat (first | apply qa | apply qb | apply qc)); exact HO202.out) hb); have n3_ := Aside0.mk (qk (by (with_reducible repeat (first | apply qa | apply qb | apply qc)); exact HO205.out) hb); have n4_ := Aside0.mk (qm (by repeat (first | (with_reducible first | exact HB.out | apply qe | apply qd | apply qf) | exact HB.out)) hb); clear HO_8; clear HO_10; clear HO202; clear HO205; clear HB; have HO_8 := n0_; have HO_10 := n1_; have HO202 := n2_; have HO205 := n3_; have HB := n4_; clear n0_ n1_ n2_ n3_ n4_; (try clear hb); (try clear hb2); (try clear hk); (try clear hi)) | ((with_reducible refine qg (f := 16) rfl ?_); refine goesL_ (some 73) rfl rfl Try.func16 (by kernel_rfl) rfl #[.slice Ao23 t198.length co23, .int .i64 1] rfl (by (try simp only [List.map_toArray, List.map_cons, List.map_nil]); first | done | (rw [show t198.length = t186.length from (Kd.R_reads' HO_10.out).1.symm] <;> rfl) | rfl | (simp only [List.length_drop, List.length_take]; rfl)) ?_; (with_reducible refine (laws_heldSessionS.calls kj15 _ _ t198 1 t207 _ ?side1 ?side2 A43.out).mono ?_); (case side1 => repeat (first | exact (Kd.R_reads' HO_10.out).2.2 | (with_reducible refine qh ?_ _) | (with_reducible refine qi ?_ _) | (with_reducible refine qj ?_))); (case side2 => rw [show t198.length = t186.length from (Kd.R_reads' HO_10.out).1.symm]; exact (Kd.R_reads' HO_10.out).2.1); rintro e w' ⟨rfl, ⟨nd, rfl⟩⟩; refine ⟨_, rfl, ?_⟩))
           go_ret
           exact ⟨by first | rfl | (simp [errW_none, errW_some] <;> rfl) | (simp [*, errW_none, errW_some] <;> rfl), by repeat (first | (with_reducible first | exact HB.out | apply qe | apply qd | apply qf) | exact HB.out)⟩
          ·
           rw [if_neg c44] at H
           have c44b0 : decide (t207 < 0) = false := decide_eq_false c44
           clear c44
           by_cases c51 : t207 = t197
           ·
            rw [if_pos c51] at H
            have c51b0 : (t207 == t197) = true := beq_iff_eq.mpr c51
            have c51b1 : (t207 != t197) = false := bne_eq_false_iff_eq.mpr c51
            clear c51
            obtain rfl := Option.some.inj H
            go_wp2_with (first | ((with_reducible refine qg (f := 15) rfl ?_); refine goesL_ (some 53) rfl rfl Try.func15 (by kernel_rfl) rfl #[.slice Ao23 t186.length co23, .int .i64 1] rfl (by (try simp only [List.map_toArray, List.map_cons, List.map_nil]); first | done | rfl | (simp only [List.length_drop, List.length_take]; rfl)) ?_; (with_reducible refine (laws_markSessionS.calls kj15 (fun k_ => some k_ = (.slice Ao23 t186.length co23 : Value).ownBlock) (.slice Ao23 t186.length co23) t186 1 t197 t198 w _ ?side1 ?side2 A34.out).mono ?_); (case side1 => repeat (first | (with_reducible first | exact HB.out | apply qe | apply qd | apply qf) | exact HB.out)); (case side2 => exact Kd.R_tight rfl HO_10.out); rintro e w52 ⟨rfl, hy0, hb, hkp⟩; refine ⟨_, rfl, ?_⟩; have n0_ := Aside0.mk (Kd.R_mono (ok' := fun k_ => some k_ ≠ (.slice Ao23 t186.length co23 : Value).ownBlock) (Kd.R_keptB (HO_8.out) hkp (fun k_ hk_ hs_ => (hk_) hs_)) (fun k_ hk_ => hk_.1)); have n1_ := Aside0.mk (Kd.R_reok rfl hy0 (fun k_ e_ => HO_10.out.1 k_ e_)); have n2_ := Aside0.mk (hb); clear HO_8; clear HO_10; clear HB; have HO_8 := n0_; have HO_10 := n1_; have HB := n2_; clear n0_ n1_ n2_; (try clear hb); (try clear hkp); (try clear hy0)) | ((with_reducible refine qg (f := 16) rfl ?_); refine goesL_ (some 56) rfl rfl Try.func16 (by kernel_rfl) rfl #[.slice Ao23 t198.length co23, .int .i64 1] rfl (by (try simp only [List.map_toArray, List.map_cons, List.map_nil]); first | done | (rw [show t198.length = t186.length from (Kd.R_reads' HO_10.out).1.symm] <;> rfl) | rfl | (simp only [List.length_drop, List.length_take]; rfl)) ?_; (with_reducible refine (laws_heldSessionS.calls kj15 _ _ t198 1 t199 _ ?side1 ?side2 A35.out).mono ?_); (case side1 => repeat (first | exact (Kd.R_reads' HO_10.out).2.2 | (with_reducible refine qh ?_ _) | (with_reducible refine qi ?_ _) | (with_reducible refine qj ?_))); (case side2 => rw [show t198.length = t186.length from (Kd.R_reads' HO_10.out).1.symm]; exact (Kd.R_reads' HO_10.out).2.1); rintro e w' ⟨rfl, ⟨nd, rfl⟩⟩; refine ⟨_, rfl, ?_⟩) | ((with_reducible refine qg (f := 12) rfl ?_); refine goesL_ (some 63) rfl rfl Try.func12 (by kernel_rfl) rfl #[.slice A0 l0.length c0] rfl (by (try simp only [List.map_toArray, List.map_cons, List.map_nil]); first | done | rfl | (simp only [List.length_drop, List.length_take]; rfl)) ?_; (with_reducible refine (laws_toSessionS.calls kj15 _ _ l0 t200 _ ?side1 ?side2 A39.out).mono ?_); (case side1 => repeat (first | exact (Kd.C_below HR0.out (by repeat (first | (with_reducible first | exact HB.out | apply qe | apply qd | apply qf) | exact HB.out))) | (with_reducible refine qh ?_ _) | (with_reducible refine qi ?_ _) | (with_reducible refine qj ?_))); (case side2 => exact HC0.out); rintro e w53 ⟨v201, rfl, ho0, hb⟩; refine ⟨_, rfl, ?_⟩; have n0_ := Aside0.mk (Kd.R_elder' (by (with_reducible repeat (first | apply qa | apply qb | apply qc)); exact HO_8.out) (ql ho0) hb); have n1_ := Aside0.mk (Kd.R_elder' (by (with_reducible repeat (first | apply qa | apply qb | apply qc)); exact HO_10.out) (ql ho0) hb); have n2_ := Aside0.mk (qp (Kd.R_new' (Kd.R_new' ho0 (qn (by (with_reducible repeat (first | apply qa | apply qb | apply qc)); exact HO_8.out))) (qn (by (with_reducible repeat (first | apply qa | apply qb | apply qc)); exact HO_10.out))) (qq (by repeat (first | (with_reducible first | exact HB.out | apply qe | apply qd | apply qf) | exact HB.out)))); have n3_ := Aside0.mk (qm (by repeat (first | (with_reducible first | exact HB.out | apply qe | apply qd | apply qf) | exact HB.out)) hb); clear HO_8; clear HO_10; clear HB; have HO_8 := n0_; have HO_10 := n1_; have HO202 := n2_; have HB := n3_; clear n0_ n1_ n2_ n3_; (try clear hb); (try clear hb2); (try clear hk); (try clear hi); (try clear ho0); obtain ⟨Ao54, co54, eo54⟩ := qo HO202.out; subst eo54) | ((with_reducible refine qg (f := 13) rfl ?_); refine goesL_ (some 66) rfl rfl Try.func13 (by kernel_rfl) rfl #[.slice Ao54 t200.length co54, .int .i64 a1, .int .i64 a2] rfl (by (try simp only [List.map_toArray, List.map_cons, List.map_nil]); first | done | rfl | (simp only [List.length_drop, List.length_take]; rfl)) ?_; (with_reducible refine (impl_ClosedSessions.calls kj15 _ _ t200 a1 a2 t203 _ ?side1 ?side2 A40.out).mono ?_); (case side1 => repeat (first | exact (Kd.R_reads' HO202.out).2.2 | (with_reducible refine qh ?_ _) | (with_reducible refine qi ?_ _) | (with_reducible refine qj ?_))); (case side2 => exact (Kd.R_reads' HO202.out).2.1); rintro e w55 ⟨v204, rfl, ho0, hb⟩; refine ⟨_, rfl, ?_⟩; have n0_ := Aside0.mk (Kd.R_elder' (by (with_reducible repeat (first | apply qa | apply qb | apply qc)); exact HO_8.out) (ql ho0) hb); have n1_ := Aside0.mk (Kd.R_elder' (by (with_reducible repeat (first | apply qa | apply qb | apply qc)); exact HO_10.out) (ql ho0) hb); have n2_ := Aside0.mk (Kd.R_elder' (by (with_reducible repeat (first | apply qa | apply qb | apply qc)); exact HO202.out) (ql ho0) hb); have n3_ := Aside0.mk (qp (Kd.R_new' (Kd.R_new' (Kd.R_new' ho0 (qn (by (with_reducible repeat (first | apply qa | apply qb | apply qc)); exact HO_8.out))) (qn (by (with_reducible repeat (first | apply qa | apply qb | apply qc)); exact HO_10.out))) (qn (by (with_reducible repeat (first | apply qa | apply qb | apply qc)); exact HO202.out))) (qq (by repeat (first | (with_reducible first | exact HB.out | apply qe | apply qd | apply qf) | exact HB.out)))); have n4_ := Aside0.mk (qm (by repeat (first | (with_reducible first | exact HB.out | apply qe | apply qd | apply qf) | exact HB.out)) hb); clear HO_8; clear HO_10; clear HO202; clear HB; have HO_8 := n0_; have HO_10 := n1_; have HO202 := n2_; have HO205 := n3_; have HB := n4_; clear n0_ n1_ n2_ n3_ n4_; (try clear hb); (try clear hb2); (try clear hk); (try clear hi); (try clear ho0); obtain ⟨Ao56, co56, eo56⟩ := qo HO205.out; subst eo56) | ((with_reducible refine qg (f := 14) rfl ?_); refine goesL_ (some 69) rfl rfl Try.func14 (by kernel_rfl) rfl #[.slice Ao56 t203.length co56, .slice Ao24 t180.length co24] rfl (by (try simp only [List.map_toArray, List.map_cons, List.map_nil]); first | done | rfl | (simp only [List.length_drop, List.length_take]; rfl)) ?_; (with_reducible refine (laws_eqSessionS.calls kj15 _ _ t203 _ _ t180 true _ ?side1 ?side2 ?side3 ?side4 A41.out).mono ?_); (case side1 => repeat (first | exact (Kd.R_reads' HO205.out).2.2 | (with_reducible refine qh ?_ _) | (with_reducible refine qi ?_ _) | (with_reducible refine qj ?_))); (case side2 => exact (Kd.R_reads' HO205.out).2.1); (case side3 => repeat (first | exact (Kd.R_reads' HO_8.out).2.2 | (with_reducible refine qh ?_ _) | (with_reducible refine qi ?_ _) | (with_reducible refine qj ?_))); (case side4 => exact (Kd.R_reads' HO_8.out).2.1); rintro e w57 ⟨rfl, hb⟩; refine ⟨_, rfl, ?_⟩; have n0_ := Aside0.mk (qk (by (with_reducible repeat (first | apply qa | apply qb | apply qc)); exact HO_8.out) hb); have n1_ := Aside0.mk (qk (by (with_reducible repeat (first | apply qa | apply qb | apply qc)); exact HO_10.out) hb); have n2_ := Aside0.mk (qk (by (with_reducible repeat (first | apply qa | apply qb | apply qc)); exact HO202.out) hb); have n3_ := Aside0.mk (qk (by (with_reducible repeat (first | apply qa | apply qb | apply qc)); exact HO205.out) hb); have n4_ := Aside0.mk (qm (by repeat (first | (with_reducible first | exact HB.out | apply qe | apply qd | apply qf) | exact HB.out)) hb); clear HO_8; clear HO_10; clear HO202; clear HO205; clear HB; have HO_8 := n0_; have HO_10 := n1_; have HO202 := n2_; have HO205 := n3_; have HB := n4_; clear n0_ n1_ n2_ n3_ n4_; (try clear hb); (try clear hb2); (try clear hk); (try clear hi)) | ((with_reducible refine qg (f := 16) rfl ?_); refine goesL_ (some 73) rfl rfl Try.func16 (by kernel_rfl) rfl #[.slice Ao23 t198.length co23, .int .i64 1] rfl (by (try simp only [List.map_toArray, List.map_cons, List.map_nil]); first | done | (rw [show t198.length = t186.length from (Kd.R_reads' HO_10.out).1.symm] <;> rfl) | rfl | (simp only [List.length_drop, List.length_take]; rfl)) ?_; (with_reducible refine (laws_heldSessionS.calls kj15 _ _ t198 1 t207 _ ?side1 ?side2 A43.out).mono ?_); (case side1 => repeat (first | exact (Kd.R_reads' HO_10.out).2.2 | (with_reducible refine qh ?_ _) | (with_reducible refine qi ?_ _) | (with_reducible refine qj ?_))); (case side2 => rw [show t198.length = t186.length from (Kd.R_reads' HO_10.out).1.symm]; exact (Kd.R_reads' HO_10.out).2.1); rintro e w' ⟨rfl, ⟨nd, rfl⟩⟩; refine ⟨_, rfl, ?_⟩))
            go_ret
            exact ⟨by first | rfl | (simp [errW_none, errW_some] <;> rfl) | (simp [*, errW_none, errW_some] <;> rfl), by repeat (first | (with_reducible first | exact HB.out | apply qe | apply qd | apply qf) | exact HB.out)⟩
           ·
            rw [if_neg c51] at H
            have c51b0 : (t207 == t197) = false := beq_eq_false_iff_ne.mpr c51
            have c51b1 : (t207 != t197) = true := bne_iff_ne.mpr c51
            obtain rfl := Option.some.inj H
            go_wp2_with (first | ((with_reducible refine qg (f := 15) rfl ?_); refine goesL_ (some 53) rfl rfl Try.func15 (by kernel_rfl) rfl #[.slice Ao23 t186.length co23, .int .i64 1] rfl (by (try simp only [List.map_toArray, List.map_cons, List.map_nil]); first | done | rfl | (simp only [List.length_drop, List.length_take]; rfl)) ?_; (with_reducible refine (laws_markSessionS.calls kj15 (fun k_ => some k_ = (.slice Ao23 t186.length co23 : Value).ownBlock) (.slice Ao23 t186.length co23) t186 1 t197 t198 w _ ?side1 ?side2 A34.out).mono ?_); (case side1 => repeat (first | (with_reducible first | exact HB.out | apply qe | apply qd | apply qf) | exact HB.out)); (case side2 => exact Kd.R_tight rfl HO_10.out); rintro e w58 ⟨rfl, hy0, hb, hkp⟩; refine ⟨_, rfl, ?_⟩; have n0_ := Aside0.mk (Kd.R_mono (ok' := fun k_ => some k_ ≠ (.slice Ao23 t186.length co23 : Value).ownBlock) (Kd.R_keptB (HO_8.out) hkp (fun k_ hk_ hs_ => (hk_) hs_)) (fun k_ hk_ => hk_.1)); have n1_ := Aside0.mk (Kd.R_reok rfl hy0 (fun k_ e_ => HO_10.out.1 k_ e_)); have n2_ := Aside0.mk (hb); clear HO_8; clear HO_10; clear HB; have HO_8 := n0_; have HO_10 := n1_; have HB := n2_; clear n0_ n1_ n2_; (try clear hb); (try clear hkp); (try clear hy0)) | ((with_reducible refine qg (f := 16) rfl ?_); refine goesL_ (some 56) rfl rfl Try.func16 (by kernel_rfl) rfl #[.slice Ao23 t198.length co23, .int .i64 1] rfl (by (try simp only [List.map_toArray, List.map_cons, List.map_nil]); first | done | (rw [show t198.length = t186.length from (Kd.R_reads' HO_10.out).1.symm] <;> rfl) | rfl | (simp only [List.length_drop, List.length_take]; rfl)) ?_; (with_reducible refine (laws_heldSessionS.calls kj15 _ _ t198 1 t199 _ ?side1 ?side2 A35.out).mono ?_); (case side1 => repeat (first | exact (Kd.R_reads' HO_10.out).2.2 | (with_reducible refine qh ?_ _) | (with_reducible refine qi ?_ _) | (with_reducible refine qj ?_))); (case side2 => rw [show t198.length = t186.length from (Kd.R_reads' HO_10.out).1.symm]; exact (Kd.R_reads' HO_10.out).2.1); rintro e w' ⟨rfl, ⟨nd, rfl⟩⟩; refine ⟨_, rfl, ?_⟩) | ((with_reducible refine qg (f := 12) rfl ?_); refine goesL_ (some 63) rfl rfl Try.func12 (by kernel_rfl) rfl #[.slice A0 l0.length c0] rfl (by (try simp only [List.map_toArray, List.map_cons, List.map_nil]); first | done | rfl | (simp only [List.length_drop, List.length_take]; rfl)) ?_; (with_reducible refine (laws_toSessionS.calls kj15 _ _ l0 t200 _ ?side1 ?side2 A39.out).mono ?_); (case side1 => repeat (first | exact (Kd.C_below HR0.out (by repeat (first | (with_reducible first | exact HB.out | apply qe | apply qd | apply qf) | exact HB.out))) | (with_reducible refine qh ?_ _) | (with_reducible refine qi ?_ _) | (with_reducible refine qj ?_))); (case side2 => exact HC0.out); rintro e w59 ⟨v201, rfl, ho0, hb⟩; refine ⟨_, rfl, ?_⟩; have n0_ := Aside0.mk (Kd.R_elder' (by (with_reducible repeat (first | apply qa | apply qb | apply qc)); exact HO_8.out) (ql ho0) hb); have n1_ := Aside0.mk (Kd.R_elder' (by (with_reducible repeat (first | apply qa | apply qb | apply qc)); exact HO_10.out) (ql ho0) hb); have n2_ := Aside0.mk (qp (Kd.R_new' (Kd.R_new' ho0 (qn (by (with_reducible repeat (first | apply qa | apply qb | apply qc)); exact HO_8.out))) (qn (by (with_reducible repeat (first | apply qa | apply qb | apply qc)); exact HO_10.out))) (qq (by repeat (first | (with_reducible first | exact HB.out | apply qe | apply qd | apply qf) | exact HB.out)))); have n3_ := Aside0.mk (qm (by repeat (first | (with_reducible first | exact HB.out | apply qe | apply qd | apply qf) | exact HB.out)) hb); clear HO_8; clear HO_10; clear HB; have HO_8 := n0_; have HO_10 := n1_; have HO202 := n2_; have HB := n3_; clear n0_ n1_ n2_ n3_; (try clear hb); (try clear hb2); (try clear hk); (try clear hi); (try clear ho0); obtain ⟨Ao60, co60, eo60⟩ := qo HO202.out; subst eo60) | ((with_reducible refine qg (f := 13) rfl ?_); refine goesL_ (some 66) rfl rfl Try.func13 (by kernel_rfl) rfl #[.slice Ao60 t200.length co60, .int .i64 a1, .int .i64 a2] rfl (by (try simp only [List.map_toArray, List.map_cons, List.map_nil]); first | done | rfl | (simp only [List.length_drop, List.length_take]; rfl)) ?_; (with_reducible refine (impl_ClosedSessions.calls kj15 _ _ t200 a1 a2 t203 _ ?side1 ?side2 A40.out).mono ?_); (case side1 => repeat (first | exact (Kd.R_reads' HO202.out).2.2 | (with_reducible refine qh ?_ _) | (with_reducible refine qi ?_ _) | (with_reducible refine qj ?_))); (case side2 => exact (Kd.R_reads' HO202.out).2.1); rintro e w61 ⟨v204, rfl, ho0, hb⟩; refine ⟨_, rfl, ?_⟩; have n0_ := Aside0.mk (Kd.R_elder' (by (with_reducible repeat (first | apply qa | apply qb | apply qc)); exact HO_8.out) (ql ho0) hb); have n1_ := Aside0.mk (Kd.R_elder' (by (with_reducible repeat (first | apply qa | apply qb | apply qc)); exact HO_10.out) (ql ho0) hb); have n2_ := Aside0.mk (Kd.R_elder' (by (with_reducible repeat (first | apply qa | apply qb | apply qc)); exact HO202.out) (ql ho0) hb); have n3_ := Aside0.mk (qp (Kd.R_new' (Kd.R_new' (Kd.R_new' ho0 (qn (by (with_reducible repeat (first | apply qa | apply qb | apply qc)); exact HO_8.out))) (qn (by (with_reducible repeat (first | apply qa | apply qb | apply qc)); exact HO_10.out))) (qn (by (with_reducible repeat (first | apply qa | apply qb | apply qc)); exact HO202.out))) (qq (by repeat (first | (with_reducible first | exact HB.out | apply qe | apply qd | apply qf) | exact HB.out)))); have n4_ := Aside0.mk (qm (by repeat (first | (with_reducible first | exact HB.out | apply qe | apply qd | apply qf) | exact HB.out)) hb); clear HO_8; clear HO_10; clear HO202; clear HB; have HO_8 := n0_; have HO_10 := n1_; have HO202 := n2_; have HO205 := n3_; have HB := n4_; clear n0_ n1_ n2_ n3_ n4_; (try clear hb); (try clear hb2); (try clear hk); (try clear hi); (try clear ho0); obtain ⟨Ao62, co62, eo62⟩ := qo HO205.out; subst eo62) | ((with_reducible refine qg (f := 14) rfl ?_); refine goesL_ (some 69) rfl rfl Try.func14 (by kernel_rfl) rfl #[.slice Ao62 t203.length co62, .slice Ao24 t180.length co24] rfl (by (try simp only [List.map_toArray, List.map_cons, List.map_nil]); first | done | rfl | (simp only [List.length_drop, List.length_take]; rfl)) ?_; (with_reducible refine (laws_eqSessionS.calls kj15 _ _ t203 _ _ t180 true _ ?side1 ?side2 ?side3 ?side4 A41.out).mono ?_); (case side1 => repeat (first | exact (Kd.R_reads' HO205.out).2.2 | (with_reducible refine qh ?_ _) | (with_reducible refine qi ?_ _) | (with_reducible refine qj ?_))); (case side2 => exact (Kd.R_reads' HO205.out).2.1); (case side3 => repeat (first | exact (Kd.R_reads' HO_8.out).2.2 | (with_reducible refine qh ?_ _) | (with_reducible refine qi ?_ _) | (with_reducible refine qj ?_))); (case side4 => exact (Kd.R_reads' HO_8.out).2.1); rintro e w63 ⟨rfl, hb⟩; refine ⟨_, rfl, ?_⟩; have n0_ := Aside0.mk (qk (by (with_reducible repeat (first | apply qa | apply qb | apply qc)); exact HO_8.out) hb); have n1_ := Aside0.mk (qk (by (with_reducible repeat (first | apply qa | apply qb | apply qc)); exact HO_10.out) hb); have n2_ := Aside0.mk (qk (by (with_reducible repeat (first | apply qa | apply qb | apply qc)); exact HO202.out) hb); have n3_ := Aside0.mk (qk (by (with_reducible repeat (first | apply qa | apply qb | apply qc)); exact HO205.out) hb); have n4_ := Aside0.mk (qm (by repeat (first | (with_reducible first | exact HB.out | apply qe | apply qd | apply qf) | exact HB.out)) hb); clear HO_8; clear HO_10; clear HO202; clear HO205; clear HB; have HO_8 := n0_; have HO_10 := n1_; have HO202 := n2_; have HO205 := n3_; have HB := n4_; clear n0_ n1_ n2_ n3_ n4_; (try clear hb); (try clear hb2); (try clear hk); (try clear hi)) | ((with_reducible refine qg (f := 16) rfl ?_); refine goesL_ (some 73) rfl rfl Try.func16 (by kernel_rfl) rfl #[.slice Ao23 t198.length co23, .int .i64 1] rfl (by (try simp only [List.map_toArray, List.map_cons, List.map_nil]); first | done | (rw [show t198.length = t186.length from (Kd.R_reads' HO_10.out).1.symm] <;> rfl) | rfl | (simp only [List.length_drop, List.length_take]; rfl)) ?_; (with_reducible refine (laws_heldSessionS.calls kj15 _ _ t198 1 t207 _ ?side1 ?side2 A43.out).mono ?_); (case side1 => repeat (first | exact (Kd.R_reads' HO_10.out).2.2 | (with_reducible refine qh ?_ _) | (with_reducible refine qi ?_ _) | (with_reducible refine qj ?_))); (case side2 => rw [show t198.length = t186.length from (Kd.R_reads' HO_10.out).1.symm]; exact (Kd.R_reads' HO_10.out).2.1); rintro e w' ⟨rfl, ⟨nd, rfl⟩⟩; refine ⟨_, rfl, ?_⟩))
            go_ret
            exact ⟨by first | rfl | (simp [errW_none, errW_some] <;> rfl) | (simp [*, errW_none, errW_some] <;> rfl), by repeat (first | (with_reducible first | exact HB.out | apply qe | apply qd | apply qf) | exact HB.out)⟩
         ·
          replace c42 := Bool.eq_false_iff.mpr c42
          subst c42
          have H1 : (some false) = some r := by rw [if_neg (show ¬ (false = true) by decide)] at H; exact H
          clear H
          have H := H1
          clear H1
          obtain rfl := Option.some.inj H
          go_wp2_with (first | ((with_reducible refine qg (f := 15) rfl ?_); refine goesL_ (some 53) rfl rfl Try.func15 (by kernel_rfl) rfl #[.slice Ao23 t186.length co23, .int .i64 1] rfl (by (try simp only [List.map_toArray, List.map_cons, List.map_nil]); first | done | rfl | (simp only [List.length_drop, List.length_take]; rfl)) ?_; (with_reducible refine (laws_markSessionS.calls kj15 (fun k_ => some k_ = (.slice Ao23 t186.length co23 : Value).ownBlock) (.slice Ao23 t186.length co23) t186 1 t197 t198 w _ ?side1 ?side2 A34.out).mono ?_); (case side1 => repeat (first | (with_reducible first | exact HB.out | apply qe | apply qd | apply qf) | exact HB.out)); (case side2 => exact Kd.R_tight rfl HO_10.out); rintro e w64 ⟨rfl, hy0, hb, hkp⟩; refine ⟨_, rfl, ?_⟩; have n0_ := Aside0.mk (Kd.R_mono (ok' := fun k_ => some k_ ≠ (.slice Ao23 t186.length co23 : Value).ownBlock) (Kd.R_keptB (HO_8.out) hkp (fun k_ hk_ hs_ => (hk_) hs_)) (fun k_ hk_ => hk_.1)); have n1_ := Aside0.mk (Kd.R_reok rfl hy0 (fun k_ e_ => HO_10.out.1 k_ e_)); have n2_ := Aside0.mk (hb); clear HO_8; clear HO_10; clear HB; have HO_8 := n0_; have HO_10 := n1_; have HB := n2_; clear n0_ n1_ n2_; (try clear hb); (try clear hkp); (try clear hy0)) | ((with_reducible refine qg (f := 16) rfl ?_); refine goesL_ (some 56) rfl rfl Try.func16 (by kernel_rfl) rfl #[.slice Ao23 t198.length co23, .int .i64 1] rfl (by (try simp only [List.map_toArray, List.map_cons, List.map_nil]); first | done | (rw [show t198.length = t186.length from (Kd.R_reads' HO_10.out).1.symm] <;> rfl) | rfl | (simp only [List.length_drop, List.length_take]; rfl)) ?_; (with_reducible refine (laws_heldSessionS.calls kj15 _ _ t198 1 t199 _ ?side1 ?side2 A35.out).mono ?_); (case side1 => repeat (first | exact (Kd.R_reads' HO_10.out).2.2 | (with_reducible refine qh ?_ _) | (with_reducible refine qi ?_ _) | (with_reducible refine qj ?_))); (case side2 => rw [show t198.length = t186.length from (Kd.R_reads' HO_10.out).1.symm]; exact (Kd.R_reads' HO_10.out).2.1); rintro e w' ⟨rfl, ⟨nd, rfl⟩⟩; refine ⟨_, rfl, ?_⟩) | ((with_reducible refine qg (f := 12) rfl ?_); refine goesL_ (some 63) rfl rfl Try.func12 (by kernel_rfl) rfl #[.slice A0 l0.length c0] rfl (by (try simp only [List.map_toArray, List.map_cons, List.map_nil]); first | done | rfl | (simp only [List.length_drop, List.length_take]; rfl)) ?_; (with_reducible refine (laws_toSessionS.calls kj15 _ _ l0 t200 _ ?side1 ?side2 A39.out).mono ?_); (case side1 => repeat (first | exact (Kd.C_below HR0.out (by repeat (first | (with_reducible first | exact HB.out | apply qe | apply qd | apply qf) | exact HB.out))) | (with_reducible refine qh ?_ _) | (with_reducible refine qi ?_ _) | (with_reducible refine qj ?_))); (case side2 => exact HC0.out); rintro e w65 ⟨v201, rfl, ho0, hb⟩; refine ⟨_, rfl, ?_⟩; have n0_ := Aside0.mk (Kd.R_elder' (by (with_reducible repeat (first | apply qa | apply qb | apply qc)); exact HO_8.out) (ql ho0) hb); have n1_ := Aside0.mk (Kd.R_elder' (by (with_reducible repeat (first | apply qa | apply qb | apply qc)); exact HO_10.out) (ql ho0) hb); have n2_ := Aside0.mk (qp (Kd.R_new' (Kd.R_new' ho0 (qn (by (with_reducible repeat (first | apply qa | apply qb | apply qc)); exact HO_8.out))) (qn (by (with_reducible repeat (first | apply qa | apply qb | apply qc)); exact HO_10.out))) (qq (by repeat (first | (with_reducible first | exact HB.out | apply qe | apply qd | apply qf) | exact HB.out)))); have n3_ := Aside0.mk (qm (by repeat (first | (with_reducible first | exact HB.out | apply qe | apply qd | apply qf) | exact HB.out)) hb); clear HO_8; clear HO_10; clear HB; have HO_8 := n0_; have HO_10 := n1_; have HO202 := n2_; have HB := n3_; clear n0_ n1_ n2_ n3_; (try clear hb); (try clear hb2); (try clear hk); (try clear hi); (try clear ho0); obtain ⟨Ao66, co66, eo66⟩ := qo HO202.out; subst eo66) | ((with_reducible refine qg (f := 13) rfl ?_); refine goesL_ (some 66) rfl rfl Try.func13 (by kernel_rfl) rfl #[.slice Ao66 t200.length co66, .int .i64 a1, .int .i64 a2] rfl (by (try simp only [List.map_toArray, List.map_cons, List.map_nil]); first | done | rfl | (simp only [List.length_drop, List.length_take]; rfl)) ?_; (with_reducible refine (impl_ClosedSessions.calls kj15 _ _ t200 a1 a2 t203 _ ?side1 ?side2 A40.out).mono ?_); (case side1 => repeat (first | exact (Kd.R_reads' HO202.out).2.2 | (with_reducible refine qh ?_ _) | (with_reducible refine qi ?_ _) | (with_reducible refine qj ?_))); (case side2 => exact (Kd.R_reads' HO202.out).2.1); rintro e w67 ⟨v204, rfl, ho0, hb⟩; refine ⟨_, rfl, ?_⟩; have n0_ := Aside0.mk (Kd.R_elder' (by (with_reducible repeat (first | apply qa | apply qb | apply qc)); exact HO_8.out) (ql ho0) hb); have n1_ := Aside0.mk (Kd.R_elder' (by (with_reducible repeat (first | apply qa | apply qb | apply qc)); exact HO_10.out) (ql ho0) hb); have n2_ := Aside0.mk (Kd.R_elder' (by (with_reducible repeat (first | apply qa | apply qb | apply qc)); exact HO202.out) (ql ho0) hb); have n3_ := Aside0.mk (qp (Kd.R_new' (Kd.R_new' (Kd.R_new' ho0 (qn (by (with_reducible repeat (first | apply qa | apply qb | apply qc)); exact HO_8.out))) (qn (by (with_reducible repeat (first | apply qa | apply qb | apply qc)); exact HO_10.out))) (qn (by (with_reducible repeat (first | apply qa | apply qb | apply qc)); exact HO202.out))) (qq (by repeat (first | (with_reducible first | exact HB.out | apply qe | apply qd | apply qf) | exact HB.out)))); have n4_ := Aside0.mk (qm (by repeat (first | (with_reducible first | exact HB.out | apply qe | apply qd | apply qf) | exact HB.out)) hb); clear HO_8; clear HO_10; clear HO202; clear HB; have HO_8 := n0_; have HO_10 := n1_; have HO202 := n2_; have HO205 := n3_; have HB := n4_; clear n0_ n1_ n2_ n3_ n4_; (try clear hb); (try clear hb2); (try clear hk); (try clear hi); (try clear ho0); obtain ⟨Ao68, co68, eo68⟩ := qo HO205.out; subst eo68) | ((with_reducible refine qg (f := 14) rfl ?_); refine goesL_ (some 69) rfl rfl Try.func14 (by kernel_rfl) rfl #[.slice Ao68 t203.length co68, .slice Ao24 t180.length co24] rfl (by (try simp only [List.map_toArray, List.map_cons, List.map_nil]); first | done | rfl | (simp only [List.length_drop, List.length_take]; rfl)) ?_; (with_reducible refine (laws_eqSessionS.calls kj15 _ _ t203 _ _ t180 false _ ?side1 ?side2 ?side3 ?side4 A41.out).mono ?_); (case side1 => repeat (first | exact (Kd.R_reads' HO205.out).2.2 | (with_reducible refine qh ?_ _) | (with_reducible refine qi ?_ _) | (with_reducible refine qj ?_))); (case side2 => exact (Kd.R_reads' HO205.out).2.1); (case side3 => repeat (first | exact (Kd.R_reads' HO_8.out).2.2 | (with_reducible refine qh ?_ _) | (with_reducible refine qi ?_ _) | (with_reducible refine qj ?_))); (case side4 => exact (Kd.R_reads' HO_8.out).2.1); rintro e w69 ⟨rfl, hb⟩; refine ⟨_, rfl, ?_⟩; have n0_ := Aside0.mk (qk (by (with_reducible repeat (first | apply qa | apply qb | apply qc)); exact HO_8.out) hb); have n1_ := Aside0.mk (qk (by (with_reducible repeat (first | apply qa | apply qb | apply qc)); exact HO_10.out) hb); have n2_ := Aside0.mk (qk (by (with_reducible repeat (first | apply qa | apply qb | apply qc)); exact HO202.out) hb); have n3_ := Aside0.mk (qk (by (with_reducible repeat (first | apply qa | apply qb | apply qc)); exact HO205.out) hb); have n4_ := Aside0.mk (qm (by repeat (first | (with_reducible first | exact HB.out | apply qe | apply qd | apply qf) | exact HB.out)) hb); clear HO_8; clear HO_10; clear HO202; clear HO205; clear HB; have HO_8 := n0_; have HO_10 := n1_; have HO202 := n2_; have HO205 := n3_; have HB := n4_; clear n0_ n1_ n2_ n3_ n4_; (try clear hb); (try clear hb2); (try clear hk); (try clear hi)))
          go_ret
          exact ⟨by first | rfl | (simp [errW_none, errW_some] <;> rfl) | (simp [*, errW_none, errW_some] <;> rfl), by repeat (first | (with_reducible first | exact HB.out | apply qe | apply qd | apply qf) | exact HB.out)⟩
        ·
         rw [if_neg c38] at H
         have c38b0 : (t199 == t197) = false := beq_eq_false_iff_ne.mpr c38
         have c38b1 : (t199 != t197) = true := bne_iff_ne.mpr c38
         obtain rfl := Option.some.inj H
         go_wp2_with (first | ((with_reducible refine qg (f := 15) rfl ?_); refine goesL_ (some 53) rfl rfl Try.func15 (by kernel_rfl) rfl #[.slice Ao23 t186.length co23, .int .i64 1] rfl (by (try simp only [List.map_toArray, List.map_cons, List.map_nil]); first | done | rfl | (simp only [List.length_drop, List.length_take]; rfl)) ?_; (with_reducible refine (laws_markSessionS.calls kj15 (fun k_ => some k_ = (.slice Ao23 t186.length co23 : Value).ownBlock) (.slice Ao23 t186.length co23) t186 1 t197 t198 w _ ?side1 ?side2 A34.out).mono ?_); (case side1 => repeat (first | (with_reducible first | exact HB.out | apply qe | apply qd | apply qf) | exact HB.out)); (case side2 => exact Kd.R_tight rfl HO_10.out); rintro e w70 ⟨rfl, hy0, hb, hkp⟩; refine ⟨_, rfl, ?_⟩; have n0_ := Aside0.mk (Kd.R_mono (ok' := fun k_ => some k_ ≠ (.slice Ao23 t186.length co23 : Value).ownBlock) (Kd.R_keptB (HO_8.out) hkp (fun k_ hk_ hs_ => (hk_) hs_)) (fun k_ hk_ => hk_.1)); have n1_ := Aside0.mk (Kd.R_reok rfl hy0 (fun k_ e_ => HO_10.out.1 k_ e_)); have n2_ := Aside0.mk (hb); clear HO_8; clear HO_10; clear HB; have HO_8 := n0_; have HO_10 := n1_; have HB := n2_; clear n0_ n1_ n2_; (try clear hb); (try clear hkp); (try clear hy0)) | ((with_reducible refine qg (f := 16) rfl ?_); refine goesL_ (some 56) rfl rfl Try.func16 (by kernel_rfl) rfl #[.slice Ao23 t198.length co23, .int .i64 1] rfl (by (try simp only [List.map_toArray, List.map_cons, List.map_nil]); first | done | (rw [show t198.length = t186.length from (Kd.R_reads' HO_10.out).1.symm] <;> rfl) | rfl | (simp only [List.length_drop, List.length_take]; rfl)) ?_; (with_reducible refine (laws_heldSessionS.calls kj15 _ _ t198 1 t199 _ ?side1 ?side2 A35.out).mono ?_); (case side1 => repeat (first | exact (Kd.R_reads' HO_10.out).2.2 | (with_reducible refine qh ?_ _) | (with_reducible refine qi ?_ _) | (with_reducible refine qj ?_))); (case side2 => rw [show t198.length = t186.length from (Kd.R_reads' HO_10.out).1.symm]; exact (Kd.R_reads' HO_10.out).2.1); rintro e w' ⟨rfl, ⟨nd, rfl⟩⟩; refine ⟨_, rfl, ?_⟩))
         go_ret
         exact ⟨by first | rfl | (simp [errW_none, errW_some] <;> rfl) | (simp [*, errW_none, errW_some] <;> rfl), by repeat (first | (with_reducible first | exact HB.out | apply qe | apply qd | apply qf) | exact HB.out)⟩
   ·
    replace c14 := Bool.eq_false_iff.mpr c14
    subst c14
    have H1 : (some false) = some r := by rw [if_neg (show ¬ (false = true) by decide)] at H; exact H
    clear H
    have H := H1
    clear H1
    obtain rfl := Option.some.inj H
    go_enter Try.func3, Try.ntmps3
    go_wp2_with (first | ((with_reducible refine qg (f := 10) rfl ?_); refine goesL_ (some 17) rfl rfl Try.func10 (by kernel_rfl) rfl #[.slice A0 l0.length c0, .int .i64 1048576] rfl (by (try simp only [List.map_toArray, List.map_cons, List.map_nil]); first | done | rfl | (simp only [List.length_drop, List.length_take]; rfl)) ?_; (with_reducible refine (laws_szSessionS.calls _ _ l0 1048576 t176 _ ?side1 ?side2 A4.out).mono ?_); (case side1 => repeat (first | exact HR0.out | (with_reducible refine qh ?_ _) | (with_reducible refine qi ?_ _) | (with_reducible refine qj ?_))); (case side2 => exact HC0.out); rintro e w' ⟨rfl, ⟨nd, rfl⟩⟩; refine ⟨_, rfl, ?_⟩) | ((with_reducible refine qg (f := 12) rfl ?_); refine goesL_ (some 21) rfl rfl Try.func12 (by kernel_rfl) rfl #[.slice A0 l0.length c0] rfl (by (try simp only [List.map_toArray, List.map_cons, List.map_nil]); first | done | rfl | (simp only [List.length_drop, List.length_take]; rfl)) ?_; (with_reducible refine (laws_toSessionS.calls k _ _ l0 t177 _ ?side1 ?side2 A6.out).mono ?_); (case side1 => repeat (first | exact HR0.out | (with_reducible refine qh ?_ _) | (with_reducible refine qi ?_ _) | (with_reducible refine qj ?_))); (case side2 => exact HC0.out); rintro e w71 ⟨v178, rfl, ho0, hb⟩; refine ⟨_, rfl, ?_⟩; have n0_ := Aside0.mk (qp ho0 (qq (by repeat (first | (with_reducible first | exact HB.out | apply qe | apply qd | apply qf) | exact HB.out)))); have n1_ := Aside0.mk (qm (by repeat (first | (with_reducible first | exact HB.out | apply qe | apply qd | apply qf) | exact HB.out)) hb); clear HB; have HO179 := n0_; have HB := n1_; clear n0_ n1_; (try clear hb); (try clear hb2); (try clear hk); (try clear hi); (try clear ho0); obtain ⟨Ao72, co72, eo72⟩ := qo HO179.out; subst eo72) | ((with_reducible refine qg (f := 11) rfl ?_); refine goesL_ (some 24) rfl rfl Try.func11 (by kernel_rfl) rfl #[.slice Ao72 t177.length co72, .int .i64 a1, .int .i64 a2] rfl (by (try simp only [List.map_toArray, List.map_cons, List.map_nil]); first | done | rfl | (simp only [List.length_drop, List.length_take]; rfl)) ?_; (with_reducible refine (spec_ClosedSessions.calls k _ _ t177 a1 a2 t180 _ ?side1 ?side2 A7.out).mono ?_); (case side1 => repeat (first | exact (Kd.R_reads' HO179.out).2.2 | (with_reducible refine qh ?_ _) | (with_reducible refine qi ?_ _) | (with_reducible refine qj ?_))); (case side2 => exact (Kd.R_reads' HO179.out).2.1); rintro e w73 ⟨v181, rfl, ho0, hb⟩; refine ⟨_, rfl, ?_⟩; have n0_ := Aside0.mk (Kd.R_elder' (by (with_reducible repeat (first | apply qa | apply qb | apply qc)); exact HO179.out) (ql ho0) hb); have n1_ := Aside0.mk (qp (Kd.R_new' ho0 (qn (by (with_reducible repeat (first | apply qa | apply qb | apply qc)); exact HO179.out))) (qq (by repeat (first | (with_reducible first | exact HB.out | apply qe | apply qd | apply qf) | exact HB.out)))); have n2_ := Aside0.mk (qm (by repeat (first | (with_reducible first | exact HB.out | apply qe | apply qd | apply qf) | exact HB.out)) hb); clear HO179; clear HB; have HO179 := n0_; have HO182 := n1_; have HB := n2_; clear n0_ n1_ n2_; (try clear hb); (try clear hb2); (try clear hk); (try clear hi); (try clear ho0)) | ((with_reducible refine qg (f := 12) rfl ?_); refine goesL_ (some 26) rfl rfl Try.func12 (by kernel_rfl) rfl #[.slice A0 l0.length c0] rfl (by (try simp only [List.map_toArray, List.map_cons, List.map_nil]); first | done | rfl | (simp only [List.length_drop, List.length_take]; rfl)) ?_; (with_reducible refine (laws_toSessionS.calls k _ _ l0 t183 _ ?side1 ?side2 A8.out).mono ?_); (case side1 => repeat (first | exact (Kd.C_below HR0.out HB.out) | (with_reducible refine qh ?_ _) | (with_reducible refine qi ?_ _) | (with_reducible refine qj ?_))); (case side2 => exact HC0.out); rintro e w74 ⟨v184, rfl, ho0, hb⟩; refine ⟨_, rfl, ?_⟩; have n0_ := Aside0.mk (Kd.R_elder' (by (with_reducible repeat (first | apply qa | apply qb | apply qc)); exact HO179.out) (ql ho0) hb); have n1_ := Aside0.mk (Kd.R_elder' (by (with_reducible repeat (first | apply qa | apply qb | apply qc)); exact HO182.out) (ql ho0) hb); have n2_ := Aside0.mk (qp (Kd.R_new' (Kd.R_new' ho0 (qn (by (with_reducible repeat (first | apply qa | apply qb | apply qc)); exact HO179.out))) (qn (by (with_reducible repeat (first | apply qa | apply qb | apply qc)); exact HO182.out))) (qq (by repeat (first | (with_reducible first | exact HB.out | apply qe | apply qd | apply qf) | exact HB.out)))); have n3_ := Aside0.mk (qm (by repeat (first | (with_reducible first | exact HB.out | apply qe | apply qd | apply qf) | exact HB.out)) hb); clear HO179; clear HO182; clear HB; have HO179 := n0_; have HO182 := n1_; have HO185 := n2_; have HB := n3_; clear n0_ n1_ n2_ n3_; (try clear hb); (try clear hb2); (try clear hk); (try clear hi); (try clear ho0); obtain ⟨Ao75, co75, eo75⟩ := qo HO185.out; subst eo75) | ((with_reducible refine qg (f := 13) rfl ?_); refine goesL_ (some 30) rfl rfl Try.func13 (by kernel_rfl) rfl #[.slice Ao75 t183.length co75, .int .i64 a1, .int .i64 a2] rfl (by (try simp only [List.map_toArray, List.map_cons, List.map_nil]); first | done | rfl | (simp only [List.length_drop, List.length_take]; rfl)) ?_; (with_reducible refine (impl_ClosedSessions.calls k _ _ t183 a1 a2 t186 _ ?side1 ?side2 A9.out).mono ?_); (case side1 => repeat (first | exact (Kd.R_reads' HO185.out).2.2 | (with_reducible refine qh ?_ _) | (with_reducible refine qi ?_ _) | (with_reducible refine qj ?_))); (case side2 => exact (Kd.R_reads' HO185.out).2.1); rintro e w76 ⟨v187, rfl, ho0, hb⟩; refine ⟨_, rfl, ?_⟩; have n0_ := Aside0.mk (Kd.R_elder' (by (with_reducible repeat (first | apply qa | apply qb | apply qc)); exact HO179.out) (ql ho0) hb); have n1_ := Aside0.mk (Kd.R_elder' (by (with_reducible repeat (first | apply qa | apply qb | apply qc)); exact HO182.out) (ql ho0) hb); have n2_ := Aside0.mk (Kd.R_elder' (by (with_reducible repeat (first | apply qa | apply qb | apply qc)); exact HO185.out) (ql ho0) hb); have n3_ := Aside0.mk (qp (Kd.R_new' (Kd.R_new' (Kd.R_new' ho0 (qn (by (with_reducible repeat (first | apply qa | apply qb | apply qc)); exact HO179.out))) (qn (by (with_reducible repeat (first | apply qa | apply qb | apply qc)); exact HO182.out))) (qn (by (with_reducible repeat (first | apply qa | apply qb | apply qc)); exact HO185.out))) (qq (by repeat (first | (with_reducible first | exact HB.out | apply qe | apply qd | apply qf) | exact HB.out)))); have n4_ := Aside0.mk (qm (by repeat (first | (with_reducible first | exact HB.out | apply qe | apply qd | apply qf) | exact HB.out)) hb); clear HO179; clear HO182; clear HO185; clear HB; have HO179 := n0_; have HO182 := n1_; have HO185 := n2_; have HO188 := n3_; have HB := n4_; clear n0_ n1_ n2_ n3_ n4_; (try clear hb); (try clear hb2); (try clear hk); (try clear hi); (try clear ho0); obtain ⟨Ao77, co77, eo77⟩ := qo HO188.out; subst eo77; obtain ⟨Ao78, co78, eo78⟩ := qo HO182.out; subst eo78) | ((with_reducible refine qg (f := 14) rfl ?_); refine goesL_ (some 33) rfl rfl Try.func14 (by kernel_rfl) rfl #[.slice Ao77 t186.length co77, .slice Ao78 t180.length co78] rfl (by (try simp only [List.map_toArray, List.map_cons, List.map_nil]); first | done | rfl | (simp only [List.length_drop, List.length_take]; rfl)) ?_; (with_reducible refine (laws_eqSessionS.calls k _ _ t186 _ _ t180 true _ ?side1 ?side2 ?side3 ?side4 A10.out).mono ?_); (case side1 => repeat (first | exact (Kd.R_reads' HO188.out).2.2 | (with_reducible refine qh ?_ _) | (with_reducible refine qi ?_ _) | (with_reducible refine qj ?_))); (case side2 => exact (Kd.R_reads' HO188.out).2.1); (case side3 => repeat (first | exact (Kd.R_reads' HO182.out).2.2 | (with_reducible refine qh ?_ _) | (with_reducible refine qi ?_ _) | (with_reducible refine qj ?_))); (case side4 => exact (Kd.R_reads' HO182.out).2.1); rintro e w79 ⟨rfl, hb⟩; refine ⟨_, rfl, ?_⟩; have n0_ := Aside0.mk (qk (by (with_reducible repeat (first | apply qa | apply qb | apply qc)); exact HO179.out) hb); have n1_ := Aside0.mk (qk (by (with_reducible repeat (first | apply qa | apply qb | apply qc)); exact HO182.out) hb); have n2_ := Aside0.mk (qk (by (with_reducible repeat (first | apply qa | apply qb | apply qc)); exact HO185.out) hb); have n3_ := Aside0.mk (qk (by (with_reducible repeat (first | apply qa | apply qb | apply qc)); exact HO188.out) hb); have n4_ := Aside0.mk (qm (by repeat (first | (with_reducible first | exact HB.out | apply qe | apply qd | apply qf) | exact HB.out)) hb); clear HO179; clear HO182; clear HO185; clear HO188; clear HB; have HO179 := n0_; have HO182 := n1_; have HO185 := n2_; have HO188 := n3_; have HB := n4_; clear n0_ n1_ n2_ n3_ n4_; (try clear hb); (try clear hb2); (try clear hk); (try clear hi)) | ((with_reducible refine qg (f := 12) rfl ?_); refine goesL_ (some 37) rfl rfl Try.func12 (by kernel_rfl) rfl #[.slice A0 l0.length c0] rfl (by (try simp only [List.map_toArray, List.map_cons, List.map_nil]); first | done | rfl | (simp only [List.length_drop, List.length_take]; rfl)) ?_; (with_reducible refine (laws_toSessionS.calls k _ _ l0 t190 _ ?side1 ?side2 A12.out).mono ?_); (case side1 => repeat (first | exact (Kd.C_below HR0.out HB.out) | (with_reducible refine qh ?_ _) | (with_reducible refine qi ?_ _) | (with_reducible refine qj ?_))); (case side2 => exact HC0.out); rintro e w80 ⟨v191, rfl, ho0, hb⟩; refine ⟨_, rfl, ?_⟩; have n0_ := Aside0.mk (Kd.R_elder' (by (with_reducible repeat (first | apply qa | apply qb | apply qc)); exact HO179.out) (ql ho0) hb); have n1_ := Aside0.mk (Kd.R_elder' (by (with_reducible repeat (first | apply qa | apply qb | apply qc)); exact HO182.out) (ql ho0) hb); have n2_ := Aside0.mk (Kd.R_elder' (by (with_reducible repeat (first | apply qa | apply qb | apply qc)); exact HO185.out) (ql ho0) hb); have n3_ := Aside0.mk (Kd.R_elder' (by (with_reducible repeat (first | apply qa | apply qb | apply qc)); exact HO188.out) (ql ho0) hb); have n4_ := Aside0.mk (qp (Kd.R_new' (Kd.R_new' (Kd.R_new' (Kd.R_new' ho0 (qn (by (with_reducible repeat (first | apply qa | apply qb | apply qc)); exact HO179.out))) (qn (by (with_reducible repeat (first | apply qa | apply qb | apply qc)); exact HO182.out))) (qn (by (with_reducible repeat (first | apply qa | apply qb | apply qc)); exact HO185.out))) (qn (by (with_reducible repeat (first | apply qa | apply qb | apply qc)); exact HO188.out))) (qq (by repeat (first | (with_reducible first | exact HB.out | apply qe | apply qd | apply qf) | exact HB.out)))); have n5_ := Aside0.mk (qm (by repeat (first | (with_reducible first | exact HB.out | apply qe | apply qd | apply qf) | exact HB.out)) hb); clear HO179; clear HO182; clear HO185; clear HO188; clear HB; have HO179 := n0_; have HO182 := n1_; have HO185 := n2_; have HO188 := n3_; have HO192 := n4_; have HB := n5_; clear n0_ n1_ n2_ n3_ n4_ n5_; (try clear hb); (try clear hb2); (try clear hk); (try clear hi); (try clear ho0); obtain ⟨Ao81, co81, eo81⟩ := qo HO192.out; subst eo81) | ((with_reducible refine qg (f := 14) rfl ?_); refine goesL_ (some 38) rfl rfl Try.func14 (by kernel_rfl) rfl #[.slice Ao75 t183.length co75, .slice Ao81 t190.length co81] rfl (by (try simp only [List.map_toArray, List.map_cons, List.map_nil]); first | done | rfl | (simp only [List.length_drop, List.length_take]; rfl)) ?_; (with_reducible refine (laws_eqSessionS.calls k _ _ t183 _ _ t190 false _ ?side1 ?side2 ?side3 ?side4 A13.out).mono ?_); (case side1 => repeat (first | exact (Kd.R_reads' HO185.out).2.2 | (with_reducible refine qh ?_ _) | (with_reducible refine qi ?_ _) | (with_reducible refine qj ?_))); (case side2 => exact (Kd.R_reads' HO185.out).2.1); (case side3 => repeat (first | exact (Kd.R_reads' HO192.out).2.2 | (with_reducible refine qh ?_ _) | (with_reducible refine qi ?_ _) | (with_reducible refine qj ?_))); (case side4 => exact (Kd.R_reads' HO192.out).2.1); rintro e w82 ⟨rfl, hb⟩; refine ⟨_, rfl, ?_⟩; have n0_ := Aside0.mk (qk (by (with_reducible repeat (first | apply qa | apply qb | apply qc)); exact HO179.out) hb); have n1_ := Aside0.mk (qk (by (with_reducible repeat (first | apply qa | apply qb | apply qc)); exact HO182.out) hb); have n2_ := Aside0.mk (qk (by (with_reducible repeat (first | apply qa | apply qb | apply qc)); exact HO185.out) hb); have n3_ := Aside0.mk (qk (by (with_reducible repeat (first | apply qa | apply qb | apply qc)); exact HO188.out) hb); have n4_ := Aside0.mk (qk (by (with_reducible repeat (first | apply qa | apply qb | apply qc)); exact HO192.out) hb); have n5_ := Aside0.mk (qm (by repeat (first | (with_reducible first | exact HB.out | apply qe | apply qd | apply qf) | exact HB.out)) hb); clear HO179; clear HO182; clear HO185; clear HO188; clear HO192; clear HB; have HO179 := n0_; have HO182 := n1_; have HO185 := n2_; have HO188 := n3_; have HO192 := n4_; have HB := n5_; clear n0_ n1_ n2_ n3_ n4_ n5_; (try clear hb); (try clear hb2); (try clear hk); (try clear hi)))
    go_ret
    exact ⟨by first | rfl | (simp [errW_none, errW_some] <;> rfl) | (simp [*, errW_none, errW_some] <;> rfl), by repeat (first | (with_reducible first | exact HB.out | apply qe | apply qd | apply qf) | exact HB.out)⟩
  ·
   replace c11 := Bool.eq_false_iff.mpr c11
   subst c11
   have H1 : (some false) = some r := by rw [if_neg (show ¬ (false = true) by decide)] at H; exact H
   clear H
   have H := H1
   clear H1
   obtain rfl := Option.some.inj H
   go_enter Try.func3, Try.ntmps3
   go_wp2_with (first | ((with_reducible refine qg (f := 10) rfl ?_); refine goesL_ (some 17) rfl rfl Try.func10 (by kernel_rfl) rfl #[.slice A0 l0.length c0, .int .i64 1048576] rfl (by (try simp only [List.map_toArray, List.map_cons, List.map_nil]); first | done | rfl | (simp only [List.length_drop, List.length_take]; rfl)) ?_; (with_reducible refine (laws_szSessionS.calls _ _ l0 1048576 t176 _ ?side1 ?side2 A4.out).mono ?_); (case side1 => repeat (first | exact HR0.out | (with_reducible refine qh ?_ _) | (with_reducible refine qi ?_ _) | (with_reducible refine qj ?_))); (case side2 => exact HC0.out); rintro e w' ⟨rfl, ⟨nd, rfl⟩⟩; refine ⟨_, rfl, ?_⟩) | ((with_reducible refine qg (f := 12) rfl ?_); refine goesL_ (some 21) rfl rfl Try.func12 (by kernel_rfl) rfl #[.slice A0 l0.length c0] rfl (by (try simp only [List.map_toArray, List.map_cons, List.map_nil]); first | done | rfl | (simp only [List.length_drop, List.length_take]; rfl)) ?_; (with_reducible refine (laws_toSessionS.calls k _ _ l0 t177 _ ?side1 ?side2 A6.out).mono ?_); (case side1 => repeat (first | exact HR0.out | (with_reducible refine qh ?_ _) | (with_reducible refine qi ?_ _) | (with_reducible refine qj ?_))); (case side2 => exact HC0.out); rintro e w83 ⟨v178, rfl, ho0, hb⟩; refine ⟨_, rfl, ?_⟩; have n0_ := Aside0.mk (qp ho0 (qq (by repeat (first | (with_reducible first | exact HB.out | apply qe | apply qd | apply qf) | exact HB.out)))); have n1_ := Aside0.mk (qm (by repeat (first | (with_reducible first | exact HB.out | apply qe | apply qd | apply qf) | exact HB.out)) hb); clear HB; have HO179 := n0_; have HB := n1_; clear n0_ n1_; (try clear hb); (try clear hb2); (try clear hk); (try clear hi); (try clear ho0); obtain ⟨Ao84, co84, eo84⟩ := qo HO179.out; subst eo84) | ((with_reducible refine qg (f := 11) rfl ?_); refine goesL_ (some 24) rfl rfl Try.func11 (by kernel_rfl) rfl #[.slice Ao84 t177.length co84, .int .i64 a1, .int .i64 a2] rfl (by (try simp only [List.map_toArray, List.map_cons, List.map_nil]); first | done | rfl | (simp only [List.length_drop, List.length_take]; rfl)) ?_; (with_reducible refine (spec_ClosedSessions.calls k _ _ t177 a1 a2 t180 _ ?side1 ?side2 A7.out).mono ?_); (case side1 => repeat (first | exact (Kd.R_reads' HO179.out).2.2 | (with_reducible refine qh ?_ _) | (with_reducible refine qi ?_ _) | (with_reducible refine qj ?_))); (case side2 => exact (Kd.R_reads' HO179.out).2.1); rintro e w85 ⟨v181, rfl, ho0, hb⟩; refine ⟨_, rfl, ?_⟩; have n0_ := Aside0.mk (Kd.R_elder' (by (with_reducible repeat (first | apply qa | apply qb | apply qc)); exact HO179.out) (ql ho0) hb); have n1_ := Aside0.mk (qp (Kd.R_new' ho0 (qn (by (with_reducible repeat (first | apply qa | apply qb | apply qc)); exact HO179.out))) (qq (by repeat (first | (with_reducible first | exact HB.out | apply qe | apply qd | apply qf) | exact HB.out)))); have n2_ := Aside0.mk (qm (by repeat (first | (with_reducible first | exact HB.out | apply qe | apply qd | apply qf) | exact HB.out)) hb); clear HO179; clear HB; have HO179 := n0_; have HO182 := n1_; have HB := n2_; clear n0_ n1_ n2_; (try clear hb); (try clear hb2); (try clear hk); (try clear hi); (try clear ho0)) | ((with_reducible refine qg (f := 12) rfl ?_); refine goesL_ (some 26) rfl rfl Try.func12 (by kernel_rfl) rfl #[.slice A0 l0.length c0] rfl (by (try simp only [List.map_toArray, List.map_cons, List.map_nil]); first | done | rfl | (simp only [List.length_drop, List.length_take]; rfl)) ?_; (with_reducible refine (laws_toSessionS.calls k _ _ l0 t183 _ ?side1 ?side2 A8.out).mono ?_); (case side1 => repeat (first | exact (Kd.C_below HR0.out HB.out) | (with_reducible refine qh ?_ _) | (with_reducible refine qi ?_ _) | (with_reducible refine qj ?_))); (case side2 => exact HC0.out); rintro e w86 ⟨v184, rfl, ho0, hb⟩; refine ⟨_, rfl, ?_⟩; have n0_ := Aside0.mk (Kd.R_elder' (by (with_reducible repeat (first | apply qa | apply qb | apply qc)); exact HO179.out) (ql ho0) hb); have n1_ := Aside0.mk (Kd.R_elder' (by (with_reducible repeat (first | apply qa | apply qb | apply qc)); exact HO182.out) (ql ho0) hb); have n2_ := Aside0.mk (qp (Kd.R_new' (Kd.R_new' ho0 (qn (by (with_reducible repeat (first | apply qa | apply qb | apply qc)); exact HO179.out))) (qn (by (with_reducible repeat (first | apply qa | apply qb | apply qc)); exact HO182.out))) (qq (by repeat (first | (with_reducible first | exact HB.out | apply qe | apply qd | apply qf) | exact HB.out)))); have n3_ := Aside0.mk (qm (by repeat (first | (with_reducible first | exact HB.out | apply qe | apply qd | apply qf) | exact HB.out)) hb); clear HO179; clear HO182; clear HB; have HO179 := n0_; have HO182 := n1_; have HO185 := n2_; have HB := n3_; clear n0_ n1_ n2_ n3_; (try clear hb); (try clear hb2); (try clear hk); (try clear hi); (try clear ho0); obtain ⟨Ao87, co87, eo87⟩ := qo HO185.out; subst eo87) | ((with_reducible refine qg (f := 13) rfl ?_); refine goesL_ (some 30) rfl rfl Try.func13 (by kernel_rfl) rfl #[.slice Ao87 t183.length co87, .int .i64 a1, .int .i64 a2] rfl (by (try simp only [List.map_toArray, List.map_cons, List.map_nil]); first | done | rfl | (simp only [List.length_drop, List.length_take]; rfl)) ?_; (with_reducible refine (impl_ClosedSessions.calls k _ _ t183 a1 a2 t186 _ ?side1 ?side2 A9.out).mono ?_); (case side1 => repeat (first | exact (Kd.R_reads' HO185.out).2.2 | (with_reducible refine qh ?_ _) | (with_reducible refine qi ?_ _) | (with_reducible refine qj ?_))); (case side2 => exact (Kd.R_reads' HO185.out).2.1); rintro e w88 ⟨v187, rfl, ho0, hb⟩; refine ⟨_, rfl, ?_⟩; have n0_ := Aside0.mk (Kd.R_elder' (by (with_reducible repeat (first | apply qa | apply qb | apply qc)); exact HO179.out) (ql ho0) hb); have n1_ := Aside0.mk (Kd.R_elder' (by (with_reducible repeat (first | apply qa | apply qb | apply qc)); exact HO182.out) (ql ho0) hb); have n2_ := Aside0.mk (Kd.R_elder' (by (with_reducible repeat (first | apply qa | apply qb | apply qc)); exact HO185.out) (ql ho0) hb); have n3_ := Aside0.mk (qp (Kd.R_new' (Kd.R_new' (Kd.R_new' ho0 (qn (by (with_reducible repeat (first | apply qa | apply qb | apply qc)); exact HO179.out))) (qn (by (with_reducible repeat (first | apply qa | apply qb | apply qc)); exact HO182.out))) (qn (by (with_reducible repeat (first | apply qa | apply qb | apply qc)); exact HO185.out))) (qq (by repeat (first | (with_reducible first | exact HB.out | apply qe | apply qd | apply qf) | exact HB.out)))); have n4_ := Aside0.mk (qm (by repeat (first | (with_reducible first | exact HB.out | apply qe | apply qd | apply qf) | exact HB.out)) hb); clear HO179; clear HO182; clear HO185; clear HB; have HO179 := n0_; have HO182 := n1_; have HO185 := n2_; have HO188 := n3_; have HB := n4_; clear n0_ n1_ n2_ n3_ n4_; (try clear hb); (try clear hb2); (try clear hk); (try clear hi); (try clear ho0); obtain ⟨Ao89, co89, eo89⟩ := qo HO188.out; subst eo89; obtain ⟨Ao90, co90, eo90⟩ := qo HO182.out; subst eo90) | ((with_reducible refine qg (f := 14) rfl ?_); refine goesL_ (some 33) rfl rfl Try.func14 (by kernel_rfl) rfl #[.slice Ao89 t186.length co89, .slice Ao90 t180.length co90] rfl (by (try simp only [List.map_toArray, List.map_cons, List.map_nil]); first | done | rfl | (simp only [List.length_drop, List.length_take]; rfl)) ?_; (with_reducible refine (laws_eqSessionS.calls k _ _ t186 _ _ t180 false _ ?side1 ?side2 ?side3 ?side4 A10.out).mono ?_); (case side1 => repeat (first | exact (Kd.R_reads' HO188.out).2.2 | (with_reducible refine qh ?_ _) | (with_reducible refine qi ?_ _) | (with_reducible refine qj ?_))); (case side2 => exact (Kd.R_reads' HO188.out).2.1); (case side3 => repeat (first | exact (Kd.R_reads' HO182.out).2.2 | (with_reducible refine qh ?_ _) | (with_reducible refine qi ?_ _) | (with_reducible refine qj ?_))); (case side4 => exact (Kd.R_reads' HO182.out).2.1); rintro e w91 ⟨rfl, hb⟩; refine ⟨_, rfl, ?_⟩; have n0_ := Aside0.mk (qk (by (with_reducible repeat (first | apply qa | apply qb | apply qc)); exact HO179.out) hb); have n1_ := Aside0.mk (qk (by (with_reducible repeat (first | apply qa | apply qb | apply qc)); exact HO182.out) hb); have n2_ := Aside0.mk (qk (by (with_reducible repeat (first | apply qa | apply qb | apply qc)); exact HO185.out) hb); have n3_ := Aside0.mk (qk (by (with_reducible repeat (first | apply qa | apply qb | apply qc)); exact HO188.out) hb); have n4_ := Aside0.mk (qm (by repeat (first | (with_reducible first | exact HB.out | apply qe | apply qd | apply qf) | exact HB.out)) hb); clear HO179; clear HO182; clear HO185; clear HO188; clear HB; have HO179 := n0_; have HO182 := n1_; have HO185 := n2_; have HO188 := n3_; have HB := n4_; clear n0_ n1_ n2_ n3_ n4_; (try clear hb); (try clear hb2); (try clear hk); (try clear hi)))
   go_ret
   exact ⟨by first | rfl | (simp [errW_none, errW_some] <;> rfl) | (simp [*, errW_none, errW_some] <;> rfl), by repeat (first | (with_reducible first | exact HB.out | apply qe | apply qd | apply qf) | exact HB.out)⟩

end Go.Proofs.Ythmmalkdobklhaa.PFnExactClosedSessions

import Derived.Test.YtkdndllgocdbdaaUp
import Derived.StillTailTactics
import Derived.Test.YtkdndllgocdbdaaUYCmpO
import Derived.Test.YtkdndllgocdbdaaUAxh
import Derived.Test.YtkdndllgocdbdaaPTy
namespace Go.Proofs.Ytkdndllgocdbdaa.C
open Go.RowKit Go.Proofs.YtkdndllgocdbdaaW Go.Proofs.YtkdndllgocdbdaaW.PrintWords Go.Proofs.Ytkdndllgocdbdaa.U
set_option maxHeartbeats 1000000
set_option maxRecDepth 100000
set_option linter.unusedVariables false
set_option linter.unusedSimpArgs false
theorem intsC {w : World} {g e : Nat} {l : List Int} (h : w.heap[g]? = some (.cells (l.map (Value.int .i64)).toArray e (0, 0))) (hl : l.length ≤ 9223372036854775807) : (Kd.int .i64).C w (some ⟨g, 0, none⟩) l.length l := by
  have hm : ∀ l : List Int, l.flatMap (fun x => [Value.int .i64 x]) = l.map (Value.int .i64) := fun l => by induction l with | nil => rfl | cons x l ih => rw [List.flatMap_cons, ih]; rfl
  have hR := row_of_cells (d := Kd.int .i64) (enc := fun x => [Value.int .i64 x]) (xs := l) (ok := fun _ => True) (base := 0) flat_scalar (by rw [hm]; exact h) (Nat.zero_le _) trivial hl
  obtain ⟨A, c, e, _, hC⟩ := Kd.R_reads hR
  cases e
  exact hC
set_option maxHeartbeats 4000000 in
theorem pairOrder_ex (x y : Pair) (W : World) : Calls Try.prog 87 #[.agg x.enc.toArray, .agg y.enc.toArray] W fun e w' => e = .returned (.int .i64 (pairC x y)) ∧ ∃ q os', w' = Go.Sort.grow (W.drewN q) os' := by
  have hO := fun (A : Option Addr) (c : Nat) (w : World) h => cmp_Or A c (cmps x.key5 y.key5) w h
  have hv : pairC x y = orJ (cmps x.key5 y.key5) := rfl
  rw [hv]
  have hc0 := fun w => cmp_Compare x.key y.key w
  have hc1 := fun w => cmp_Compare x.lt y.lt w
  have hc2 := fun w => cmp_Compare x.rt y.rt w
  have hc3 := fun w => cmp_Compare x.left y.left w
  have hc4 := fun w => cmp_Compare x.right y.right w
  have hl : cmps x.key5 y.key5 = [cmpJ x.key y.key, cmpJ x.lt y.lt, cmpJ x.rt y.rt, cmpJ x.left y.left, cmpJ x.right y.right] := rfl
  rw [hl] at hO
  rw [hl]
  generalize cmpJ x.key y.key = r0 at *
  generalize cmpJ x.lt y.lt = r1 at *
  generalize cmpJ x.rt y.rt = r2 at *
  generalize cmpJ x.left y.left = r3 at *
  generalize cmpJ x.right y.right = r4 at *
  clear hl hv
  show Calls Try.prog 87 #[.agg #[.int .i64 x.key, .int .i64 x.lt, .int .i64 x.rt, .int .i64 x.left, .int .i64 x.right], .agg #[.int .i64 y.key, .int .i64 y.lt, .int .i64 y.rt, .int .i64 y.left, .int .i64 y.right]] W _
  go_enter Try.func87, Try.ntmps87
  go_wp2_with fail
  obtain ⟨w1, hw1⟩ : ∃ w1, w1 = (W.alloc (.cells #[.int .i64 x.key, .int .i64 x.lt, .int .i64 x.rt, .int .i64 x.left, .int .i64 x.right] 84)).alloc (.cells #[.int .i64 y.key, .int .i64 y.lt, .int .i64 y.rt, .int .i64 y.left, .int .i64 y.right] 84) := ⟨_, rfl⟩
  rw [← hw1]
  have hA : w1.heap[W.heap.size]? = some (.cells #[.int .i64 x.key, .int .i64 x.lt, .int .i64 x.rt, .int .i64 x.left, .int .i64 x.right] 84 (0, 0)) := by rw [hw1]; exact (below_alloc (Below.refl _ _) _).block _ (by simp) |>.trans (blk_new _ _)
  have hB : w1.heap[W.heap.size + 1]? = some (.cells #[.int .i64 y.key, .int .i64 y.lt, .int .i64 y.rt, .int .i64 y.left, .int .i64 y.right] 84 (0, 0)) := by
    rw [hw1]
    have := blk_new (W.alloc (.cells #[.int .i64 x.key, .int .i64 x.lt, .int .i64 x.rt, .int .i64 x.left, .int .i64 x.right] 84)) (.cells #[.int .i64 y.key, .int .i64 y.lt, .int .i64 y.rt, .int .i64 y.left, .int .i64 y.right] 84)
    simpa using this
  have a0 : w1.drew.cell? ⟨W.heap.size, 0, none⟩ = some (.int .i64 x.key) := (blk_cell hA 0).trans rfl
  have b0 : w1.drew.cell? ⟨W.heap.size + 1, 0, none⟩ = some (.int .i64 y.key) := (blk_cell hB 0).trans rfl
  have a1 : w1.drew.cell? ⟨W.heap.size, 1, none⟩ = some (.int .i64 x.lt) := (blk_cell hA 1).trans rfl
  have b1 : w1.drew.cell? ⟨W.heap.size + 1, 1, none⟩ = some (.int .i64 y.lt) := (blk_cell hB 1).trans rfl
  have a2 : w1.drew.cell? ⟨W.heap.size, 2, none⟩ = some (.int .i64 x.rt) := (blk_cell hA 2).trans rfl
  have b2 : w1.drew.cell? ⟨W.heap.size + 1, 2, none⟩ = some (.int .i64 y.rt) := (blk_cell hB 2).trans rfl
  have a3 : w1.drew.cell? ⟨W.heap.size, 3, none⟩ = some (.int .i64 x.left) := (blk_cell hA 3).trans rfl
  have b3 : w1.drew.cell? ⟨W.heap.size + 1, 3, none⟩ = some (.int .i64 y.left) := (blk_cell hB 3).trans rfl
  have a4 : w1.drew.cell? ⟨W.heap.size, 4, none⟩ = some (.int .i64 x.right) := (blk_cell hA 4).trans rfl
  have b4 : w1.drew.cell? ⟨W.heap.size + 1, 4, none⟩ = some (.int .i64 y.right) := (blk_cell hB 4).trans rfl
  have hg : ∃ os', w1 = Go.Sort.grow W os' := ⟨_, by rw [hw1, Go.Sort.alloc_eq_grow, Go.Sort.alloc_eq_grow, Go.Sort.grow_grow]⟩
  clear hA hB hw1
  refine wp_region_still_tail 25 (by kernel_rfl) (by kernel_rfl) ?_
  simp only [List.take_succ_cons, List.take_zero, List.drop_succ_cons, List.drop_zero, World.drew_eq]
  still_step
  still_step
  still_step
  still_step
  still_call (hc0 _)
  still_step
  still_step
  still_step
  still_step
  still_call (hc1 _)
  still_step
  still_step
  still_step
  still_step
  still_call (hc2 _)
  still_step
  still_step
  still_step
  still_step
  still_call (hc3 _)
  still_step
  still_step
  still_step
  still_step
  still_call (hc4 _)
  refine wpStill_nil ?_
  have hC : (Kd.int .i64).C (w1.alloc (.cells #[.int .i64 r0, .int .i64 r1, .int .i64 r2, .int .i64 r3, .int .i64 r4] 3)).drew (some ⟨w1.heap.size, 0, none⟩) [r0, r1, r2, r3, r4].length [r0, r1, r2, r3, r4] := intsC (l := [r0, r1, r2, r3, r4]) (e := 3) (show (w1.alloc (.cells #[.int .i64 r0, .int .i64 r1, .int .i64 r2, .int .i64 r3, .int .i64 r4] 3)).heap[w1.heap.size]? = _ from blk_new w1 _) (by simp)
  have cO := hO (some ⟨w1.heap.size, 0, none⟩) 5 (w1.alloc (.cells #[.int .i64 r0, .int .i64 r1, .int .i64 r2, .int .i64 r3, .int .i64 r4] 3)).drew hC
  clear hC hO
  go_wp2_with (go_at_call 104; refine cO.mono ?_; rintro e w' ⟨rfl, rfl⟩)
  go_ret
  obtain ⟨os', rfl⟩ := hg
  refine ⟨rfl, 1, os' ++ #[.cells #[.int .i64 r0, .int .i64 r1, .int .i64 r2, .int .i64 r3, .int .i64 r4] 3 (0, 0)], ?_⟩
  rw [Go.Sort.alloc_eq_grow, ← Go.Sort.grow_grow]
  rfl
end Go.Proofs.Ytkdndllgocdbdaa.C

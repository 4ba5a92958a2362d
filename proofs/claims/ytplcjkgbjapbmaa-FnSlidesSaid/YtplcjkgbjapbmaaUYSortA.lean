import Derived.Test.YtplcjkgbjapbmaaUp
import Derived.StillTailTactics
import Derived.Shelf.SlSortCmp.NoneTotal
import Derived.Test.YtplcjkgbjapbmaaShelfP
import Derived.Test.YtplcjkgbjapbmaaUYFsparts
import Derived.Test.YtplcjkgbjapbmaaUAxsu
namespace Go.Proofs.Ytplcjkgbjapbmaa.C
open Go.RowKit Go.Proofs.YtplcjkgbjapbmaaW Go.Proofs.YtplcjkgbjapbmaaW.PrintWords Go.Proofs.Ytplcjkgbjapbmaa.U
set_option maxHeartbeats 1000000
set_option maxRecDepth 100000
set_option linter.unusedVariables false
set_option linter.unusedSimpArgs false
theorem intsC {w : World} {g e : Nat} {l : List Int} (h : w.heap[g]? = some (.cells (l.map (Value.int .i64)).toArray e (0, 0))) (hl : l.length ≤ 9223372036854775807) : (Kd.int .i64).C w (some ⟨g, 0, none⟩) l.length l := by
  have hm : ∀ l : List Int, l.flatMap (fun x => [Value.int .i64 x]) = l.map (Value.int .i64) := fun l => by induction l with | nil => rfl | cons x l ih => rw [List.flatMap_cons, ih]; rfl
  have hR := row_of_cells (d := Kd.int .i64) (enc := fun x => [Value.int .i64 x]) (xs := l) (ok := fun _ => True) (base := 0) flat_scalar (by rw [hm]; exact h) (Nat.zero_le _) trivial hl
  obtain ⟨A, c, e, _, hC⟩ := Kd.R_reads hR
  cases e
  exact hC
set_option maxHeartbeats 4000000 in
theorem aggOrder_ex (x y : Agg) (W : World) : Calls Try.prog 62 #[.agg x.enc.toArray, .agg y.enc.toArray] W fun e w' => e = .returned (.int .i64 (aggC x y)) ∧ ∃ q os', w' = Go.Sort.grow (W.drewN q) os' := by
  have hO := fun (A : Option Addr) (c : Nat) (w : World) h => cmp_Or A c (cmps [x.win, x.key] [y.win, y.key]) w h
  have hv : aggC x y = orJ (cmps [x.win, x.key] [y.win, y.key]) := rfl
  rw [hv]
  have hc0 := fun w => cmp_Compare x.win y.win w
  have hc1 := fun w => cmp_Compare x.key y.key w
  have hl : cmps [x.win, x.key] [y.win, y.key] = [cmpJ x.win y.win, cmpJ x.key y.key] := rfl
  rw [hl] at hO
  rw [hl]
  generalize cmpJ x.win y.win = r0 at *
  generalize cmpJ x.key y.key = r1 at *
  clear hl hv
  show Calls Try.prog 62 #[.agg #[.int .i64 x.win, .int .i64 x.key, .int .i64 x.count, .int .i64 x.sum, .int .i64 x.min, .int .i64 x.max], .agg #[.int .i64 y.win, .int .i64 y.key, .int .i64 y.count, .int .i64 y.sum, .int .i64 y.min, .int .i64 y.max]] W _
  go_enter Try.func62, Try.ntmps62
  go_wp2_with fail
  obtain ⟨w1, hw1⟩ : ∃ w1, w1 = (W.alloc (.cells #[.int .i64 x.win, .int .i64 x.key, .int .i64 x.count, .int .i64 x.sum, .int .i64 x.min, .int .i64 x.max] 55)).alloc (.cells #[.int .i64 y.win, .int .i64 y.key, .int .i64 y.count, .int .i64 y.sum, .int .i64 y.min, .int .i64 y.max] 55) := ⟨_, rfl⟩
  rw [← hw1]
  have hA : w1.heap[W.heap.size]? = some (.cells #[.int .i64 x.win, .int .i64 x.key, .int .i64 x.count, .int .i64 x.sum, .int .i64 x.min, .int .i64 x.max] 55 (0, 0)) := by rw [hw1]; exact (below_alloc (Below.refl _ _) _).block _ (by simp) |>.trans (blk_new _ _)
  have hB : w1.heap[W.heap.size + 1]? = some (.cells #[.int .i64 y.win, .int .i64 y.key, .int .i64 y.count, .int .i64 y.sum, .int .i64 y.min, .int .i64 y.max] 55 (0, 0)) := by
    rw [hw1]
    have := blk_new (W.alloc (.cells #[.int .i64 x.win, .int .i64 x.key, .int .i64 x.count, .int .i64 x.sum, .int .i64 x.min, .int .i64 x.max] 55)) (.cells #[.int .i64 y.win, .int .i64 y.key, .int .i64 y.count, .int .i64 y.sum, .int .i64 y.min, .int .i64 y.max] 55)
    simpa using this
  have a0 : w1.drew.cell? ⟨W.heap.size, 0, none⟩ = some (.int .i64 x.win) := (blk_cell hA 0).trans rfl
  have b0 : w1.drew.cell? ⟨W.heap.size + 1, 0, none⟩ = some (.int .i64 y.win) := (blk_cell hB 0).trans rfl
  have a1 : w1.drew.cell? ⟨W.heap.size, 1, none⟩ = some (.int .i64 x.key) := (blk_cell hA 1).trans rfl
  have b1 : w1.drew.cell? ⟨W.heap.size + 1, 1, none⟩ = some (.int .i64 y.key) := (blk_cell hB 1).trans rfl
  have hg : ∃ os', w1 = Go.Sort.grow W os' := ⟨_, by rw [hw1, Go.Sort.alloc_eq_grow, Go.Sort.alloc_eq_grow, Go.Sort.grow_grow]⟩
  clear hA hB hw1
  refine wp_region_still_tail 10 (by kernel_rfl) (by kernel_rfl) ?_
  simp only [List.take_succ_cons, List.take_zero, List.drop_succ_cons, List.drop_zero, World.drew_eq]
  still_step
  still_step
  still_step
  still_step
  still_call (hc0 _)
  still_step
  still_step
  still_step
  still_step
  still_call (hc1 _)
  refine wpStill_nil ?_
  have hC : (Kd.int .i64).C (w1.alloc (.cells #[.int .i64 r0, .int .i64 r1] 3)).drew (some ⟨w1.heap.size, 0, none⟩) [r0, r1].length [r0, r1] := intsC (l := [r0, r1]) (e := 3) (show (w1.alloc (.cells #[.int .i64 r0, .int .i64 r1] 3)).heap[w1.heap.size]? = _ from blk_new w1 _) (by simp)
  have cO := hO (some ⟨w1.heap.size, 0, none⟩) 2 (w1.alloc (.cells #[.int .i64 r0, .int .i64 r1] 3)).drew hC
  clear hC hO
  go_wp2_with (go_at_call 78; refine cO.mono ?_; rintro e w' ⟨rfl, rfl⟩)
  go_ret
  obtain ⟨os', rfl⟩ := hg
  refine ⟨rfl, 1, os' ++ #[.cells #[.int .i64 r0, .int .i64 r1] 3 (0, 0)], ?_⟩
  rw [Go.Sort.alloc_eq_grow, ← Go.Sort.grow_grow]
  rfl
open Go.Sort in
theorem agg_swo : SWO (Go.Proofs.ltOf aggC) where
  irrefl x := by unfold Go.Proofs.ltOf; rw [aggC_lt]; cases h : aggLt x x with | false => rfl | true => exact (aggLt_wo.asym _ _ h).symm.trans h |> fun e => by cases e
  trans x y z h1 h2 := by unfold Go.Proofs.ltOf at *; rw [aggC_lt] at *; exact aggLt_wo.trans h1 h2
  ntrans x y z h1 h2 := by unfold Go.Proofs.ltOf at *; rw [aggC_lt] at *; exact aggLt_wo.ntrans _ _ _ h1 h2
theorem dist_one {D : List Agg} (h : Dist D) : ∀ x ∈ D, ∀ y ∈ D, aggLt x y = false → aggLt y x = false → x = y := fun x hx y hy h1 h2 => by
  obtain ⟨i, hi⟩ := List.mem_iff_getElem?.1 hx
  obtain ⟨j, hj⟩ := List.mem_iff_getElem?.1 hy
  obtain rfl := dist_at h hi hj (sameA_iff.2 ⟨h1, h2⟩)
  rw [hi] at hj
  exact Option.some.inj hj
theorem y_sortFuncA (xs : List Agg) (hd : Dist xs) (hn : xs.length ≤ 1000000000) : FnS Try.prog 61 [.o (.vl (.i 1)), .o (.vl (.c (.func (.func 62) #[] #[])))] [(1, .row kAgg 55 xs)] (.t []) [(1, .row kAgg 55 (sortL aggLt xs))] :=
  fnS_sortX _ flat_flat rfl xs (sortL aggLt xs) (sortL_len xs) hn (fun blk off cap w hH hblk hsz => by
    have eg : ∀ args w, (callFunc 62 args).run Try.prog w = .ok (.enter 62 args) w := enters_of Try.func62 (by kernel_rfl) rfl
    have := Go.Proofs.AnyQ.slices_SortFunc (α := Agg) Try.sortAgg 6 Try.isAgg55 Try.sizeOf55 Agg.enc (fun _ => rfl) (fun x v hv => flat_flat.one (d := kAgg) (enc := Agg.enc) x v hv) aggC agg_swo 62 #[] blk off cap xs.toArray w eg (fun m os dk _ x y => aggOrder_ex x y _) hH hblk hsz
    refine this.mono (fun en w' hr => ⟨hr.1, ?_⟩)
    obtain ⟨_, d', n, os, hp, hs, hw⟩ := hr
    refine ⟨n, os, ?_⟩
    have e : Go.Proofs.ltOf aggC = aggLt := by funext x y; unfold Go.Proofs.ltOf; rw [aggC_lt]
    rw [e] at hs
    rw [hw, sorted_at aggLt_wo xs (dist_one hd) d' hp hs]
    rfl) (fun p cap w => Go.Proofs.AnyF.slices_SortFunc_none Try.sortAgg p cap _ w)
end Go.Proofs.Ytplcjkgbjapbmaa.C

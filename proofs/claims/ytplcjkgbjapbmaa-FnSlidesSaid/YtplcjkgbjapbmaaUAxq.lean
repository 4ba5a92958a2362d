import Derived.Test.YtplcjkgbjapbmaaUp
import Derived.Sort.OwnSortedInts
import Derived.Test.YtplcjkgbjapbmaaUAxh
namespace Go.Proofs.Ytplcjkgbjapbmaa.C
open Go.RowKit Go.Proofs.YtplcjkgbjapbmaaW Go.Proofs.YtplcjkgbjapbmaaW.PrintWords Go.Proofs.Ytplcjkgbjapbmaa.U
set_option maxHeartbeats 1000000
set_option maxRecDepth 100000
set_option linter.unusedVariables false
set_option linter.unusedSimpArgs false
/-! Functions that turn an own row in place. -/
theorem fnS_row {P : Program} {f : FuncId} {α : Type} {d : Kd α} {enc : α → List Value} {e : Nat} {xs ys : List α} (hf : Flat d enc) (hlen : ys.length = xs.length)
    (h : 0 < xs.length → ∀ (w : World) (g cap : Nat) (rest : List Value), w.heap[g]? = some (.cells (xs.flatMap enc ++ rest).toArray e (0, 0)) → xs.length ≤ cap → Calls P f #[.slice (some ⟨g, 0, none⟩) xs.length cap] w fun en w' => en = .returned (.tuple #[]) ∧ Kp w w' (fun k => k = g) ∧ w'.heap[g]? = some (.cells (ys.flatMap enc ++ rest).toArray e (0, 0)))
    (h0 : xs.length = 0 → ∀ (w : World) (A : Option Addr) (cap : Nat), Calls P f #[.slice A 0 cap] w fun en w' => en = .returned (.tuple #[]) ∧ Kp w w' (fun _ => False)) :
    FnS P f [.o (.vl (.i 1))] [(1, .row d e xs)] (.t []) [(1, .row d e ys)] := fun w vs μ ω hm hok => by
  match vs, hok with
  | [v], ⟨hv, _⟩ =>
    obtain ⟨v', hv', B, hR⟩ := hm.obj 1 _ rfl
    have hv0 : μ 1 = some v := hv.1
    rw [hv0] at hv'
    cases hv'
    have h1 : ∀ id o, assoc [(1, (AObj.row d e ys : AObj))] id = some o → id = 1 ∧ o = .row d e ys := fun id o ho => by
      have := assoc_mem ho
      simp only [List.mem_singleton, Prod.mk.injEq] at this
      exact this
    have hk1 : ∀ k, ω 1 k → S0 ω [(1, (AObj.row d e xs : AObj))] k := fun k hk => ⟨1, _, rfl, hk⟩
    have fin : ∀ {w' : World} {T : Nat → Prop}, Kp w w' T → (∀ k, T k → ω 1 k) → (∃ B, d.S e w' B (ω 1) v ys) → Mem ⟨w, S0 ω [(1, (AObj.row d e xs : AObj))], []⟩ (assoc [(1, (AObj.row d e ys : AObj))]) μ ω w' := fun {w' T} hk hT hR' =>
      { kept := hk.mono (fun k hk => hk1 k (hT k hk))
        obj := fun id o ho => by
          obtain ⟨rfl, rfl⟩ := h1 id o ho
          exact ⟨v, hv0, hR'⟩
        own := fun id o ho k hk' => by
          obtain ⟨rfl, rfl⟩ := h1 id o ho
          have := hm.own 1 _ rfl k hk'
          exact ⟨this.1, Nat.lt_of_lt_of_le this.2 hk.size⟩
        sep := fun i j oi oj hi hj hne => absurd ((h1 i oi hi).1.trans (h1 j oj hj).1.symm) hne }
    rcases Nat.eq_zero_or_pos xs.length with hz | hpos
    · obtain ⟨A, c, rfl⟩ := Kd.R_slice (Kd.S_R hR)
      rw [hz]
      refine (h0 hz w A c).mono (fun en w' hr => ?_)
      obtain ⟨rfl, hk⟩ := hr
      refine ⟨_, μ, ω, rfl, ⟨[], rfl, trivial⟩, fin hk (fun k hk => hk.elim) ?_, fun _ _ => ⟨rfl, rfl⟩⟩
      have e1 : xs = [] := List.length_eq_zero_iff.1 hz
      have e2 : ys = [] := List.length_eq_zero_iff.1 (by omega)
      rw [e2.trans e1.symm]
      exact AObj.holds_kp (X := ⟨w, No_, []⟩) (μ := μ) (o := .row d e xs) hk (fun _ _ h => h) ⟨B, hR⟩
    · obtain ⟨g, cap, rest, rfl, hg, hb, hl, hn, hc⟩ := R_raw hf (Kd.S_R hR) hpos
      refine (h hpos w g cap rest hb hn).mono (fun en w' hr => ?_)
      obtain ⟨rfl, hk, hb'⟩ := hr
      have hx := flatMap_len hf.len xs
      have hy := flatMap_len hf.len ys
      refine ⟨_, μ, ω, rfl, ⟨[], rfl, trivial⟩, fin hk (fun k hk => hk ▸ hg) ⟨0, ?_⟩, fun _ _ => ⟨rfl, rfl⟩⟩
      refine S_flat hf ?_
      refine R_of_raw hf hg hb' ?_ hn hc hlen ?_
      · rw [List.length_append, hx] at hl
        rw [List.length_append, hy, hlen]
        exact hl
      · rw [← hlen]
        exact List.take_left' hy
theorem putCells_app {α : Type} [Inhabited α] (enc : α → Value) (ys : List α) (us rest : List Value) (h : us.length = ys.length) : Go.Sort.putCells enc 0 ys.toArray (us ++ rest).toArray = (ys.map enc ++ rest).toArray := by
  apply Array.ext
  · simp [Go.Sort.putCells, h]
  · intro i h1 h2
    simp only [Go.Sort.putCells, List.size_toArray, Nat.zero_le, true_and, Nat.zero_add, Nat.sub_zero, Array.getElem_mapIdx, List.getElem_toArray]
    by_cases hi : i < ys.length
    · rw [if_pos hi, List.getElem_append_left (by simpa using hi)]
      simp [hi]
    · rw [if_neg hi, List.getElem_append_right (by omega), List.getElem_append_right (by simp; omega)]
      simp [h]
/-- slices.Sort of whole numbers. -/
theorem fnS_sort {P : Program} {f : FuncId} {e : Nat} (xs : List Int) (hn : xs.length ≤ 1000000000)
    (h : ∀ (blk off cap : Nat) (zs : List Int) (w : World), Go.Sort.Holds (Value.int .i64) w blk off zs.toArray → blk < w.heap.size → zs.length < 4611686018427387904 → Calls P f #[.slice (some ⟨blk, off, none⟩) zs.length cap] w fun en w' => en = .returned (.tuple #[]) ∧ ∃ n os, w' = Go.Sort.grow (Go.Sort.putRow (Value.int .i64) (Go.Sort.ahead w n) blk off (zs.mergeSort fun x y => decide (x ≤ y)).toArray) os)
    (h0 : ∀ (p : Option Addr) (cap : Nat) (w : World), Calls P f #[.slice p 0 cap] w fun en w' => en = .returned (.tuple #[]) ∧ w' = w) :
    FnS P f [.o (.vl (.i 1))] [(1, .row (Kd.int .i64) e xs)] (.t []) [(1, .row (Kd.int .i64) e (xs.mergeSort fun x y => decide (x ≤ y)))] := by
  have hfm : ∀ l : List Int, l.flatMap (fun x => [Value.int .i64 x]) = l.map (Value.int .i64) := fun l => by induction l with | nil => rfl | cons x l ih => rw [List.flatMap_cons, ih]; rfl
  refine fnS_row (enc := fun x => [Value.int .i64 x]) flat_scalar (List.length_mergeSort _) (fun hpos w g cap rest hb hc => ?_) (fun _ w A cap => (h0 A cap w).mono (fun en w' hr => ⟨hr.1, by rw [hr.2]; exact Kp.refl _ _⟩))
  rw [hfm] at hb
  have hg : g < w.heap.size := (Array.getElem?_eq_some_iff.1 hb).1
  refine (h g 0 cap xs w (holds_of_blockI hb (by simp)) hg (by omega)).mono (fun en w' hr => ?_)
  obtain ⟨rfl, n, os, rfl⟩ := hr
  refine ⟨rfl, (Kp.of_grown (grownBy_sortedI _)).mono (fun k hk => (Option.some.inj hk).symm), ?_⟩
  rw [heap_sortedI _ hb, hfm, putCells_app _ _ _ _ (by simp)]
/-- slices.Reverse of whole numbers. -/
theorem fnS_reverse {P : Program} {f : FuncId} {e : Nat} (xs : List Int) (hn : xs.length ≤ 1000000000)
    (h : ∀ (blk off cap : Nat) (zs : List Int) (w : World), Go.Sort.Holds (Value.int .i64) w blk off zs.toArray → zs.length ≤ 9223372036854775807 → Calls P f #[.slice (some ⟨blk, off, none⟩) zs.length cap] w fun en w' => en = .returned (.tuple #[]) ∧ ∃ n, w' = Go.Sort.putRow (Value.int .i64) (Go.Sort.ahead w n) blk off zs.reverse.toArray)
    (h0 : ∀ (p : Option Addr) (cap : Nat) (w : World), Calls P f #[.slice p 0 cap] w fun en w' => en = .returned (.tuple #[]) ∧ w' = w) :
    FnS P f [.o (.vl (.i 1))] [(1, .row (Kd.int .i64) e xs)] (.t []) [(1, .row (Kd.int .i64) e xs.reverse)] := by
  have hfm : ∀ l : List Int, l.flatMap (fun x => [Value.int .i64 x]) = l.map (Value.int .i64) := fun l => by induction l with | nil => rfl | cons x l ih => rw [List.flatMap_cons, ih]; rfl
  refine fnS_row (enc := fun x => [Value.int .i64 x]) flat_scalar List.length_reverse (fun hpos w g cap rest hb hc => ?_) (fun _ w A cap => (h0 A cap w).mono (fun en w' hr => ⟨hr.1, by rw [hr.2]; exact Kp.refl _ _⟩))
  rw [hfm] at hb
  refine (h g 0 cap xs w (holds_of_blockI hb (by simp)) (by omega)).mono (fun en w' hr => ?_)
  obtain ⟨rfl, n, rfl⟩ := hr
  rw [show Go.Sort.putRow (Value.int .i64) (Go.Sort.ahead w n) g 0 xs.reverse.toArray = Go.Sort.grow (Go.Sort.putRow (Value.int .i64) (Go.Sort.ahead w n) g 0 xs.reverse.toArray) #[] from (Go.Sort.grow_empty _).symm]
  refine ⟨rfl, (Kp.of_grown (grownBy_sortedI _)).mono (fun k hk => (Option.some.inj hk).symm), ?_⟩
  rw [heap_sortedI _ hb, hfm, putCells_app _ _ _ _ (by simp)]
end Go.Proofs.Ytplcjkgbjapbmaa.C

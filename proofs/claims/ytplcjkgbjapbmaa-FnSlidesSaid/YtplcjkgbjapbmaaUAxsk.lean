import Derived.Test.YtplcjkgbjapbmaaUp
import Derived.Shelf.SlSortCmp.NoneTotal
import Derived.Test.YtplcjkgbjapbmaaUAxq
import Derived.Test.YtplcjkgbjapbmaaPSb
namespace Go.Proofs.Ytplcjkgbjapbmaa.C
open Go.RowKit Go.Proofs.YtplcjkgbjapbmaaW Go.Proofs.YtplcjkgbjapbmaaW.PrintWords Go.Proofs.Ytplcjkgbjapbmaa.U
set_option maxHeartbeats 1000000
set_option maxRecDepth 100000
set_option linter.unusedVariables false
set_option linter.unusedSimpArgs false
/-! slices.SortFunc of rows of structs. -/
theorem fnS_rowV {P : Program} {f : FuncId} {α : Type} {d : Kd α} {enc : α → List Value} {e : Nat} {xs ys : List α} (fv : Value) (hf : Flat d enc) (hlen : ys.length = xs.length)
    (h : 0 < xs.length → ∀ (w : World) (g cap : Nat) (rest : List Value), w.heap[g]? = some (.cells (xs.flatMap enc ++ rest).toArray e (0, 0)) → xs.length ≤ cap → Calls P f #[.slice (some ⟨g, 0, none⟩) xs.length cap, fv] w fun en w' => en = .returned (.tuple #[]) ∧ Kp w w' (fun k => k = g) ∧ w'.heap[g]? = some (.cells (ys.flatMap enc ++ rest).toArray e (0, 0)))
    (h0 : xs.length = 0 → ∀ (w : World) (A : Option Addr) (cap : Nat), Calls P f #[.slice A 0 cap, fv] w fun en w' => en = .returned (.tuple #[]) ∧ Kp w w' (fun _ => False)) :
    FnS P f [.o (.vl (.i 1)), .o (.vl (.c fv))] [(1, .row d e xs)] (.t []) [(1, .row d e ys)] := fun w vs μ ω hm hok => by
  match vs, hok with
  | [v, u], ⟨hv, hu, _⟩ =>
    obtain rfl : u = fv := hu
    obtain ⟨v', hv', B, hS⟩ := hm.obj 1 _ rfl
    have hR := Kd.S_R hS
    have hv0 : μ 1 = some v := hv.1
    rw [hv0] at hv'
    cases hv'
    have h1 : ∀ id o, assoc [(1, (AObj.row d e ys : AObj))] id = some o → id = 1 ∧ o = .row d e ys := fun id o ho => by
      have := assoc_mem ho
      simp only [List.mem_singleton, Prod.mk.injEq] at this
      exact this
    have hk1 : ∀ k, ω 1 k → S0 ω [(1, (AObj.row d e xs : AObj))] k := fun k hk => ⟨1, _, rfl, hk⟩
    have fin : ∀ {w' : World} {T : Nat → Prop}, Kp w w' T → (∀ k, T k → ω 1 k) → (∃ B, d.S e w' B (ω 1) v ys) → Mem ⟨w, S0 ω [(1, (AObj.row d e xs : AObj))], []⟩ (assoc [(1, (AObj.row d e ys : AObj))]) μ ω w' := fun {w' T} hk hT hR' =>
      { kept := hk.mono (fun k hk => hk1 k (hT k hk))
        obj := fun id o ho => by
          obtain ⟨rfl, rfl⟩ := h1 id o ho
          exact ⟨v, hv0, hR'⟩
        own := fun id o ho k hk' => by
          obtain ⟨rfl, rfl⟩ := h1 id o ho
          have := hm.own 1 _ rfl k hk'
          exact ⟨this.1, Nat.lt_of_lt_of_le this.2 hk.size⟩
        sep := fun i j oi oj hi hj hne => absurd ((h1 i oi hi).1.trans (h1 j oj hj).1.symm) hne }
    rcases Nat.eq_zero_or_pos xs.length with hz | hpos
    · obtain ⟨A, c, rfl⟩ := Kd.R_slice hR
      rw [hz]
      refine (h0 hz w A c).mono (fun en w' hr => ?_)
      obtain ⟨rfl, hk⟩ := hr
      refine ⟨_, μ, ω, rfl, ⟨[], rfl, trivial⟩, fin hk (fun k hk => hk.elim) ?_, fun _ _ => ⟨rfl, rfl⟩⟩
      have e1 : xs = [] := List.length_eq_zero_iff.1 hz
      have e2 : ys = [] := List.length_eq_zero_iff.1 (by omega)
      rw [e2.trans e1.symm]
      exact AObj.holds_kp (X := ⟨w, No_, []⟩) (μ := μ) (o := .row d e xs) hk (fun _ _ h => h) ⟨B, hS⟩
    · obtain ⟨g, cap, rest, rfl, hg, hb, hl, hn, hc⟩ := R_raw hf hR hpos
      refine (h hpos w g cap rest hb hn).mono (fun en w' hr => ?_)
      obtain ⟨rfl, hk, hb'⟩ := hr
      have hx := flatMap_len hf.len xs
      have hy := flatMap_len hf.len ys
      refine ⟨_, μ, ω, rfl, ⟨[], rfl, trivial⟩, fin hk (fun k hk => hk ▸ hg) ⟨0, ?_⟩, fun _ _ => ⟨rfl, rfl⟩⟩
      refine S_flat hf ?_
      refine R_of_raw hf hg hb' ?_ hn hc hlen ?_
      · rw [List.length_append, hx] at hl
        rw [List.length_append, hy, hlen]
        exact hl
      · rw [← hlen]
        exact List.take_left' hy
open Go.Sort in
theorem heap_put {w : World} {g n : Nat} {os : Array Obj} {cur : Array Value} {e : TypeId} {fr : Nat × Nat} (F : Array Value) (hb : w.heap[g]? = some (.cells cur e fr)) :
    (grow (putRow id (Sort.ahead w n) g 0 F) os).heap[g]? = some (.cells (putCells id 0 F cur) e fr) := by
  have hg : g < w.heap.size := (Array.getElem?_eq_some_iff.1 hb).1
  rw [heap_grow_old _ _ (by simpa using hg)]
  simp [putRow, mapBlock, Sort.ahead, Array.getElem?_modify, hb, onCells]
open Go.Sort in
theorem grownBy_put {w : World} {g n : Nat} {os : Array Obj} (F : Array Value) : w.grownBy (grow (putRow id (Sort.ahead w n) g 0 F) os) (some g) := by
  refine ⟨rfl, rfl, rfl, by simp, fun k hk hne => ?_⟩
  rw [heap_grow_old _ _ (by simpa using hk)]
  have : g ≠ k := fun e => hne (by rw [e])
  simp [putRow, mapBlock, Sort.ahead, Array.getElem?_modify, this]
open Go.Sort in
theorem holds_put {w : World} {g : Nat} {cur : Array Value} {e : TypeId} {ss : List Value} (hb : w.heap[g]? = some (.cells cur e (0, 0))) (ht : cur.toList.take ss.length = ss) : Holds id w g 0 ss.toArray := by
  intro j hj
  have hj' : j < ss.length := by simpa using hj
  refine ⟨?_, by simp [World.frozen?, hb]⟩
  have h1 : (cur.toList.take ss.length)[j]? = ss[j]? := by rw [ht]
  rw [List.getElem?_take_of_lt hj'] at h1
  simp only [World.cell?, hb, Nat.zero_add]
  simp only [Option.isSome_none, Bool.false_eq_true, if_false]
  rw [← Array.getElem?_toList, h1]
  simp [hj']
open Go.Sort in
theorem flatK_list {α : Type} [Inhabited α] {enc : α → List Value} {k : Nat} (hk : ∀ x, (enc x).length = k) (l : List α) : flatK enc k l.toArray = (l.flatMap enc).toArray := by
  have hfl := flatMap_len hk l
  refine ext_get! (by simp [hfl]) fun t ht => ?_
  have ht' : t < l.length * k := by simpa using ht
  have k0 : 0 < k := by rcases Nat.eq_zero_or_pos k with h | h; · subst h; simp at ht'
                        · exact h
  rw [get_flatK _ _ _ t (by simpa using ht')]
  have hj : t / k < l.length := by rw [Nat.div_lt_iff_lt_mul k0]; exact ht'
  obtain ⟨x, hx⟩ := elt hj
  have hmod : t % k < k := Nat.mod_lt _ k0
  have h1 := flatMap_at hk l (t / k) x hx
  have h2 : (l.flatMap enc)[t]? = (enc x)[t % k]? := by
    rw [← h1, List.getElem?_take_of_lt hmod, List.getElem?_drop, Nat.mul_comm, Nat.div_add_mod]
  have e1 : l.toArray[t / k]! = x := by simp [getElem!_def, hx]
  have e2 : (enc x)[t % k]! = ((enc x)[t % k]?).getD default := by simp [getElem!_def]; cases (enc x)[t % k]? <;> rfl
  have e3 : (l.flatMap enc).toArray[t]! = ((l.flatMap enc)[t]?).getD default := by simp [getElem!_def]; cases (l.flatMap enc)[t]? <;> rfl
  rw [e1, e2, e3, h2]
theorem putCells_id (us vs rest : List Value) (h : us.length = vs.length) : Go.Sort.putCells id 0 us.toArray (vs ++ rest).toArray = (us ++ rest).toArray := by
  have := putCells_app (enc := (id : Value → Value)) us vs rest h.symm
  simpa using this
open Go.Sort in
/-- slices.SortFunc of structs. -/
theorem fnS_sortK {P : Program} {f : FuncId} {α : Type} [Inhabited α] {d : Kd α} {enc : α → List Value} {e k : Nat} (fv : Value) (hf : Flat d enc) (hk : d.sz = k) (srt : List α → List α) (hlen : ∀ l, (srt l).length = l.length) (xs : List α) (hn : xs.length ≤ 1000000000)
    (h : ∀ (blk off cap : Nat) (D : Array α) (w : World), HoldsK enc k w blk off D → blk < w.heap.size → D.size < 4611686018427387904 → Calls P f #[.slice (some ⟨blk, off, none⟩) D.size cap, fv] w fun en w' => en = .returned (.tuple #[]) ∧ ∃ n os, w' = sortWorldK enc k w blk off n (srt D.toList).toArray os)
    (h0 : ∀ (p : Option Addr) (cap : Nat) (w : World), Calls P f #[.slice p 0 cap, fv] w fun en w' => en = .returned (.tuple #[]) ∧ w' = w) :
    FnS P f [.o (.vl (.i 1)), .o (.vl (.c fv))] [(1, .row d e xs)] (.t []) [(1, .row d e (srt xs))] := by
  subst hk
  refine fnS_rowV fv hf (hlen xs) (fun hpos w g cap rest hb hc => ?_) (fun _ w A cap => (h0 A cap w).mono (fun en w' hr => ⟨hr.1, by rw [hr.2]; exact Kp.refl _ _⟩))
  have hg : g < w.heap.size := (Array.getElem?_eq_some_iff.1 hb).1
  have hH : HoldsK enc d.sz w g 0 xs.toArray := by
    unfold HoldsK
    rw [flatK_list hf.len]
    exact holds_put hb (by simp)
  refine (h g 0 cap xs.toArray w hH hg (by simp; omega)).mono (fun en w' hr => ?_)
  obtain ⟨rfl, n, os, rfl⟩ := hr
  refine ⟨rfl, ?_, ?_⟩
  · unfold sortWorldK putRowK
    exact (Kp.of_grown (grownBy_put _)).mono (fun k hk => (Option.some.inj hk).symm)
  · unfold sortWorldK putRowK
    rw [flatK_list hf.len, heap_put _ hb, putCells_id _ _ _ (by rw [flatMap_len hf.len, flatMap_len hf.len, hlen])]
end Go.Proofs.Ytplcjkgbjapbmaa.C

import Derived.Test.YtplcjkgbjapbmaaUp
import Derived.Test.YtplcjkgbjapbmaaUAxsk
namespace Go.Proofs.Ytplcjkgbjapbmaa.C
open Go.RowKit Go.Proofs.YtplcjkgbjapbmaaW Go.Proofs.YtplcjkgbjapbmaaW.PrintWords Go.Proofs.Ytplcjkgbjapbmaa.U
set_option maxHeartbeats 1000000
set_option maxRecDepth 100000
set_option linter.unusedVariables false
set_option linter.unusedSimpArgs false
/-! slices.SortFunc of structs where the order parts the elements of the one list. -/
open Go.Sort in
theorem sorted_at {α : Type} [Inhabited α] {lt : α → α → Bool} (hW : Wo lt) (xs : List α) (hd : ∀ x ∈ xs, ∀ y ∈ xs, lt x y = false → lt y x = false → x = y) (d' : Array α) (hP : PermIn 0 xs.toArray.size xs.toArray d') (hSo : SortedIn lt 0 xs.toArray.size d') : d' = (sortL lt xs).toArray := by
  obtain ⟨hsz, _, hperm⟩ := hP
  have e1 : d'.extract 0 xs.toArray.size = d' := by rw [← hsz]; exact Array.extract_size
  rw [e1, Array.extract_size] at hperm
  have hx : d'.toList.Perm xs := hperm
  have e : d'.toList = sortL lt xs := by
    refine List.Perm.eq_of_pairwise (le := fun x y => (!lt y x) = true) ?_ ?_ ?_ (hx.trans (sortL_perm hW xs).symm)
    · intro a b ha hb h1 h2
      simp only [Bool.not_eq_true'] at h1 h2
      exact hd a (hx.mem_iff.1 ha) b ((sortL_perm hW xs).mem_iff.1 hb) h2 h1
    · rw [List.pairwise_iff_getElem]
      intro i j hi hj hij
      have hi' : i < d'.size := by simpa using hi
      have hj' : j < d'.size := by simpa using hj
      have := hSo i j (Nat.zero_le _) hij (by omega)
      rw [getElem!_pos d' j hj', getElem!_pos d' i hi'] at this
      simpa using this
    · exact (sortL_rise hW xs).imp (fun {a b} h => by simp [h])
  rw [← e]
open Go.Sort in
theorem fnS_sortX {P : Program} {f : FuncId} {α : Type} [Inhabited α] {d : Kd α} {enc : α → List Value} {e k : Nat} (fv : Value) (hf : Flat d enc) (hk : d.sz = k) (xs ys : List α) (hlen : ys.length = xs.length) (hn : xs.length ≤ 1000000000)
    (h : ∀ (blk off cap : Nat) (w : World), HoldsK enc k w blk off xs.toArray → blk < w.heap.size → xs.toArray.size < 4611686018427387904 → Calls P f #[.slice (some ⟨blk, off, none⟩) xs.toArray.size cap, fv] w fun en w' => en = .returned (.tuple #[]) ∧ ∃ n os, w' = sortWorldK enc k w blk off n ys.toArray os)
    (h0 : ∀ (p : Option Addr) (cap : Nat) (w : World), Calls P f #[.slice p 0 cap, fv] w fun en w' => en = .returned (.tuple #[]) ∧ w' = w) :
    FnS P f [.o (.vl (.i 1)), .o (.vl (.c fv))] [(1, .row d e xs)] (.t []) [(1, .row d e ys)] := by
  subst hk
  refine fnS_rowV fv hf hlen (fun hpos w g cap rest hb hc => ?_) (fun _ w A cap => (h0 A cap w).mono (fun en w' hr => ⟨hr.1, by rw [hr.2]; exact Kp.refl _ _⟩))
  have hg : g < w.heap.size := (Array.getElem?_eq_some_iff.1 hb).1
  have hH : HoldsK enc d.sz w g 0 xs.toArray := by
    unfold HoldsK
    rw [flatK_list hf.len]
    exact holds_put hb (by simp)
  have hc1 := h g 0 cap w hH hg (by simp; omega)
  rw [List.size_toArray] at hc1
  refine hc1.mono (fun en w' hr => ?_)
  obtain ⟨rfl, n, os, rfl⟩ := hr
  refine ⟨rfl, ?_, ?_⟩
  · unfold sortWorldK putRowK
    exact (Kp.of_grown (grownBy_put _)).mono (fun k hk => (Option.some.inj hk).symm)
  · unfold sortWorldK putRowK
    rw [flatK_list hf.len, heap_put _ hb, putCells_id _ _ _ (by rw [flatMap_len hf.len, flatMap_len hf.len, hlen])]
end Go.Proofs.Ytplcjkgbjapbmaa.C

import Derived.Test.YthacciliemgilaaUp
import Derived.Test.YthacciliemgilaaUHeavyc
namespace Go.Proofs.Ythacciliemgilaa.C
open Go.RowKit Go.Proofs.YthacciliemgilaaW Go.Proofs.YthacciliemgilaaW.PrintWords Go.Proofs.Ythacciliemgilaa.U
set_option maxHeartbeats 1000000
set_option maxRecDepth 100000
set_option linter.unusedVariables false
set_option linter.unusedSimpArgs false
/-! Falling lists. -/
def insG (c : Int) (a : List Int × Bool) (y : Int) : List Int × Bool := if a.2 = false ∧ y < c then (a.1 ++ [c, y], true) else (a.1 ++ [y], a.2)
def insF (c : Int) (L : List Int) : List Int := if (L.foldl (insG c) ([], false)).2 then (L.foldl (insG c) ([], false)).1 else (L.foldl (insG c) ([], false)).1 ++ [c]
theorem insG_true {c : Int} : ∀ {L a : List Int}, L.foldl (insG c) (a, true) = (a ++ L, true)
  | [], a => by simp
  | y :: L, a => by
    rw [List.foldl_cons, show insG c (a, true) y = (a ++ [y], true) by unfold insG; rw [if_neg (by simp)], insG_true, List.append_assoc]
    rfl
def insP (c : Int) : List Int → List Int
  | [] => [c]
  | y :: L => if y < c then c :: y :: L else y :: insP c L
theorem insG_false {c : Int} : ∀ {L a : List Int}, (if (L.foldl (insG c) (a, false)).2 then (L.foldl (insG c) (a, false)).1 else (L.foldl (insG c) (a, false)).1 ++ [c]) = a ++ insP c L
  | [], a => by simp [insP]
  | y :: L, a => by
    rw [List.foldl_cons]
    by_cases h : y < c
    · rw [show insG c (a, false) y = (a ++ [c, y], true) by unfold insG; rw [if_pos ⟨rfl, h⟩], insG_true, insP, if_pos h]
      simp
    · rw [show insG c (a, false) y = (a ++ [y], false) by unfold insG; rw [if_neg (fun e => h e.2)], insG_false, insP, if_neg h]
      simp
theorem insF_eq (c : Int) (L : List Int) : insF c L = insP c L := by
  have := insG_false (c := c) (L := L) (a := [])
  simpa [insF] using this
theorem insG_len (c : Int) : ∀ (L : List Int) (a : List Int × Bool), (L.foldl (insG c) a).1.length + cond (L.foldl (insG c) a).2 0 1 ≤ a.1.length + cond a.2 0 1 + L.length
  | [], a => Nat.le_refl _
  | y :: L, a => by
    have h1 := insG_len c L (insG c a y)
    have h2 : (insG c a y).1.length + cond (insG c a y).2 0 1 ≤ a.1.length + cond a.2 0 1 + 1 := by
      unfold insG
      split
      · rename_i h
        simp [h.1]
      · simp only [List.length_append, List.length_cons, List.length_nil]
        omega
    simp only [List.foldl_cons, List.length_cons]
    omega
theorem insP_perm (c : Int) : ∀ L : List Int, (insP c L).Perm (c :: L)
  | [] => .refl _
  | y :: L => by
    rw [insP]
    split
    · exact .refl _
    · exact ((insP_perm c L).cons y).trans (List.Perm.swap _ _ _)
theorem insP_fall (c : Int) : ∀ {L : List Int}, L.Pairwise (fun a b => b ≤ a) → (insP c L).Pairwise (fun a b => b ≤ a)
  | [], _ => by simp [insP]
  | y :: L, h => by
    rw [insP]
    rw [List.pairwise_cons] at h
    split
    · rename_i hy
      rw [List.pairwise_cons, List.pairwise_cons]
      refine ⟨fun z hz => ?_, h⟩
      rcases List.mem_cons.1 hz with rfl | hz
      · omega
      · have := h.1 z hz
        omega
    · rename_i hy
      rw [List.pairwise_cons]
      refine ⟨fun z hz => ?_, insP_fall c h.2⟩
      rcases List.mem_cons.1 ((insP_perm c L).mem_iff.1 hz) with rfl | hz
      · omega
      · exact h.1 z hz
def fallF (L : List Int) : List Int := L.foldl (fun a c => insF c a) []
theorem fallF_snoc {L : List Int} {k : Nat} {c : Int} (h : L[k]? = some c) : fallF (L.take (k + 1)) = insF c (fallF (L.take k)) := by
  rw [← take_snoc h, fallF, List.foldl_append]
  rfl
theorem fallF_spec : ∀ (L a : List Int), a.Pairwise (fun a b => b ≤ a) → (L.foldl (fun a c => insF c a) a).Pairwise (fun a b => b ≤ a) ∧ (L.foldl (fun a c => insF c a) a).Perm (a ++ L)
  | [], a, h => ⟨h, by simp⟩
  | c :: L, a, h => by
    rw [List.foldl_cons]
    have h1 := fallF_spec L (insF c a) (by rw [insF_eq]; exact insP_fall c h)
    refine ⟨h1.1, h1.2.trans ?_⟩
    rw [insF_eq]
    refine ((insP_perm c a).append_right L).trans ?_
    exact List.perm_middle.symm
theorem fall_eq : ∀ {a b : List Int}, a.Perm b → a.Pairwise (fun a b => b ≤ a) → b.Pairwise (fun a b => b ≤ a) → a = b
  | [], b, h, _, _ => by simpa using h.symm.eq_nil.symm
  | x :: a, [], h, _, _ => by simpa using h.eq_nil
  | x :: a, y :: b, h, ha, hb => by
    rw [List.pairwise_cons] at ha hb
    have h1 : x ≤ y := by
      rcases List.mem_cons.1 (h.mem_iff.1 List.mem_cons_self) with rfl | hx
      · omega
      · exact hb.1 x hx
    have h2 : y ≤ x := by
      rcases List.mem_cons.1 (h.mem_iff.2 List.mem_cons_self) with rfl | hy
      · omega
      · exact ha.1 y hy
    obtain rfl : x = y := by omega
    rw [fall_eq h.cons_inv ha.2 hb.2]
theorem fallF_perm (L : List Int) : (fallF L).Perm L := by
  have := (fallF_spec L [] List.Pairwise.nil).2
  rw [List.nil_append] at this
  exact this
/-- The program's way. -/
theorem fall_sort (L : List Int) : (L.mergeSort fun x y => decide (x ≤ y)).reverse = fallF L := by
  have h := fallF_spec L [] List.Pairwise.nil
  refine fall_eq ((List.reverse_perm _).trans ((List.mergeSort_perm L _).trans (fallF_perm L).symm)) ?_ h.1
  rw [List.pairwise_reverse]
  have := List.pairwise_mergeSort (le := fun x y : Int => decide (x ≤ y)) (fun a b c h1 h2 => by simp at *; omega) (fun a b => by simp; omega) L
  simpa using this
theorem fallF_len (L : List Int) : (fallF L).length = L.length := (fallF_perm L).length_eq
def cutX (l : List Slot) (room : Int) : Int := if (l.length : Int) ≤ room then 0 else ((fallF (l.map Slot.count))[room.toNat]?).getD 0
theorem cutX_at {l : List Slot} {room : Int} (h0 : 0 ≤ room) (h : room < (l.length : Int)) : (fallF (l.map Slot.count))[room.toNat]? = some (cutX l room) := by
  have : room.toNat < (fallF (l.map Slot.count)).length := by rw [fallF_len, List.length_map]; omega
  rw [cutX, if_neg (by omega), List.getElem?_eq_getElem this]
  rfl
theorem cutX_mem {l : List Slot} {room : Int} (h0 : 0 ≤ room) (h : room < (l.length : Int)) : ∃ s ∈ l, s.count = cutX l room := by
  have h1 := List.mem_of_getElem? (cutX_at h0 h)
  have h2 := (fallF_perm (l.map Slot.count)).mem_iff.1 h1
  simpa using h2
end Go.Proofs.Ythacciliemgilaa.C

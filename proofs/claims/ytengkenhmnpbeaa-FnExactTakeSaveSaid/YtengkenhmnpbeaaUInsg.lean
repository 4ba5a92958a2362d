import Derived.Test.YtengkenhmnpbeaaUp
import Derived.Test.YtengkenhmnpbeaaPMa
namespace Go.Proofs.Ytengkenhmnpbeaa.C
open Go.RowKit Go.Proofs.YtengkenhmnpbeaaW Go.Proofs.YtengkenhmnpbeaaW.PrintWords Go.Proofs.Ytengkenhmnpbeaa.U
set_option maxHeartbeats 1000000
set_option maxRecDepth 100000
set_option linter.unusedVariables false
set_option linter.unusedSimpArgs false
/-! Lists that are sorted by putting one after the other in its place. -/
section
variable {α : Type}
def insG (lt : α → α → Bool) (c : α) (a : List α × Bool) (y : α) : List α × Bool := if a.2 = false ∧ lt c y = true then (a.1 ++ [c, y], true) else (a.1 ++ [y], a.2)
def insL (lt : α → α → Bool) (c : α) : List α → List α
  | [] => [c]
  | y :: L => if lt c y = true then c :: y :: L else y :: insL lt c L
def insE (c : α) (a : List α × Bool) : List α := if a.2 then a.1 else a.1 ++ [c]
theorem insG_true {lt : α → α → Bool} {c : α} : ∀ {L a : List α}, L.foldl (insG lt c) (a, true) = (a ++ L, true)
  | [], a => by simp
  | y :: L, a => by
    rw [List.foldl_cons, show insG lt c (a, true) y = (a ++ [y], true) by unfold insG; rw [if_neg (by simp)], insG_true, List.append_assoc]
    rfl
theorem insG_false {lt : α → α → Bool} {c : α} : ∀ {L a : List α}, insE c (L.foldl (insG lt c) (a, false)) = a ++ insL lt c L
  | [], a => by simp [insE, insL]
  | y :: L, a => by
    rw [List.foldl_cons]
    by_cases h : lt c y = true
    · rw [show insG lt c (a, false) y = (a ++ [c, y], true) by unfold insG; rw [if_pos ⟨rfl, h⟩], insG_true, insL, if_pos h]
      simp [insE]
    · rw [show insG lt c (a, false) y = (a ++ [y], false) by unfold insG; rw [if_neg (fun e => h e.2)], insG_false, insL, if_neg h]
      simp
theorem insG_len (lt : α → α → Bool) (c : α) : ∀ (L : List α) (a : List α × Bool), (L.foldl (insG lt c) a).1.length + cond (L.foldl (insG lt c) a).2 0 1 ≤ a.1.length + cond a.2 0 1 + L.length
  | [], a => Nat.le_refl _
  | y :: L, a => by
    have h1 := insG_len lt c L (insG lt c a y)
    have h2 : (insG lt c a y).1.length + cond (insG lt c a y).2 0 1 ≤ a.1.length + cond a.2 0 1 + 1 := by
      unfold insG
      split
      · rename_i h
        simp [h.1]
      · simp only [List.length_append, List.length_cons, List.length_nil]
        omega
    simp only [List.foldl_cons, List.length_cons]
    omega
theorem insL_perm (lt : α → α → Bool) (c : α) : ∀ L : List α, (insL lt c L).Perm (c :: L)
  | [] => .refl _
  | y :: L => by
    rw [insL]
    split
    · exact .refl _
    · exact ((insL_perm lt c L).cons y).trans (List.Perm.swap _ _ _)
theorem insL_len (lt : α → α → Bool) (c : α) (L : List α) : (insL lt c L).length = L.length + 1 := (insL_perm lt c L).length_eq
/-- not less is a linear preorder -/
structure Wo (lt : α → α → Bool) : Prop where
  asym : ∀ x y, lt x y = true → lt y x = false
  ntrans : ∀ x y z, lt x y = false → lt y z = false → lt x z = false
theorem Wo.trans {lt : α → α → Bool} (h : Wo lt) {x y z : α} (h1 : lt x y = true) (h2 : lt y z = true) : lt x z = true := by
  cases h3 : lt x z with
  | true => rfl
  | false =>
    have := h.ntrans x z y h3 (h.asym _ _ h2)
    rw [h1] at this
    cases this
def Rise (lt : α → α → Bool) (L : List α) : Prop := L.Pairwise (fun a b => lt b a = false)
theorem insL_rise {lt : α → α → Bool} (h : Wo lt) (c : α) : ∀ {L : List α}, Rise lt L → Rise lt (insL lt c L)
  | [], _ => by simp [insL, Rise]
  | y :: L, hp => by
    rw [insL]
    have hp' := hp
    rw [Rise, List.pairwise_cons] at hp
    split
    · rename_i hy
      rw [Rise, List.pairwise_cons]
      refine ⟨fun z hz => ?_, hp'⟩
      rcases List.mem_cons.1 hz with rfl | hz
      · exact h.asym _ _ hy
      · exact h.ntrans _ _ _ (hp.1 z hz) (h.asym _ _ hy)
    · rename_i hy
      rw [Rise, List.pairwise_cons]
      refine ⟨fun z hz => ?_, insL_rise h c hp.2⟩
      rcases List.mem_cons.1 ((insL_perm lt c L).mem_iff.1 hz) with rfl | hz
      · simpa using hy
      · exact hp.1 z hz
def sortL (lt : α → α → Bool) (L : List α) : List α := L.foldl (fun a c => insL lt c a) []
theorem sortL_snoc {lt : α → α → Bool} {L : List α} {k : Nat} {c : α} (h : L[k]? = some c) : sortL lt (L.take (k + 1)) = insL lt c (sortL lt (L.take k)) := by
  have e : L.take (k + 1) = L.take k ++ [c] := by rw [List.take_add_one, h]; rfl
  rw [e, sortL, List.foldl_append]
  rfl
theorem sortL_spec {lt : α → α → Bool} (h : Wo lt) : ∀ (L a : List α), Rise lt a → Rise lt (L.foldl (fun a c => insL lt c a) a) ∧ (L.foldl (fun a c => insL lt c a) a).Perm (a ++ L)
  | [], a, ha => ⟨ha, by simp⟩
  | c :: L, a, ha => by
    rw [List.foldl_cons]
    have h1 := sortL_spec h L (insL lt c a) (insL_rise h c ha)
    refine ⟨h1.1, h1.2.trans ?_⟩
    refine ((insL_perm lt c a).append_right L).trans ?_
    exact List.perm_middle.symm
theorem sortL_rise {lt : α → α → Bool} (h : Wo lt) (L : List α) : Rise lt (sortL lt L) := (sortL_spec h L [] List.Pairwise.nil).1
theorem sortL_perm {lt : α → α → Bool} (h : Wo lt) (L : List α) : (sortL lt L).Perm L := by
  have := (sortL_spec h L [] List.Pairwise.nil).2
  rw [List.nil_append] at this
  exact this
theorem sortL_len {lt : α → α → Bool} (L : List α) : (sortL lt L).length = L.length := by
  have : ∀ (L a : List α), (L.foldl (fun a c => insL lt c a) a).length = a.length + L.length := fun L => by
    induction L with
    | nil => intro a; rfl
    | cons c L ih => intro a; rw [List.foldl_cons, ih, insL_len, List.length_cons]; omega
  simpa [sortL] using this L []
theorem rise_eq {lt : α → α → Bool} (hT : ∀ x y, lt x y = false → lt y x = false → x = y) : ∀ {a b : List α}, a.Perm b → Rise lt a → Rise lt b → a = b
  | [], b, h, _, _ => by simpa using h.symm.eq_nil.symm
  | x :: a, [], h, _, _ => by simpa using h.eq_nil
  | x :: a, y :: b, h, ha, hb => by
    have ha' := ha
    have hb' := hb
    rw [Rise, List.pairwise_cons] at ha hb
    by_cases e : x = y
    · subst e
      rw [rise_eq hT h.cons_inv ha.2 hb.2]
    · have h1 : lt x y = false := by
        rcases List.mem_cons.1 (h.mem_iff.1 List.mem_cons_self) with e' | hx
        · exact absurd e' e
        · exact hb.1 x hx
      have h2 : lt y x = false := by
        rcases List.mem_cons.1 (h.mem_iff.2 List.mem_cons_self) with e' | hy
        · exact absurd e'.symm e
        · exact ha.1 y hy
      exact absurd (hT x y h1 h2) e
theorem sortL_merge {lt : α → α → Bool} (h : Wo lt) (hT : ∀ x y, lt x y = false → lt y x = false → x = y) (L : List α) : (L.mergeSort fun x y => !lt y x) = sortL lt L := by
  refine rise_eq hT ((List.mergeSort_perm L _).trans (sortL_perm h L).symm) ?_ (sortL_rise h L)
  have := List.pairwise_mergeSort (le := fun x y : α => !lt y x) (fun a b c h1 h2 => by
    simp only [Bool.not_eq_true'] at *
    exact h.ntrans _ _ _ h2 h1) (fun a b => by
    cases h1 : lt b a
    · simp
    · simp [h.asym _ _ h1]) L
  unfold Rise
  refine List.Pairwise.imp (fun hh => ?_) this
  simpa using hh
end
end Go.Proofs.Ytengkenhmnpbeaa.C

import Derived.Test.YtjdncnajedglgaaDoorUp
import Derived.Test.YtjdncnajedglgaaDoorPPl
namespace Go.Proofs.YtjdncnajedglgaaDoor.C
open Go.RowKit Go.Proofs.YtjdncnajedglgaaDoorW Go.Proofs.YtjdncnajedglgaaDoorW.PrintWords Go.Proofs.YtjdncnajedglgaaDoor.U
set_option maxHeartbeats 1000000
set_option maxRecDepth 100000
set_option linter.unusedVariables false
set_option linter.unusedSimpArgs false
def slotOk (l : List Slot) (i : Nat) : Bool := match l[i]? with
  | none => true
  | some s => inB s.key 0 65535 && (inB s.count 1 1000000000 && (decide (i = 0) || (match l[i - 1]? with
    | some p => decide (p.key < s.key)
    | none => true)))
def okSlots (l : List Slot) : Bool := (List.range l.length).all (slotOk l)
def okHeavy (room : Int) (l : List Slot) (total cut : Int) : Bool := inB room 1 16 && (decide ((l.length : Int) ≤ room) && (inB total 0 1000000000 && (inB cut 0 1000000000 && okSlots l)))
theorem okSlots_false {l : List Slot} {k : Nat} (hk : k < l.length) (h : slotOk l k = false) : okSlots l = false := by
  rw [← Bool.not_eq_true, okSlots, List.all_eq_true]
  intro ha
  have := ha k (List.mem_range.2 hk)
  rw [h] at this
  cases this
theorem okSlots_true {l : List Slot} (h : ∀ k, k < l.length → slotOk l k = true) : okSlots l = true := by
  rw [okSlots, List.all_eq_true]
  exact fun k hk => h k (List.mem_range.1 hk)
theorem okSlots_at {l : List Slot} (h : okSlots l = true) {k : Nat} (hk : k < l.length) : slotOk l k = true := by
  rw [okSlots, List.all_eq_true] at h
  exact h k (List.mem_range.2 hk)
theorem okSlots_cnt {l : List Slot} (h : okSlots l = true) {k : Nat} {s : Slot} (hs : l[k]? = some s) : (0 ≤ s.key ∧ s.key ≤ 65535) ∧ 1 ≤ s.count ∧ s.count ≤ 1000000000 := by
  have := okSlots_at h (List.getElem?_eq_some_iff.1 hs).1
  unfold slotOk at this
  rw [hs] at this
  simp only [Bool.and_eq_true] at this
  exact ⟨inB_iff.1 this.1, inB_iff.1 this.2.1⟩
theorem okSlots_step {l : List Slot} (h : okSlots l = true) {k : Nat} {s p : Slot} (hp : l[k]? = some p) (hs : l[k + 1]? = some s) : p.key < s.key := by
  have := okSlots_at h (List.getElem?_eq_some_iff.1 hs).1
  unfold slotOk at this
  rw [hs] at this
  simp only [Bool.and_eq_true, Nat.add_sub_cancel, hp] at this
  simpa using this.2.2
theorem okSlots_lt {l : List Slot} (h : okSlots l = true) : ∀ {j i : Nat} {s p : Slot}, i < j → l[i]? = some p → l[j]? = some s → p.key < s.key
  | 0, _, _, _, hij, _, _ => by omega
  | j + 1, i, s, p, hij, hp, hs => by
    rcases Nat.lt_or_ge i j with hlt | hge
    · obtain ⟨q, hq⟩ : ∃ q, l[j]? = some q := ⟨_, List.getElem?_eq_getElem (by have := (List.getElem?_eq_some_iff.1 hs).1; omega)⟩
      have h1 := okSlots_lt h hlt hp hq
      have h2 := okSlots_step h hq hs
      omega
    · obtain rfl : i = j := by omega
      exact okSlots_step h hp hs
end Go.Proofs.YtjdncnajedglgaaDoor.C

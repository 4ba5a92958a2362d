import Derived.Test.YthacciliemgilaaUp
import Derived.Test.YthacciliemgilaaUHeavyb
namespace Go.Proofs.Ythacciliemgilaa.C
open Go.RowKit Go.Proofs.YthacciliemgilaaW Go.Proofs.YthacciliemgilaaW.PrintWords Go.Proofs.Ythacciliemgilaa.U
set_option maxHeartbeats 1000000
set_option maxRecDepth 100000
set_option linter.unusedVariables false
set_option linter.unusedSimpArgs false
structure HV where
  room : Int
  l : List Slot
  t : Int
  c : Int
def hvOk (h : HV) (key : Int) : Bool := okHeavy h.room h.l h.t h.c && (inB key 0 65535 && !(h.t == 1000000000))
def hvPut (h : HV) (key : Int) : Bool := decide (0 < hasS h.l key) || decide ((h.l.length : Int) < h.room)
def hvNext (h : HV) (key : Int) : HV := if hvPut h key = true then ⟨h.room, putS h.l key 1, h.t + 1, h.c⟩ else ⟨h.room, lessS h.l 1, h.t + 1, h.c + 1⟩
def hvAdd (h : HV) (key : Int) : HV := if hvOk h key = true then hvNext h key else h
theorem okHeavy_parts {room total cut : Int} {l : List Slot} (h : okHeavy room l total cut = true) : (1 ≤ room ∧ room ≤ 16) ∧ (l.length : Int) ≤ room ∧ (0 ≤ total ∧ total ≤ 1000000000) ∧ (0 ≤ cut ∧ cut ≤ 1000000000) ∧ okSlots l = true := by
  unfold okHeavy at h
  simp only [Bool.and_eq_true, decide_eq_true_eq] at h
  exact ⟨inB_iff.1 h.1, h.2.1, inB_iff.1 h.2.2.1, inB_iff.1 h.2.2.2.1, h.2.2.2.2⟩
theorem okSlots_cnts {l : List Slot} (h : okSlots l = true) : ∀ s ∈ l, 0 ≤ s.count ∧ s.count ≤ 100000000000 := fun s hs => by
  obtain ⟨j, hj⟩ := List.mem_iff_getElem?.1 hs
  have := okSlots_cnt h hj
  omega
theorem lessS_len (l : List Slot) (x : Int) : (lessS l x).length ≤ l.length := by
  have := less_le (l := l) (x := x) (k := l.length)
  rwa [List.take_length] at this
theorem putS_len (l : List Slot) (key c : Int) : (putS l key c).length ≤ l.length + 1 := by
  have := putG_len key c l
  unfold putS
  split
  · rename_i h
    rw [h] at this
    simp at this
    omega
  · rename_i h
    rw [Bool.not_eq_true] at h
    rw [h] at this
    simp only [cond_false] at this
    simp only [List.length_append, List.length_singleton]
    omega
theorem hvAdd_len (h : HV) (key : Int) : (hvAdd h key).l.length ≤ h.l.length + 1 := by
  unfold hvAdd
  split
  · unfold hvNext
    split
    · exact putS_len _ _ _
    · exact Nat.le_succ_of_le (lessS_len _ _)
  · omega
end Go.Proofs.Ythacciliemgilaa.C

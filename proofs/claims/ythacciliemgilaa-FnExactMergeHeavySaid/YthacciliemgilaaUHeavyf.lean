import Derived.Test.YthacciliemgilaaUp
import Derived.Test.YthacciliemgilaaUHeavyd
import Derived.Test.YthacciliemgilaaUHeavye
namespace Go.Proofs.Ythacciliemgilaa.C
open Go.RowKit Go.Proofs.YthacciliemgilaaW Go.Proofs.YthacciliemgilaaW.PrintWords Go.Proofs.Ythacciliemgilaa.U
set_option maxHeartbeats 1000000
set_option maxRecDepth 100000
set_option linter.unusedVariables false
set_option linter.unusedSimpArgs false
def shTo (h : HV) (room : Int) : HV := ⟨room, lessS h.l (cutX h.l room), h.t, h.c + cutX h.l room⟩
def shOk (h : HV) (room : Int) : Bool := okHeavy h.room h.l h.t h.c && inB room 1 h.room
def shOk2 (h : HV) (room : Int) : Bool := shOk h room && okHeavy (shTo h room).room (shTo h room).l (shTo h room).t (shTo h room).c
def hvShrink (h : HV) (room : Int) : HV := if shOk2 h room = true then shTo h room else h
theorem hvShrink_len (h : HV) (room : Int) : (hvShrink h room).l.length ≤ h.l.length := by
  unfold hvShrink
  split
  · exact lessS_len _ _
  · exact Nat.le_refl _
theorem okSlots_cnts1 {l : List Slot} (h : okSlots l = true) : ∀ s ∈ l, 1 ≤ s.count ∧ s.count ≤ 100000000000 := fun s hs => by
  obtain ⟨j, hj⟩ := List.mem_iff_getElem?.1 hs
  have := okSlots_cnt h hj
  omega
theorem cutX_le {l : List Slot} {room : Int} (h0 : 0 ≤ room) (hb : ∀ s ∈ l, 1 ≤ s.count ∧ s.count ≤ 100000000000) : 0 ≤ cutX l room ∧ cutX l room ≤ 100000000000 := by
  by_cases h : room < (l.length : Int)
  · obtain ⟨s, hs, e⟩ := cutX_mem h0 h
    have := hb s hs
    omega
  · unfold cutX
    rw [if_pos (by omega)]
    omega
end Go.Proofs.Ythacciliemgilaa.C

import Derived.Test.YthacciliemgilaaUp
import Derived.Test.YthacciliemgilaaUHeavyc
namespace Go.Proofs.Ythacciliemgilaa.C
open Go.RowKit Go.Proofs.YthacciliemgilaaW Go.Proofs.YthacciliemgilaaW.PrintWords Go.Proofs.Ythacciliemgilaa.U
set_option maxHeartbeats 1000000
set_option maxRecDepth 100000
set_option linter.unusedVariables false
set_option linter.unusedSimpArgs false
def hvP (h : HV) : List Int → Option HV
  | [] => some h
  | k :: ks => if hvOk h k = true then hvP (hvAdd h k) ks else none
theorem hvP_cons (h : HV) (k : Int) (ks : List Int) : hvP h (k :: ks) = if hvOk h k = true then hvP (hvAdd h k) ks else none := rfl
def hvZero : HV := ⟨0, [], 0, 0⟩
def hvPlayO (room : Int) (keys : List Int) : Option HV := if (inB room 1 16 && decide ((keys.length : Int) ≤ 300)) = true then hvP ⟨room, [], 0, 0⟩ keys else none
def hvPlay (room : Int) (keys : List Int) : HV := match hvPlayO room keys with
  | some h => h
  | none => hvZero
theorem hvP_len : ∀ {keys : List Int} {h g : HV}, hvP h keys = some g → g.l.length ≤ h.l.length + keys.length
  | [], h, g, e => by cases e; simp
  | k :: ks, h, g, e => by
    unfold hvP at e
    split at e
    · have h1 := hvP_len e
      have h2 := hvAdd_len h k
      simp only [List.length_cons]
      omega
    · cases e
theorem hvPlay_len (room : Int) (keys : List Int) : (hvPlay room keys).l.length ≤ 300 := by
  unfold hvPlay
  cases e : hvPlayO room keys with
  | none => simp [hvZero]
  | some g =>
    unfold hvPlayO at e
    split at e
    · rename_i h
      simp only [Bool.and_eq_true, decide_eq_true_eq] at h
      have := hvP_len e
      simp at this
      dsimp only
      omega
    · cases e
end Go.Proofs.Ythacciliemgilaa.C

import Derived.Test.YtengkenhmnpbeaaUp
import Derived.Test.YtengkenhmnpbeaaPSc
import Derived.Test.YtengkenhmnpbeaaUYRead4
import Derived.Test.YtengkenhmnpbeaaUYCheckS
import Derived.Test.YtengkenhmnpbeaaUYSaveok
namespace Go.Proofs.Ytengkenhmnpbeaa.C
open Go.RowKit Go.Proofs.YtengkenhmnpbeaaW Go.Proofs.YtengkenhmnpbeaaW.PrintWords Go.Proofs.Ytengkenhmnpbeaa.U
set_option maxHeartbeats 1000000
set_option maxRecDepth 100000
set_option linter.unusedVariables false
set_option linter.unusedSimpArgs false
theorem yS_num (b : List Int) (hb : AllB b) (j lo n : Nat) (hlo : lo = 4 * j) (hn : n = 4) (hl : 4 * j + 4 ≤ b.length) : FnR Try.prog 81 [.o (.r (Kd.int .u8) 5 ((b.drop lo).take n))] (.one (.o (.c (.int .i64 (num b j))))) := by
  subst hlo hn
  rw [slice4 hl]
  exact yS_read _ _ _ _ (fun x hx => by
    simp only [List.mem_cons, List.not_mem_nil, or_false] at hx
    rcases hx with rfl | rfl | rfl | rfl <;> exact getD_byte hb _)
theorem yI_num (b : List Int) (hb : AllB b) (j lo n : Nat) (hlo : lo = 4 * j) (hn : n = 4) (hl : 4 * j + 4 ≤ b.length) : FnR Try.prog 83 [.o (.r (Kd.int .u8) 5 ((b.drop lo).take n))] (.one (.o (.c (.int .i64 (num b j))))) := by
  subst hlo hn
  rw [slice4 hl]
  exact yI_read _ _ _ _ (fun x hx => by
    simp only [List.mem_cons, List.not_mem_nil, or_false] at hx
    rcases hx with rfl | rfl | rfl | rfl <;> exact getD_byte hb _)
end Go.Proofs.Ytengkenhmnpbeaa.C

import Derived.Test.YthacciliemgilaaUp
import Derived.Test.YthacciliemgilaaUYHvmgB
import Derived.Test.YthacciliemgilaaUYHvmgS
import Derived.Test.YthacciliemgilaaUYHvmgI
namespace Go.Proofs.Ythacciliemgilaa.C
open Go.RowKit Go.Proofs.YthacciliemgilaaW Go.Proofs.YthacciliemgilaaW.PrintWords Go.Proofs.Ythacciliemgilaa.U
set_option maxHeartbeats 1000000
set_option maxRecDepth 100000
set_option linter.unusedVariables false
set_option linter.unusedSimpArgs false
theorem yS_merge (a b : HV) (hn : a.l.length ≤ 2000000) (hm : b.l.length ≤ 2000000) : FnR Try.prog 37 [.a [.c (.int .i64 a.room), .r kSlot 50 a.l, .c (.int .i64 a.t), .c (.int .i64 a.c)], .a [.c (.int .i64 b.room), .r kSlot 50 b.l, .c (.int .i64 b.t), .c (.int .i64 b.c)]] (.many [.a [.c (.int .i64 (hvMerge a b).room), .r kSlot 50 (hvMerge a b).l, .c (.int .i64 (hvMerge a b).t), .c (.int .i64 (hvMerge a b).c)], .o (.c (.bool (mgOk2 a b)))]) := by
  obtain ⟨ra, la, ta, ca⟩ := a
  obtain ⟨rb, lb, tb, cb⟩ := b
  unfold hvMerge mgOk2 mgOk mgTo hvZero
  dsimp only at hn hm ⊢
  cases h1 : (okHeavy ra la ta ca && (okHeavy rb lb tb cb && (ra == rb)))
  · rw [Bool.false_and, if_neg (by simp)]
    exact yS_mgBad ra la ta ca rb lb tb cb hn hm h1
  · rw [Bool.true_and]
    simp only [Bool.and_eq_true, beq_iff_eq] at h1
    have c := yS_mgGood ra la ta ca rb lb tb cb h1.1 h1.2.1 h1.2.2
    cases h2 : okHeavy ra (lessS (mgL la lb) (cutX (mgL la lb) ra)) (ta + tb) (ca + cb + cutX (mgL la lb) ra)
    · rw [h2, if_neg (by simp)] at c
      rw [if_neg (by simp)]
      exact c
    · rw [h2, if_pos rfl] at c
      rw [if_pos rfl]
      exact c
theorem yI_merge (a b : HV) (hn : a.l.length ≤ 2000000) (hm : b.l.length ≤ 2000000) : FnR Try.prog 38 [.a [.c (.int .i64 a.room), .r kSlot 50 a.l, .c (.int .i64 a.t), .c (.int .i64 a.c)], .a [.c (.int .i64 b.room), .r kSlot 50 b.l, .c (.int .i64 b.t), .c (.int .i64 b.c)]] (.many [.a [.c (.int .i64 (hvMerge a b).room), .r kSlot 50 (hvMerge a b).l, .c (.int .i64 (hvMerge a b).t), .c (.int .i64 (hvMerge a b).c)], .o (.c (.bool (mgOk2 a b)))]) := by
  obtain ⟨ra, la, ta, ca⟩ := a
  obtain ⟨rb, lb, tb, cb⟩ := b
  unfold hvMerge mgOk2 mgOk mgTo hvZero
  dsimp only at hn hm ⊢
  cases h1 : (okHeavy ra la ta ca && (okHeavy rb lb tb cb && (ra == rb)))
  · rw [Bool.false_and, if_neg (by simp)]
    exact yI_mgBad ra la ta ca rb lb tb cb hn hm h1
  · rw [Bool.true_and]
    simp only [Bool.and_eq_true, beq_iff_eq] at h1
    have c := yI_mgGood ra la ta ca rb lb tb cb h1.1 h1.2.1 h1.2.2
    cases h2 : okHeavy ra (lessS (mgL la lb) (cutX (mgL la lb) ra)) (ta + tb) (ca + cb + cutX (mgL la lb) ra)
    · rw [h2, if_neg (by simp)] at c
      rw [if_neg (by simp)]
      exact c
    · rw [h2, if_pos rfl] at c
      rw [if_pos rfl]
      exact c
theorem hvMerge_len (a b : HV) : (hvMerge a b).l.length ≤ a.l.length + b.l.length := by
  unfold hvMerge
  split
  · exact Nat.le_trans (lessS_len _ _) (mgL_len _ _)
  · simp [hvZero]
end Go.Proofs.Ythacciliemgilaa.C

import Derived.Test.YtkdndllgocdbdaaCylawAddJoin16
import Derived.Test.YtkdndllgocdbdaaCylawAddJoin17
import Derived.Test.YtkdndllgocdbdaaCylawAddJoin18
import Derived.Test.YtkdndllgocdbdaaCylawAddJoin19
import Derived.Test.YtkdndllgocdbdaaCylawAddJoin20
import Derived.Test.YtkdndllgocdbdaaCylawAddJoin21
namespace Go.Proofs.Ytkdndllgocdbdaa.C
open Go.RowKit Go.Proofs.YtkdndllgocdbdaaW Go.Proofs.YtkdndllgocdbdaaW.PrintWords Go.Proofs.Ytkdndllgocdbdaa.U
set_option maxHeartbeats 1000000
set_option maxRecDepth 100000
set_option linter.unusedVariables false
set_option linter.unusedSimpArgs false
theorem addL_le {l l' : List Frame} {m c : Int} {left : Bool} {f : Frame} : (addL l l' m c left f).length ≤ l.length + 1 := by rw [addL]; split <;> simp
theorem addR_le {l l' : List Frame} {m c : Int} {left : Bool} {f : Frame} : (addR l l' m c left f).length ≤ l'.length + 1 := by rw [addR]; split <;> simp
theorem addPs_le {l l' : List Frame} {m c : Int} {left : Bool} {f : Frame} : (addPs l l' m c left f).length ≤ l.length + l'.length := by
  rw [addPs]
  split
  · cases left
    · simpa using Nat.le_trans (pairs_le (k := l.length) (c := c) (left := false) (f := f) (Nat.le_refl l.length) |> fun h => by simpa using h) (Nat.le_add_right l.length l'.length)
    · simpa using Nat.le_trans (pairs_le (k := l'.length) (c := c) (left := true) (f := f) (Nat.le_refl l'.length) |> fun h => by simpa using h) (Nat.le_add_left l'.length l.length)
  · simp
theorem yI_AddJoin (l l' : List Frame) (m by_ : Int) (left : Bool) (f : Frame) (hn : l.length ≤ 2000000) (hn' : l'.length ≤ 2000000) : FnR Try.prog 40 [.a [.r kFrame 56 l, .r kFrame 56 l', .c (.int .i64 m)], .o (.c (.int .i64 by_)), .o (.c (.bool left)), .a [.c (.int .i64 f.kind), .c (.int .i64 f.key), .c (.int .i64 f.time), .c (.int .i64 f.value)]] (.many [.a [.r kFrame 56 (addL l l' m by_ left f), .r kFrame 56 (addR l l' m by_ left f), .c (.int .i64 m)], .o (.r kPair 84 (addPs l l' m by_ left f)), .o (.c (.int .i64 (addCode l l' m by_ left f)))]) := by
  by_cases hok : (okJoin l l' m && (okEv f && inB by_ 0 1000000)) = true
  rotate_left
  · have hb := Bool.eq_false_iff.2 hok
    have e : addCode l l' m by_ left f = 3 := by rw [addCode, if_pos hb]
    simp only [addL, addR, addPs, e]
    cases left
    · exact y_addBad_false l l' m by_ f (by omega) (by omega) hb
    · exact y_addBad_true l l' m by_ f (by omega) (by omega) hb
  by_cases ht : f.time ≤ m
  · have e : addCode l l' m by_ left f = 1 := by rw [addCode, if_neg (by simp [hok]), if_pos ht]
    simp only [addL, addR, addPs, e]
    cases left
    · exact y_addLate_false l l' m by_ f (by omega) (by omega) hok ht
    · exact y_addLate_true l l' m by_ f (by omega) (by omega) hok ht
  by_cases h40 : (if left then l else l').length = 40
  · have e : addCode l l' m by_ left f = 2 := by rw [addCode, if_neg (by simp [hok]), if_neg ht, if_pos h40]
    simp only [addL, addR, addPs, e]
    cases left
    · exact y_addFull_false l l' m by_ f (by omega) (by omega) hok ht h40
    · exact y_addFull_true l l' m by_ f (by omega) (by omega) hok ht h40
  · have e : addCode l l' m by_ left f = 0 := by rw [addCode, if_neg (by simp [hok]), if_neg ht, if_neg h40]
    simp only [addL, addR, addPs, e]
    cases left
    · exact y_addGood_false l l' m by_ f (by omega) (by omega) hok ht h40
    · exact y_addGood_true l l' m by_ f (by omega) (by omega) hok ht h40
theorem yS_AddJoin (l l' : List Frame) (m by_ : Int) (left : Bool) (f : Frame) (hn : l.length ≤ 2000000) (hn' : l'.length ≤ 2000000) : FnR Try.prog 38 [.a [.r kFrame 56 l, .r kFrame 56 l', .c (.int .i64 m)], .o (.c (.int .i64 by_)), .o (.c (.bool left)), .a [.c (.int .i64 f.kind), .c (.int .i64 f.key), .c (.int .i64 f.time), .c (.int .i64 f.value)]] (.many [.a [.r kFrame 56 (addL l l' m by_ left f), .r kFrame 56 (addR l l' m by_ left f), .c (.int .i64 m)], .o (.r kPair 84 (addPs l l' m by_ left f)), .o (.c (.int .i64 (addCode l l' m by_ left f)))]) := by
  by_cases hok : (okJoin l l' m && (okEv f && inB by_ 0 1000000)) = true
  rotate_left
  · have hb := Bool.eq_false_iff.2 hok
    have e : addCode l l' m by_ left f = 3 := by rw [addCode, if_pos hb]
    simp only [addL, addR, addPs, e]
    exact yS_addBad l l' m by_ f (by omega) (by omega) left hb
  by_cases ht : f.time ≤ m
  · have e : addCode l l' m by_ left f = 1 := by rw [addCode, if_neg (by simp [hok]), if_pos ht]
    simp only [addL, addR, addPs, e]
    exact yS_addLate l l' m by_ f (by omega) (by omega) left hok ht
  by_cases h40 : (if left then l else l').length = 40
  · have e : addCode l l' m by_ left f = 2 := by rw [addCode, if_neg (by simp [hok]), if_neg ht, if_pos h40]
    simp only [addL, addR, addPs, e]
    cases left
    · exact yS_addFull_false l l' m by_ f (by omega) (by omega) hok ht h40
    · exact yS_addFull_true l l' m by_ f (by omega) (by omega) hok ht h40
  · have e : addCode l l' m by_ left f = 0 := by rw [addCode, if_neg (by simp [hok]), if_neg ht, if_neg h40]
    simp only [addL, addR, addPs, e]
    cases left
    · exact yS_addGood_false l l' m by_ f (by omega) (by omega) hok ht h40
    · exact yS_addGood_true l l' m by_ f (by omega) (by omega) hok ht h40
end Go.Proofs.Ytkdndllgocdbdaa.C

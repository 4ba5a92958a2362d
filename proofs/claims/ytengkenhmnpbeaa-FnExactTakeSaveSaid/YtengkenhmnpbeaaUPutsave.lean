import Derived.Test.YtengkenhmnpbeaaUp
import Derived.Test.YtengkenhmnpbeaaUCrc
import Derived.Test.YtengkenhmnpbeaaUResume
namespace Go.Proofs.Ytengkenhmnpbeaa.C
open Go.RowKit Go.Proofs.YtengkenhmnpbeaaW Go.Proofs.YtengkenhmnpbeaaW.PrintWords Go.Proofs.Ytengkenhmnpbeaa.U
set_option maxHeartbeats 1000000
set_option maxRecDepth 100000
set_option linter.unusedVariables false
set_option linter.unusedSimpArgs false
def six (a : Agg) : List Int := [a.win, a.key, a.count, a.sum + 1000000000, a.min + 1000000, a.max + 1000000]
def sixes (l : List Agg) : List Int := l.flatMap six
theorem sixes_snoc {l : List Agg} {k : Nat} {x : Agg} (h : l[k]? = some x) : sixes (l.take (k + 1)) = sixes (l.take k) ++ six x := by
  have e : l.take (k + 1) = l.take k ++ [x] := by rw [List.take_add_one, h]; rfl
  rw [sixes, e, List.flatMap_append]
  simp [sixes]
theorem sixes_len (l : List Agg) : (sixes l).length = 6 * l.length := by
  induction l with
  | nil => rfl
  | cons x r ih => simp only [sixes, List.flatMap_cons, List.length_append, List.length_cons] at ih ⊢; rw [ih]; simp [six]; omega
def heads (x : Save) : List Int := [x.at_, x.mark + 1, x.late, x.over, (x.aggs.length : Int)]
def nums (x : Save) : List Int := heads x ++ sixes x.aggs
theorem nums_len (x : Save) : (nums x).length = 5 + 6 * x.aggs.length := by rw [nums, List.length_append, sixes_len]; rfl
def fours (l : List Int) : List Int := l.flatMap bytes4
theorem fours_snoc {l : List Int} {k : Nat} {x : Int} (h : l[k]? = some x) : fours (l.take (k + 1)) = fours (l.take k) ++ bytes4 x := by
  have e : l.take (k + 1) = l.take k ++ [x] := by rw [List.take_add_one, h]; rfl
  rw [fours, e, List.flatMap_append]
  simp [fours]
theorem fours_len (l : List Int) : (fours l).length = 4 * l.length := by
  induction l with
  | nil => rfl
  | cons x r ih => simp only [fours, List.flatMap_cons, List.length_append, List.length_cons] at ih ⊢; rw [ih, bytes4_len]; omega
theorem fours_byte (l : List Int) : ∀ b ∈ fours l, 0 ≤ b ∧ b ≤ 255 := fun b h => by
  obtain ⟨x, _, hx⟩ := List.mem_flatMap.1 h
  exact bytes4_byte x b hx
def sealed (n : List Int) : List Int := fours n ++ bytes4 (crc (fours n))
theorem sealed_len (n : List Int) : (sealed n).length = 4 * n.length + 4 := by rw [sealed, List.length_append, fours_len, bytes4_len]
def putL (x : Save) : List Int := if okSave x then sealed (nums x) else []
theorem okAgg_bd {a : Agg} (h : okAgg a = true) : (0 ≤ a.win ∧ a.win ≤ 1000000) ∧ (0 ≤ a.key ∧ a.key ≤ 65535) ∧ (1 ≤ a.count ∧ a.count ≤ 1000000000) ∧ (-1000000000 ≤ a.sum ∧ a.sum ≤ 1000000000) ∧ (-1000000 ≤ a.min ∧ a.min ≤ 1000000) ∧ (-1000000 ≤ a.max ∧ a.max ≤ 1000000) := by
  unfold okAgg at h
  simp only [Bool.and_eq_true, inB_iff] at h
  exact ⟨h.1, h.2.1, h.2.2.1, h.2.2.2.1, h.2.2.2.2.1, h.2.2.2.2.2.1⟩
theorem okSave_bd {x : Save} (h : okSave x = true) : x.aggs.length ≤ 40 ∧ (0 ≤ x.at_ ∧ x.at_ ≤ 300) ∧ (-1 ≤ x.mark ∧ x.mark ≤ 1000000) ∧ (0 ≤ x.late ∧ x.late ≤ 1000000000) ∧ (0 ≤ x.over ∧ x.over ≤ 1000000000) ∧ ∀ a ∈ x.aggs, okAgg a = true := by
  unfold okSave okShard at h
  simp only [Bool.and_eq_true, inB_iff, decide_eq_true_iff, List.all_eq_true] at h
  exact ⟨h.2.1, h.1, h.2.2.1, h.2.2.2.1, h.2.2.2.2.1, h.2.2.2.2.2.1⟩
theorem putL_len (x : Save) : (putL x).length ≤ 984 := by
  unfold putL
  split
  · rename_i h
    have := (okSave_bd h).1
    rw [sealed_len, nums_len]
    omega
  · exact Nat.zero_le _
theorem putL_byte (x : Save) : ∀ b ∈ putL x, 0 ≤ b ∧ b ≤ 255 := by
  unfold putL
  split
  · intro b hb
    rw [sealed, List.mem_append] at hb
    rcases hb with hb | hb
    · exact fours_byte _ b hb
    · exact bytes4_byte _ b hb
  · intro b hb
    cases hb
end Go.Proofs.Ytengkenhmnpbeaa.C

import Derived.Test.YtmllbjonjpbbkaaUp
import Derived.Test.YtmllbjonjpbbkaaUSess
namespace Go.Proofs.Ytmllbjonjpbbkaa.C
open Go.RowKit Go.Proofs.YtmllbjonjpbbkaaW Go.Proofs.YtmllbjonjpbbkaaW.PrintWords Go.Proofs.Ytmllbjonjpbbkaa.U
set_option maxHeartbeats 1000000
set_option maxRecDepth 100000
set_option linter.unusedVariables false
set_option linter.unusedSimpArgs false
def insS (o : Session) (L : List Session) (k : Nat) : List Session × Bool := (L.take k).foldl (insG sessLt o) ([], false)
theorem insS_succ {o x : Session} {L : List Session} {k : Nat} (hx : L[k]? = some x) : insS o L (k + 1) = insG sessLt o (insS o L k) x := by
  rw [insS, take_snoc' hx, List.foldl_append]
  rfl
theorem insS_len (o : Session) (L : List Session) (k : Nat) : (insS o L k).1.length ≤ k + 1 := by
  have h := insG_len sessLt o (L.take k) ([], false)
  have h2 : (L.take k).length ≤ k := List.length_take_le _ _
  have h3 : (insS o L k).1.length + cond (insS o L k).2 0 1 ≤ 0 + 1 + (L.take k).length := h
  omega
theorem insS_all (o : Session) (L : List Session) : insE o (insS o L L.length) = insL sessLt o L := by
  rw [insS, List.take_length, insG_false]
  rfl
theorem nearS_yes {f : Frame} {gap : Int} {x : Session} (h1 : x.key = f.key) (h2 : x.frm - gap ≤ f.time) (h3 : f.time ≤ x.till + gap) : nearS f gap x = true := by
  unfold nearS
  rw [decide_eq_true h1, decide_eq_true h2, decide_eq_true h3]
  rfl
theorem nearS_no1 {f : Frame} {gap : Int} {x : Session} (h1 : ¬ x.key = f.key) : nearS f gap x = false := by
  unfold nearS
  rw [decide_eq_false h1]
  rfl
theorem nearS_no2 {f : Frame} {gap : Int} {x : Session} (h2 : ¬ x.frm - gap ≤ f.time) : nearS f gap x = false := by
  unfold nearS
  rw [decide_eq_false h2]
  simp
theorem nearS_no3 {f : Frame} {gap : Int} {x : Session} (h3 : ¬ f.time ≤ x.till + gap) : nearS f gap x = false := by
  unfold nearS
  rw [decide_eq_false h3]
  simp
theorem own_hit {f : Frame} {gap : Int} {l : List Session} {k : Nat} {x : Session} (hx : l[k]? = some x) (h : nearS f gap x = true) : ownS f gap (l.take (k + 1)) = joinS x (ownS f gap (l.take k)) ∧ outS f gap (l.take (k + 1)) = outS f gap (l.take k) := by
  rw [ownS_succ hx, outS_succ hx, ownF, h]
  exact ⟨rfl, List.append_nil _⟩
theorem own_miss {f : Frame} {gap : Int} {l : List Session} {k : Nat} {x : Session} (hx : l[k]? = some x) (h : nearS f gap x = false) : ownS f gap (l.take (k + 1)) = ownS f gap (l.take k) ∧ outS f gap (l.take (k + 1)) = outS f gap (l.take k) ++ [x] := by
  rw [ownS_succ hx, outS_succ hx, ownF, h]
  exact ⟨rfl, rfl⟩
theorem ev_bd {f : Frame} (h : okEv f = true) : f.kind = 1 ∧ (0 ≤ f.key ∧ f.key ≤ 65535) ∧ (0 ≤ f.time ∧ f.time ≤ 1000000) ∧ (-1000000 ≤ f.value ∧ f.value ≤ 1000000) := by
  unfold okEv okFrame at h
  rw [Bool.and_eq_true, decide_eq_true_iff] at h
  obtain ⟨h1, h2⟩ := h
  rw [if_pos h2] at h1
  simp only [Bool.and_eq_true, inB_iff] at h1
  exact ⟨h2, h1.1, h1.2.1, h1.2.2⟩
theorem one_bd {f : Frame} (h : okEv f = true) : SessBd (oneS f) := by
  obtain ⟨_, _, _, h4⟩ := ev_bd h
  exact ⟨⟨by show (0 : Int) ≤ 1; decide, by show (1 : Int) ≤ 1000000000; decide⟩, by show -1000000000 ≤ f.value; omega, by show f.value ≤ 1000000000; omega⟩
end Go.Proofs.Ytmllbjonjpbbkaa.C

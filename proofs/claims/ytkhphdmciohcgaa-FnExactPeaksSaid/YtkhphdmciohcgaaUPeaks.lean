import Derived.Test.YtkhphdmciohcgaaUp
import Derived.Test.YtkhphdmciohcgaaPSb
import Derived.Test.YtkhphdmciohcgaaUAxp
namespace Go.Proofs.Ytkhphdmciohcgaa.C
open Go.RowKit Go.Proofs.YtkhphdmciohcgaaW Go.Proofs.YtkhphdmciohcgaaW.PrintWords Go.Proofs.Ytkhphdmciohcgaa.U
set_option maxHeartbeats 1000000
set_option maxRecDepth 100000
set_option linter.unusedVariables false
set_option linter.unusedSimpArgs false
def lastF (key w : Int) (m : Int) (a : Agg) : Int := if a.key = key ∧ a.win = w then a.sum else m
def lastSum (l : List Agg) (key w : Int) : Int := l.foldl (lastF key w) 0
theorem take_snocA {α : Type} {l : List α} {k : Nat} {x : α} (h : l[k]? = some x) : l.take (k + 1) = l.take k ++ [x] := by rw [List.take_add_one, h]; rfl
theorem lastSum_succ {l : List Agg} {key w : Int} {k : Nat} {x : Agg} (h : l[k]? = some x) : lastSum (l.take (k + 1)) key w = lastF key w (lastSum (l.take k) key w) x := by
  rw [lastSum, take_snocA h, List.foldl_append]
  rfl
theorem last_yes {l : List Agg} {key w : Int} {k : Nat} {x : Agg} (h : l[k]? = some x) (h1 : x.key = key) (h2 : x.win = w) : lastSum (l.take (k + 1)) key w = x.sum := by rw [lastSum_succ h, lastF, if_pos ⟨h1, h2⟩]
theorem last_no {l : List Agg} {key w : Int} {k : Nat} {x : Agg} (h : l[k]? = some x) (h1 : ¬ (x.key = key ∧ x.win = w)) : lastSum (l.take (k + 1)) key w = lastSum (l.take k) key w := by rw [lastSum_succ h, lastF, if_neg h1]
theorem last_set {l : List Agg} {key : Int} {k : Nat} {x : Agg} (h : l[k]? = some x) (h1 : x.key = key) : setM (lastSum (l.take k) key) x.win x.sum = lastSum (l.take (k + 1)) key := by
  funext w
  unfold setM
  by_cases e : w = x.win
  · rw [if_pos e, last_yes h h1 e.symm]
  · rw [if_neg e, last_no h (fun h2 => e h2.2.symm)]
theorem last_keep {l : List Agg} {key : Int} {k : Nat} {x : Agg} (h : l[k]? = some x) (h1 : ¬ x.key = key) : lastSum (l.take k) key = lastSum (l.take (k + 1)) key := by
  funext w
  rw [last_no h (fun h2 => h1 h2.1)]
def peakB (l : List Agg) (key : Int) (a : Agg) : Bool := decide (a.key = key) && (decide (lastSum l key (a.win - 1) < a.sum) && decide (lastSum l key (a.win + 1) < a.sum))
def peaksTo (l : List Agg) (key : Int) (k : Nat) : List Int := ((l.take k).filter (peakB l key)).map (·.win)
theorem peaksTo_yes {l : List Agg} {key : Int} {k : Nat} {x : Agg} (h : l[k]? = some x) (hp : peakB l key x = true) : peaksTo l key (k + 1) = peaksTo l key k ++ [x.win] := by
  rw [peaksTo, take_snocA h, List.filter_append, List.map_append]
  simp [hp, peaksTo]
theorem peaksTo_no {l : List Agg} {key : Int} {k : Nat} {x : Agg} (h : l[k]? = some x) (hp : peakB l key x = false) : peaksTo l key (k + 1) = peaksTo l key k := by
  rw [peaksTo, take_snocA h, List.filter_append, List.map_append]
  simp [hp, peaksTo]
theorem peaksTo_len (l : List Agg) (key : Int) (k : Nat) : (peaksTo l key k).length ≤ k := by
  rw [peaksTo, List.length_map]
  exact Nat.le_trans (List.length_filter_le _ _) (List.length_take_le _ _)
def pkOk (l : List Agg) : Bool := l.all okAgg && sortedB aggLt l
def peaksL (l : List Agg) (key : Int) : List Int := if pkOk l then peaksTo l key l.length else []
theorem peaks_bad {l : List Agg} {key : Int} (h : pkOk l = false) : peaksL l key = [] := by rw [peaksL, h]; rfl
theorem peaks_ok {l : List Agg} {key : Int} (h : pkOk l = true) : peaksL l key = peaksTo l key l.length := by rw [peaksL, h]; rfl
theorem peaksL_len (l : List Agg) (key : Int) : (peaksL l key).length ≤ l.length := by
  unfold peaksL
  split
  · exact peaksTo_len l key _
  · exact Nat.zero_le _
theorem pk_no1 {l : List Agg} {k : Nat} {x : Agg} (hx : l[k]? = some x) (h : okAgg x = false) : pkOk l = false := by
  have : l.all okAgg = false := by
    rw [← Bool.not_eq_true]
    intro e
    rw [List.all_eq_true.1 e x (List.mem_of_getElem? hx)] at h
    cases h
  rw [pkOk, this]
  rfl
theorem pk_no2 {l : List Agg} {k : Nat} {x y : Agg} (hk : 0 < k) (hy : l[k - 1]? = some y) (hx : l[k]? = some x) (h : aggLt y x = false) : pkOk l = false := by
  rw [pkOk, sortedB_not hk hy hx h]
  simp
theorem pk_to {l : List Agg} (h1 : ∀ j x, j < l.length → l[j]? = some x → okAgg x = true) (h2 : ∀ i a b, i + 1 < l.length → l[i]? = some a → l[i + 1]? = some b → aggLt a b = true) : pkOk l = true := by
  rw [pkOk, sortedB_of h2, Bool.and_true, List.all_eq_true]
  intro s hs
  obtain ⟨j, hj⟩ := List.mem_iff_getElem?.1 hs
  exact h1 j s (List.getElem?_eq_some_iff.1 hj).1 hj
theorem okAgg_b {a : Agg} (h : okAgg a = true) : (0 ≤ a.win ∧ a.win ≤ 1000000) ∧ (-1000000000 ≤ a.sum ∧ a.sum ≤ 1000000000) := by
  unfold okAgg at h
  simp only [Bool.and_eq_true, inB_iff] at h
  exact ⟨h.1, h.2.2.2.1⟩
theorem peak_yes {l : List Agg} {key : Int} {x : Agg} (h1 : x.key = key) (h2 : lastSum l key (x.win - 1) < x.sum) (h3 : lastSum l key (x.win + 1) < x.sum) : peakB l key x = true := by rw [peakB, decide_eq_true h1, decide_eq_true h2, decide_eq_true h3]; rfl
theorem peak_no1 {l : List Agg} {key : Int} {x : Agg} (h1 : ¬ x.key = key) : peakB l key x = false := by rw [peakB, decide_eq_false h1]; rfl
theorem peak_no2 {l : List Agg} {key : Int} {x : Agg} (h2 : ¬ lastSum l key (x.win - 1) < x.sum) : peakB l key x = false := by rw [peakB, decide_eq_false h2]; simp
theorem peak_no3 {l : List Agg} {key : Int} {x : Agg} (h3 : ¬ lastSum l key (x.win + 1) < x.sum) : peakB l key x = false := by rw [peakB, decide_eq_false h3]; simp
end Go.Proofs.Ytkhphdmciohcgaa.C

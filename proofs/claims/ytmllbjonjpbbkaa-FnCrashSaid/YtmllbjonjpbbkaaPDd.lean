import Derived.Test.YtmllbjonjpbbkaaUp
import Derived.Test.YtmllbjonjpbbkaaPSd
namespace Go.Proofs.Ytmllbjonjpbbkaa.C
open Go.RowKit Go.Proofs.YtmllbjonjpbbkaaW Go.Proofs.YtmllbjonjpbbkaaW.PrintWords Go.Proofs.Ytmllbjonjpbbkaa.U
set_option maxHeartbeats 1000000
set_option maxRecDepth 100000
set_option linter.unusedVariables false
set_option linter.unusedSimpArgs false
def sameSh (s t : Shd) : Bool := decide (s.mark = t.mark) && (decide (s.late = t.late) && (decide (s.over = t.over) && decide (s.aggs = t.aggs)))
theorem sameSh_iff {s t : Shd} : sameSh s t = true ↔ s = t := by
  unfold sameSh
  simp only [Bool.and_eq_true, decide_eq_true_iff]
  constructor
  · intro h
    obtain ⟨a, b, c, d⟩ := s
    obtain ⟨a', b', c', d'⟩ := t
    simp_all
  · intro h
    subst h
    simp
theorem sameSh_refl (s : Shd) : sameSh s s = true := sameSh_iff.2 rfl
theorem insL_mem {α : Type} {lt : α → α → Bool} {c z : α} {L : List α} (h : z ∈ insL lt c L) : z = c ∨ z ∈ L := by
  have := (insL_perm lt c L).mem_iff.1 h
  simpa using this
theorem insL_strict {α : Type} {lt : α → α → Bool} (hw : Wo lt) {c : α} : ∀ {L : List α}, L.Pairwise (fun a b => lt a b = true) → hitG lt c L = false → (insL lt c L).Pairwise (fun a b => lt a b = true)
  | [], _, _ => by simp [insL]
  | y :: L, hp, hh => by
    rw [List.pairwise_cons] at hp
    cases hy : lt y c with
    | true =>
      have hpos : posG lt c (y :: L) = posG lt c L + 1 := by rw [posG, hy]; rfl
      have h2 : hitG lt c L = false := by unfold hitG at hh ⊢; rw [hpos] at hh; simpa using hh
      rw [insL, if_neg (by rw [hw.asym _ _ hy]; decide), List.pairwise_cons]
      refine ⟨fun z hz => ?_, insL_strict hw hp.2 h2⟩
      rcases insL_mem hz with rfl | hz
      · exact hy
      · exact hp.1 z hz
    | false =>
      have hpos : posG lt c (y :: L) = 0 := by rw [posG, hy]; rfl
      have h2 : lt c y = true := hitG_no hh (by rw [hpos]; rfl)
      rw [insL, if_pos h2, List.pairwise_cons, List.pairwise_cons]
      refine ⟨fun z hz => ?_, hp⟩
      rcases List.mem_cons.1 hz with rfl | hz
      · exact h2
      · exact hw.trans h2 (hp.1 z hz)
theorem strict_pw {l : List Agg} (h : Strict l) : l.Pairwise (fun a b => aggLt a b = true) := by
  rw [List.pairwise_iff_getElem]
  intro i j hi hj hij
  exact h i j _ _ hij (List.getElem?_eq_getElem hi) (List.getElem?_eq_getElem hj)
theorem pw_sorted {l : List Agg} (h : l.Pairwise (fun a b => aggLt a b = true)) : sortedB aggLt l = true := by
  rw [sortedB_iff]
  intro i x y hx hy
  rw [List.pairwise_iff_getElem] at h
  obtain ⟨h1, e1⟩ := List.getElem?_eq_some_iff.1 hx
  obtain ⟨h2, e2⟩ := List.getElem?_eq_some_iff.1 hy
  have := h i (i + 1) h1 h2 (Nat.lt_succ_self _)
  rw [e1, e2] at this
  exact this
theorem sorted_set {l : List Agg} {p : Nat} {x x' : Agg} (hx : l[p]? = some x) (h1 : ∀ z, aggLt x' z = aggLt x z) (h2 : ∀ z, aggLt z x' = aggLt z x) (hs : sortedB aggLt l = true) : sortedB aggLt (l.set p x') = true := by
  rw [sortedB_iff] at hs ⊢
  intro i a b ha hb
  rw [List.getElem?_set] at ha hb
  have hp := (List.getElem?_eq_some_iff.1 hx).1
  simp only [hp, if_true] at ha hb
  split at ha
  · rename_i e
    subst e
    cases ha
    rw [if_neg (by omega)] at hb
    rw [h1]
    exact hs p x b hx hb
  · split at hb
    · rename_i e
      cases hb
      rw [h2]
      exact hs i a x ha (by rw [← e]; exact hx)
    · exact hs i a b ha hb
theorem okAgg_iff {a : Agg} : okAgg a = true ↔ (0 ≤ a.win ∧ a.win ≤ 1000000) ∧ (0 ≤ a.key ∧ a.key ≤ 65535) ∧ (1 ≤ a.count ∧ a.count ≤ 1000000000) ∧ (-1000000000 ≤ a.sum ∧ a.sum ≤ 1000000000) ∧ (-1000000 ≤ a.min ∧ a.min ≤ 1000000) ∧ (-1000000 ≤ a.max ∧ a.max ≤ 1000000) ∧ a.min ≤ a.max := by
  unfold okAgg
  simp only [Bool.and_eq_true, inB_iff, decide_eq_true_iff]
theorem okAgg_merge {x a : Agg} (hx : okAgg x = true) (ha : okAgg a = true) : okAgg (mergeA x a) = true := by
  rw [okAgg_iff] at hx ha ⊢
  dsimp only [mergeA]
  unfold capS
  omega
theorem okAgg_one {f : Frame} {size : Int} (h : okEv f = true) (hs : 1 ≤ size ∧ size ≤ 1000000) : okAgg (oneOf f size) = true := by
  obtain ⟨_, h2, _, h4⟩ := okEv_bd h
  have h3 := time_bd h hs
  rw [okAgg_iff]
  dsimp only [oneOf]
  omega
theorem okS_iff {s : Shd} : okS s = true ↔ s.aggs.length ≤ 40 ∧ (-1 ≤ s.mark ∧ s.mark ≤ 1000000) ∧ (0 ≤ s.late ∧ s.late ≤ 1000000000) ∧ (0 ≤ s.over ∧ s.over ≤ 1000000000) ∧ (∀ a ∈ s.aggs, okAgg a = true) ∧ sortedB aggLt s.aggs = true := by
  unfold okS okShard
  simp only [Bool.and_eq_true, inB_iff, decide_eq_true_iff, List.all_eq_true]
theorem okS_raise {s : Shd} {k : Int} (h : okS s = true) : okS (raiseMk s k) = true := by
  rw [raiseMk]
  split
  · rename_i hr
    rw [rmOk, Bool.and_eq_true, Bool.and_eq_true, inB_iff] at hr
    obtain ⟨h1, _, h3⟩ := okS_iff.1 h
    exact okS_iff.2 ⟨h1, hr.2.1, h3⟩
  · exact h
theorem okS_add {s : Shd} {size room : Int} {f : Frame} (h : okS s = true) : okS (addEv s size room f).1 = true := by
  have h' := h
  obtain ⟨h1, h2, h3, h4, h5, h6⟩ := okS_iff.1 h
  have hst := (okS_bd h').2.2.2.2.2
  cases hok : evOk s size room f
  · rw [addEv_bad hok]
    exact h
  obtain ⟨_, g2, g3, g4⟩ := evOk_iff.1 hok
  have g2' := inB_iff.1 g2
  have g3' := inB_iff.1 g3
  have hone := okAgg_one g4 g2'
  by_cases hL : (f.time / size + 1) * size - 1 ≤ s.mark
  · rw [addEv_late hok hL]
    refine okS_iff.2 ⟨h1, h2, ?_, h4, h5, h6⟩
    show 0 ≤ capS (s.late + 1) ∧ capS (s.late + 1) ≤ 1000000000
    unfold capS
    omega
  cases hh : hitG aggLt (oneOf f size) s.aggs
  · by_cases hR : room ≤ (s.aggs.length : Int)
    · rw [addEv_over hok hL hh hR]
      refine okS_iff.2 ⟨h1, h2, h3, ?_, h5, h6⟩
      show 0 ≤ capS (s.over + 1) ∧ capS (s.over + 1) ≤ 1000000000
      unfold capS
      omega
    · rw [addEv_new hok hL hh hR]
      have e : putG (oneOf f size) s.aggs = insL aggLt (oneOf f size) s.aggs := by rw [putG, hh]; rfl
      refine okS_iff.2 ⟨?_, h2, h3, h4, ?_, ?_⟩
      · show (putG _ _).length ≤ 40
        rw [e, insL_len]
        omega
      · show ∀ a ∈ putG _ _, _
        rw [e]
        intro a ha
        rcases insL_mem ha with rfl | ha
        · exact hone
        · exact h5 a ha
      · show sortedB aggLt (putG _ _) = true
        rw [e]
        exact pw_sorted (insL_strict aggLt_wo (strict_pw hst) hh)
  · rw [addEv_hit hok hL hh]
    obtain ⟨x, hx, _⟩ := hitG_at hh
    have e : putG (oneOf f size) s.aggs = s.aggs.set (posG aggLt (oneOf f size) s.aggs) (mergeA x (oneOf f size)) := putG_hit hh hx
    refine okS_iff.2 ⟨?_, h2, h3, h4, ?_, ?_⟩
    · show (putG _ _).length ≤ 40
      rw [e, List.length_set]
      exact h1
    · show ∀ a ∈ putG _ _, _
      rw [e]
      intro a ha
      rcases List.mem_or_eq_of_mem_set ha with ha | rfl
      · exact h5 a ha
      · exact okAgg_merge (h5 x (List.mem_of_getElem? hx)) hone
    · show sortedB aggLt (putG _ _) = true
      rw [e]
      exact sorted_set hx (fun z => rfl) (fun z => rfl) h6
theorem okS_adds {size room : Int} : ∀ {l : List Frame} {s : Shd}, okS s = true → okS (addsTo size room s l) = true
  | [], s, h => h
  | f :: l, s, h => by
    show okS (addsTo size room (addOne size room s f) l) = true
    refine okS_adds ?_
    rw [addOne]
    split
    · exact okS_raise h
    · exact okS_add h
theorem lastIx_max {xs : List Save} {a : Int} : ∀ {n k : Nat} {x : Save}, k < n → xs[k]? = some x → x.at_ ≤ a → (k : Int) ≤ lastIx xs a n
  | n + 1, k, x, hk, hx, hle => by
    by_cases e : k = n
    · subst e
      rw [lastIx_hit hx hle]
      exact Int.le_refl _
    · have ih := lastIx_max (n := n) (by omega) hx hle
      rw [lastIx]
      split
      · split <;> omega
      · exact ih
theorem crash_law {size room : Int} {l : List Frame} {e a : Int} (h : crashOk size room l e a = true) : savesOk size room l e = true ∧ resumeOk (savesL size room l e) a = true ∧ addOk newS size room l 0 = true ∧ addAllL newS size room l 0 = crashL size room l e a ∧ okS (crashL size room l e a) = true ∧ 0 ≤ crashN size room l e a ∧ crashN size room l e a < e ∧ (resumeL (savesL size room l e) a).at_ = a - crashN size room l e a := by
  obtain ⟨c1, c2⟩ := crash_ok h
  obtain ⟨s1, s2, s3, s4⟩ := crash_spec h
  have h' := h
  rw [crashOk, Bool.and_eq_true, Bool.and_eq_true, decide_eq_true_iff] at h'
  obtain ⟨h1, h2, h3⟩ := h'
  obtain ⟨⟨g1, g2⟩, g3, g4, g5⟩ := savesOk_iff.1 h1
  obtain ⟨k, hk, hle, _, hlast⟩ := resume_spec h3
  obtain ⟨E, rfl, hE, hkE, hx⟩ := saves_at h1 hk
  have hat : (crashR size room l (E : Int) a).at_ = ((k * E : Nat) : Int) := by
    show (resumeL _ _).at_ = _
    rw [hx]
    rfl
  have hsh : shOf (crashR size room l (E : Int) a) = addsN size room l (k * E) := by
    show shOf (resumeL _ _) = _
    rw [hx]
    rfl
  have hfold : addsTo size room (addsN size room l (k * E)) (l.drop (k * E)) = addsTo size room newS l := by
    have : addsTo size room newS (l.take (k * E) ++ l.drop (k * E)) = addsTo size room (addsN size room l (k * E)) (l.drop (k * E)) := List.foldl_append
    rw [List.take_append_drop] at this
    exact this.symm
  have hnew := new_all g1 g2 g3
  have hcr : crashL size room l (E : Int) a = addsTo size room newS l := by
    rw [c1, hat, hsh, addAll_ok (by rw [← hat, ← hsh]; exact s1), hfold]
  have hlt : a < (((k + 1) * E : Nat) : Int) := by
    rcases Int.lt_or_le a (((k + 1) * E : Nat) : Int) with h5 | h5
    · exact h5
    · exfalso
      have h6 : (k + 1) * E ≤ l.length := by omega
      have h7 : k + 1 ≤ l.length / E := (div_tell hE).1 h6
      have h8 : (savesL size room l (E : Int))[k + 1]? = some (svOf ((k + 1) * E) (addsN size room l ((k + 1) * E))) := by
        rw [saves_ok h1]
        exact savesTo_at (by omega)
      have h9 := lastIx_max (a := a) (List.getElem?_eq_some_iff.1 h8).1 h8 h5
      omega
  rw [Nat.succ_mul] at hlt
  refine ⟨h1, h3, new_add g1 g2 g3, hnew.trans hcr.symm, ?_, ?_, ?_, ?_⟩
  · rw [hcr]
    exact okS_adds new_ok
  · rw [c2]
    omega
  · rw [c2, hat]
    omega
  · show (crashR size room l (E : Int) a).at_ = _
    rw [c2]
    omega
end Go.Proofs.Ytmllbjonjpbbkaa.C

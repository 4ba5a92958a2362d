import Derived.Test.YtplcjkgbjapbmaaUp
import Derived.Test.YtplcjkgbjapbmaaPMa
import Derived.Test.YtplcjkgbjapbmaaPPl
import Derived.Test.YtplcjkgbjapbmaaPSa
namespace Go.Proofs.Ytplcjkgbjapbmaa.C
open Go.RowKit Go.Proofs.YtplcjkgbjapbmaaW Go.Proofs.YtplcjkgbjapbmaaW.PrintWords Go.Proofs.Ytplcjkgbjapbmaa.U
set_option maxHeartbeats 1000000
set_option maxRecDepth 100000
set_option linter.unusedVariables false
set_option linter.unusedSimpArgs false
/-! Lists that are sorted by putting one after the other in its place. -/
section
variable {α : Type}
def insG (lt : α → α → Bool) (c : α) (a : List α × Bool) (y : α) : List α × Bool := if a.2 = false ∧ lt c y = true then (a.1 ++ [c, y], true) else (a.1 ++ [y], a.2)
def insL (lt : α → α → Bool) (c : α) : List α → List α
  | [] => [c]
  | y :: L => if lt c y = true then c :: y :: L else y :: insL lt c L
def insE (c : α) (a : List α × Bool) : List α := if a.2 then a.1 else a.1 ++ [c]
theorem insG_true {lt : α → α → Bool} {c : α} : ∀ {L a : List α}, L.foldl (insG lt c) (a, true) = (a ++ L, true)
  | [], a => by simp
  | y :: L, a => by
    rw [List.foldl_cons, show insG lt c (a, true) y = (a ++ [y], true) by unfold insG; rw [if_neg (by simp)], insG_true, List.append_assoc]
    rfl
theorem insG_false {lt : α → α → Bool} {c : α} : ∀ {L a : List α}, insE c (L.foldl (insG lt c) (a, false)) = a ++ insL lt c L
  | [], a => by simp [insE, insL]
  | y :: L, a => by
    rw [List.foldl_cons]
    by_cases h : lt c y = true
    · rw [show insG lt c (a, false) y = (a ++ [c, y], true) by unfold insG; rw [if_pos ⟨rfl, h⟩], insG_true, insL, if_pos h]
      simp [insE]
    · rw [show insG lt c (a, false) y = (a ++ [y], false) by unfold insG; rw [if_neg (fun e => h e.2)], insG_false, insL, if_neg h]
      simp
theorem insG_len (lt : α → α → Bool) (c : α) : ∀ (L : List α) (a : List α × Bool), (L.foldl (insG lt c) a).1.length + cond (L.foldl (insG lt c) a).2 0 1 ≤ a.1.length + cond a.2 0 1 + L.length
  | [], a => Nat.le_refl _
  | y :: L, a => by
    have h1 := insG_len lt c L (insG lt c a y)
    have h2 : (insG lt c a y).1.length + cond (insG lt c a y).2 0 1 ≤ a.1.length + cond a.2 0 1 + 1 := by
      unfold insG
      split
      · rename_i h
        simp [h.1]
      · simp only [List.length_append, List.length_cons, List.length_nil]
        omega
    simp only [List.foldl_cons, List.length_cons]
    omega
theorem insL_perm (lt : α → α → Bool) (c : α) : ∀ L : List α, (insL lt c L).Perm (c :: L)
  | [] => .refl _
  | y :: L => by
    rw [insL]
    split
    · exact .refl _
    · exact ((insL_perm lt c L).cons y).trans (List.Perm.swap _ _ _)
theorem insL_len (lt : α → α → Bool) (c : α) (L : List α) : (insL lt c L).length = L.length + 1 := (insL_perm lt c L).length_eq
/-- not less is a linear preorder -/
structure Wo (lt : α → α → Bool) : Prop where
  asym : ∀ x y, lt x y = true → lt y x = false
  ntrans : ∀ x y z, lt x y = false → lt y z = false → lt x z = false
theorem Wo.trans {lt : α → α → Bool} (h : Wo lt) {x y z : α} (h1 : lt x y = true) (h2 : lt y z = true) : lt x z = true := by
  cases h3 : lt x z with
  | true => rfl
  | false =>
    have := h.ntrans x z y h3 (h.asym _ _ h2)
    rw [h1] at this
    cases this
def Rise (lt : α → α → Bool) (L : List α) : Prop := L.Pairwise (fun a b => lt b a = false)
theorem insL_rise {lt : α → α → Bool} (h : Wo lt) (c : α) : ∀ {L : List α}, Rise lt L → Rise lt (insL lt c L)
  | [], _ => by simp [insL, Rise]
  | y :: L, hp => by
    rw [insL]
    have hp' := hp
    rw [Rise, List.pairwise_cons] at hp
    split
    · rename_i hy
      rw [Rise, List.pairwise_cons]
      refine ⟨fun z hz => ?_, hp'⟩
      rcases List.mem_cons.1 hz with rfl | hz
      · exact h.asym _ _ hy
      · exact h.ntrans _ _ _ (hp.1 z hz) (h.asym _ _ hy)
    · rename_i hy
      rw [Rise, List.pairwise_cons]
      refine ⟨fun z hz => ?_, insL_rise h c hp.2⟩
      rcases List.mem_cons.1 ((insL_perm lt c L).mem_iff.1 hz) with rfl | hz
      · simpa using hy
      · exact hp.1 z hz
def sortL (lt : α → α → Bool) (L : List α) : List α := L.foldl (fun a c => insL lt c a) []
theorem sortL_snoc {lt : α → α → Bool} {L : List α} {k : Nat} {c : α} (h : L[k]? = some c) : sortL lt (L.take (k + 1)) = insL lt c (sortL lt (L.take k)) := by
  have e : L.take (k + 1) = L.take k ++ [c] := by rw [List.take_add_one, h]; rfl
  rw [e, sortL, List.foldl_append]
  rfl
theorem sortL_spec {lt : α → α → Bool} (h : Wo lt) : ∀ (L a : List α), Rise lt a → Rise lt (L.foldl (fun a c => insL lt c a) a) ∧ (L.foldl (fun a c => insL lt c a) a).Perm (a ++ L)
  | [], a, ha => ⟨ha, by simp⟩
  | c :: L, a, ha => by
    rw [List.foldl_cons]
    have h1 := sortL_spec h L (insL lt c a) (insL_rise h c ha)
    refine ⟨h1.1, h1.2.trans ?_⟩
    refine ((insL_perm lt c a).append_right L).trans ?_
    exact List.perm_middle.symm
theorem sortL_rise {lt : α → α → Bool} (h : Wo lt) (L : List α) : Rise lt (sortL lt L) := (sortL_spec h L [] List.Pairwise.nil).1
theorem sortL_perm {lt : α → α → Bool} (h : Wo lt) (L : List α) : (sortL lt L).Perm L := by
  have := (sortL_spec h L [] List.Pairwise.nil).2
  rw [List.nil_append] at this
  exact this
theorem sortL_len {lt : α → α → Bool} (L : List α) : (sortL lt L).length = L.length := by
  have : ∀ (L a : List α), (L.foldl (fun a c => insL lt c a) a).length = a.length + L.length := fun L => by
    induction L with
    | nil => intro a; rfl
    | cons c L ih => intro a; rw [List.foldl_cons, ih, insL_len, List.length_cons]; omega
  simpa [sortL] using this L []
theorem rise_eq {lt : α → α → Bool} (hT : ∀ x y, lt x y = false → lt y x = false → x = y) : ∀ {a b : List α}, a.Perm b → Rise lt a → Rise lt b → a = b
  | [], b, h, _, _ => by simpa using h.symm.eq_nil.symm
  | x :: a, [], h, _, _ => by simpa using h.eq_nil
  | x :: a, y :: b, h, ha, hb => by
    have ha' := ha
    have hb' := hb
    rw [Rise, List.pairwise_cons] at ha hb
    by_cases e : x = y
    · subst e
      rw [rise_eq hT h.cons_inv ha.2 hb.2]
    · have h1 : lt x y = false := by
        rcases List.mem_cons.1 (h.mem_iff.1 List.mem_cons_self) with e' | hx
        · exact absurd e' e
        · exact hb.1 x hx
      have h2 : lt y x = false := by
        rcases List.mem_cons.1 (h.mem_iff.2 List.mem_cons_self) with e' | hy
        · exact absurd e'.symm e
        · exact ha.1 y hy
      exact absurd (hT x y h1 h2) e
theorem sortL_merge {lt : α → α → Bool} (h : Wo lt) (hT : ∀ x y, lt x y = false → lt y x = false → x = y) (L : List α) : (L.mergeSort fun x y => !lt y x) = sortL lt L := by
  refine rise_eq hT ((List.mergeSort_perm L _).trans (sortL_perm h L).symm) ?_ (sortL_rise h L)
  have := List.pairwise_mergeSort (le := fun x y : α => !lt y x) (fun a b c h1 h2 => by
    simp only [Bool.not_eq_true'] at *
    exact h.ntrans _ _ _ h2 h1) (fun a b => by
    cases h1 : lt b a
    · simp
    · simp [h.asym _ _ h1]) L
  unfold Rise
  refine List.Pairwise.imp (fun hh => ?_) this
  simpa using hh
end
/-! The order of pairs. -/
def cmpJ (a b : Int) : Int := if a < b then -1 else if b < a then 1 else 0
def orJ : List Int → Int
  | [] => 0
  | v :: l => if v = 0 then orJ l else v
theorem cmpJ_zero {a b : Int} : cmpJ a b = 0 ↔ a = b := by unfold cmpJ; split <;> (try split) <;> omega
theorem cmpJ_neg {a b : Int} : cmpJ a b < 0 ↔ a < b := by unfold cmpJ; split <;> (try split) <;> omega
/-- Lexicographic: the first that parts decides. -/
def lexLt : List Int → List Int → Bool
  | a :: l, b :: m => if a = b then lexLt l m else decide (a < b)
  | _, _ => false
def cmps : List Int → List Int → List Int
  | a :: l, b :: m => cmpJ a b :: cmps l m
  | _, _ => []
theorem orJ_cmps : ∀ l m : List Int, decide (orJ (cmps l m) < 0) = lexLt l m
  | [], _ => by simp [cmps, orJ, lexLt]
  | _ :: _, [] => by simp [cmps, orJ, lexLt]
  | a :: l, b :: m => by
    rw [cmps, orJ, lexLt]
    by_cases h : a = b
    · rw [if_pos (cmpJ_zero.2 h), if_pos h, orJ_cmps l m]
    · rw [if_neg (fun e => h (cmpJ_zero.1 e)), if_neg h]
      simp [cmpJ_neg]
theorem lexLt_asym : ∀ l m : List Int, lexLt l m = true → lexLt m l = false
  | [], _, h => by simp [lexLt] at h
  | _ :: _, [], h => by simp [lexLt] at h
  | a :: l, b :: m, h => by
    rw [lexLt] at h ⊢
    by_cases e : a = b
    · rw [if_pos e] at h
      rw [if_pos e.symm]
      exact lexLt_asym l m h
    · rw [if_neg e] at h
      rw [if_neg (fun h => e h.symm)]
      simp at h ⊢
      omega
theorem lexLt_ntrans : ∀ l m n : List Int, l.length = m.length → m.length = n.length → lexLt l m = false → lexLt m n = false → lexLt l n = false
  | [], _, _, _, _, _, _ => by simp [lexLt]
  | a :: l, b :: m, c :: n, h1, h2, h, k => by
    simp only [List.length_cons, Nat.add_right_cancel_iff] at h1 h2
    rw [lexLt] at h k ⊢
    by_cases e : a = b
    · subst e
      rw [if_pos rfl] at h
      by_cases e2 : a = c
      · subst e2
        rw [if_pos rfl] at k ⊢
        exact lexLt_ntrans l m n h1 h2 h k
      · rw [if_neg e2] at k ⊢
        exact k
    · rw [if_neg e] at h
      simp at h
      by_cases e2 : b = c
      · subst e2
        rw [if_neg e]
        simp
        omega
      · rw [if_neg e2] at k
        simp at k
        rw [if_neg (by omega)]
        simp
        omega
  | _ :: _, [], _, h, _, _, _ => by simp at h
  | _ :: _, _ :: _, [], _, h, _, _ => by simp at h
theorem lexLt_total : ∀ l m : List Int, l.length = m.length → lexLt l m = false → lexLt m l = false → l = m
  | [], [], _, _, _ => rfl
  | a :: l, b :: m, hl, h, k => by
    simp only [List.length_cons, Nat.add_right_cancel_iff] at hl
    rw [lexLt] at h k
    by_cases e : a = b
    · subst e
      rw [if_pos rfl] at h k
      rw [lexLt_total l m hl h k]
    · rw [if_neg e] at h
      rw [if_neg (fun x => e x.symm)] at k
      simp at h k
      omega
  | [], _ :: _, h, _, _ => by simp at h
  | _ :: _, [], h, _, _ => by simp at h
def Pair.key5 (p : Pair) : List Int := [p.key, p.lt, p.rt, p.left, p.right]
def pairC (a b : Pair) : Int := orJ (cmps a.key5 b.key5)
def pairLt (a b : Pair) : Bool := lexLt a.key5 b.key5
theorem pairC_lt (a b : Pair) : decide (pairC a b < 0) = pairLt a b := orJ_cmps _ _
theorem pairLt_wo : Wo pairLt := ⟨fun x y h => lexLt_asym _ _ h, fun x y z h k => lexLt_ntrans x.key5 y.key5 z.key5 rfl rfl h k⟩
theorem pairLt_total (x y : Pair) (h : pairLt x y = false) (k : pairLt y x = false) : x = y := by
  have := lexLt_total x.key5 y.key5 rfl h k
  simp only [Pair.key5, List.cons.injEq] at this
  exact Pair.ext' ⟨this.1, this.2.1, this.2.2.1, this.2.2.2.1, this.2.2.2.2.1⟩
theorem sortP_merge (L : List Pair) : (L.mergeSort fun x y => !pairLt y x) = sortL pairLt L := sortL_merge pairLt_wo pairLt_total L
def samePairs (a b : List Pair) : Bool := decide (a.length ≤ 1600) && (decide (b.length ≤ 1600) && decide (sortL pairLt a = sortL pairLt b))
def aggC (x y : Agg) : Int := orJ (cmps [x.win, x.key] [y.win, y.key])
theorem aggC_lt (x y : Agg) : decide (aggC x y < 0) = aggLt x y := by
  unfold aggC
  rw [orJ_cmps, aggLt, Bool.eq_iff_iff, decide_eq_true_iff]
  simp only [lexLt]
  by_cases h1 : x.win = y.win
  · rw [if_pos h1]
    by_cases h2 : x.key = y.key
    · rw [if_pos h2]; simp; omega
    · rw [if_neg h2, decide_eq_true_iff]; omega
  · rw [if_neg h1, decide_eq_true_iff]; omega
theorem aggC_ge (x y : Agg) : decide (0 ≤ aggC x y) = !aggLt x y := by
  rw [← aggC_lt]
  by_cases h : aggC x y < 0
  · rw [decide_eq_true h, decide_eq_false (by omega)]; rfl
  · rw [decide_eq_false h, decide_eq_true (by omega)]; rfl
theorem aggC_eq (x y : Agg) : aggC x y = 0 ↔ x.win = y.win ∧ x.key = y.key := by
  unfold aggC cmps cmps cmps orJ orJ orJ
  by_cases h1 : x.win = y.win
  · rw [if_pos (cmpJ_zero.2 h1)]
    by_cases h2 : x.key = y.key
    · rw [if_pos (cmpJ_zero.2 h2)]; simp [h1, h2]
    · rw [if_neg (fun e => h2 (cmpJ_zero.1 e))]
      exact ⟨fun e => absurd (cmpJ_zero.1 e) h2, fun e => absurd e.2 h2⟩
  · rw [if_neg (fun e => h1 (cmpJ_zero.1 e))]
    exact ⟨fun e => absurd (cmpJ_zero.1 e) h1, fun e => absurd e.1 h1⟩
theorem sorted_snoc {l : List Agg} {k : Nat} {x y : Agg} (h : ∀ i a b, i + 1 < k → l[i]? = some a → l[i + 1]? = some b → aggLt a b = true) (hy : l[k - 1]? = some y) (hx : l[k]? = some x) (hk : 0 < k) (hlt : aggLt y x = true) : ∀ i a b, i + 1 < k + 1 → l[i]? = some a → l[i + 1]? = some b → aggLt a b = true := fun i a b hi ha hb => by
  rcases Nat.lt_or_ge (i + 1) k with h1 | h1
  · exact h i a b h1 ha hb
  · obtain rfl : k = i + 1 := by omega
    rw [Nat.add_sub_cancel] at hy
    rw [ha] at hy
    rw [hb] at hx
    cases hy
    cases hx
    exact hlt
theorem sortedB_of {l : List Agg} (h : ∀ i a b, i + 1 < l.length → l[i]? = some a → l[i + 1]? = some b → aggLt a b = true) : sortedB aggLt l = true := (sortedB_iff _ _).2 (fun i a b ha hb => h i a b (List.getElem?_eq_some_iff.1 hb).1 ha hb)
theorem sortedB_not {l : List Agg} {k : Nat} {x y : Agg} (hk : 0 < k) (hy : l[k - 1]? = some y) (hx : l[k]? = some x) (h : aggLt y x = false) : sortedB aggLt l = false := by
  rw [← Bool.not_eq_true, sortedB_iff]
  intro h2
  have := h2 (k - 1) y x hy (by rw [show k - 1 + 1 = k by omega]; exact hx)
  rw [h] at this
  cases this
def okSave (x : Save) : Bool := inB x.at_ 0 300 && okShard x.aggs x.mark x.late x.over
def lastIx (xs : List Save) (a : Int) : Nat → Int
  | 0 => -1
  | k + 1 => match xs[k]? with | some x => if x.at_ ≤ a then (k : Int) else lastIx xs a k | none => lastIx xs a k
theorem lastIx_hit {xs : List Save} {a : Int} {k : Nat} {x : Save} (hx : xs[k]? = some x) (h : x.at_ ≤ a) : lastIx xs a (k + 1) = (k : Int) := by rw [lastIx, hx]; exact if_pos h
theorem lastIx_miss {xs : List Save} {a : Int} {k : Nat} {x : Save} (hx : xs[k]? = some x) (h : ¬ x.at_ ≤ a) : lastIx xs a (k + 1) = lastIx xs a k := by rw [lastIx, hx]; exact if_neg h
theorem lastIx_lt (xs : List Save) (a : Int) : ∀ k, -1 ≤ lastIx xs a k ∧ lastIx xs a k < (k : Int)
  | 0 => ⟨Int.le_refl _, by simp [lastIx]⟩
  | k + 1 => by
    have := lastIx_lt xs a k
    rw [lastIx]
    split
    · split <;> omega
    · omega
def zSave : Save := ⟨0, [], 0, 0, 0⟩
def resumeOk (xs : List Save) (a : Int) : Bool := decide (xs.length ≤ 20) && xs.all okSave && decide (0 ≤ lastIx xs a xs.length)
def resumeL (xs : List Save) (a : Int) : Save := if resumeOk xs a then (xs[(lastIx xs a xs.length).toNat]?).getD zSave else zSave
theorem resume_bad {xs : List Save} {a : Int} (h : resumeOk xs a = false) : resumeL xs a = zSave := by rw [resumeL, h]; rfl
theorem resume_hit {xs : List Save} {a : Int} {k : Nat} {x : Save} (h1 : xs.length ≤ 20) (h2 : xs.all okSave = true) (h3 : lastIx xs a xs.length = (k : Int)) (hx : xs[k]? = some x) : resumeOk xs a = true ∧ resumeL xs a = x := by
  have h : resumeOk xs a = true := by rw [resumeOk, decide_eq_true h1, h2, h3]; simp
  refine ⟨h, ?_⟩
  rw [resumeL, h, h3, Int.toNat_natCast, hx]
  rfl
theorem resume_many {xs : List Save} {a : Int} (h : ¬ xs.length ≤ 20) : resumeOk xs a = false := by rw [resumeOk, decide_eq_false h]; rfl
theorem resume_wrong {xs : List Save} {a : Int} (h : xs.all okSave = false) : resumeOk xs a = false := by rw [resumeOk, h]; simp
theorem resume_none {xs : List Save} {a : Int} (h : lastIx xs a xs.length < 0) : resumeOk xs a = false := by rw [resumeOk, decide_eq_false (p := 0 ≤ lastIx xs a xs.length) (by omega)]; simp
theorem all_bad {xs : List Save} {k : Nat} {x : Save} (hx : xs[k]? = some x) (h : okSave x = false) : xs.all okSave = false := by
  rw [← Bool.not_eq_true]
  intro e
  rw [List.all_eq_true.1 e x (List.mem_of_getElem? hx)] at h
  cases h
theorem all_to {xs : List Save} (h : noneTo (fun x => !okSave x) xs xs.length) : xs.all okSave = true := List.all_eq_true.2 (fun x hx => by
  obtain ⟨k, hk⟩ := List.mem_iff_getElem?.1 hx
  have := h k (List.getElem?_eq_some_iff.1 hk).1 x hk
  simpa using this)
theorem resume_len (xs : List Save) (a : Int) : (resumeL xs a).aggs.length ≤ aggSum xs := by
  rw [resumeL]
  split
  · cases h : xs[(lastIx xs a xs.length).toNat]? with
    | none => exact Nat.zero_le _
    | some x => exact aggSum_mem (List.mem_of_getElem? h)
  · exact Nat.zero_le _
end Go.Proofs.Ytplcjkgbjapbmaa.C

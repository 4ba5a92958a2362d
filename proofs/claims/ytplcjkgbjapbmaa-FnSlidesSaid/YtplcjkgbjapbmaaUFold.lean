import Derived.Test.YtplcjkgbjapbmaaUp
import Derived.Test.YtplcjkgbjapbmaaPSd
import Derived.Test.YtplcjkgbjapbmaaUAxp2
namespace Go.Proofs.Ytplcjkgbjapbmaa.C
open Go.RowKit Go.Proofs.YtplcjkgbjapbmaaW Go.Proofs.YtplcjkgbjapbmaaW.PrintWords Go.Proofs.Ytplcjkgbjapbmaa.U
set_option maxHeartbeats 1000000
set_option maxRecDepth 100000
set_option linter.unusedVariables false
set_option linter.unusedSimpArgs false
/-! Aggs of one window and key merged, by places and sorted at the end, or put in one by one. -/
def atA (x : Agg) (L : List Agg) : Bool := L.any (fun y => sameA y x)
def mgA (x y : Agg) : Agg := if sameA y x then mergeA y x else y
def putK (x : Agg) (L : List Agg) : List Agg := if atA x L then L.map (mgA x) else insL aggLt x L
def dedA (x : Agg) (D : List Agg) : List Agg := if atA x D then D.map (mgA x) else D ++ [x]
def foldK (l : List Agg) : List Agg := l.foldl (fun a x => putK x a) []
def dedL (l : List Agg) : List Agg := l.foldl (fun a x => dedA x a) []
theorem sameA_iff2 {x a : Agg} : sameA x a = true ↔ x.win = a.win ∧ x.key = a.key := by
  unfold sameA
  rw [Bool.and_eq_true, decide_eq_true_iff, decide_eq_true_iff]
theorem mgA_win (x y : Agg) : (mgA x y).win = y.win := by unfold mgA; split <;> rfl
theorem mgA_key (x y : Agg) : (mgA x y).key = y.key := by unfold mgA; split <;> rfl
theorem aggLt_mg (x y z : Agg) : aggLt (mgA x y) (mgA x z) = aggLt y z := by
  unfold aggLt
  rw [mgA_win, mgA_key, mgA_win, mgA_key]
theorem sameA_mg (x y z : Agg) : sameA (mgA x y) (mgA x z) = sameA y z := by
  unfold sameA
  rw [mgA_win, mgA_key, mgA_win, mgA_key]
theorem insL_mg (x c : Agg) : ∀ L : List Agg, insL aggLt (mgA x c) (L.map (mgA x)) = (insL aggLt c L).map (mgA x)
  | [] => rfl
  | y :: L => by
    rw [List.map_cons, insL, insL, aggLt_mg, insL_mg x c L]
    split <;> rfl
theorem sort_mg' (x : Agg) : ∀ (D a : List Agg), (D.map (mgA x)).foldl (fun a c => insL aggLt c a) (a.map (mgA x)) = (D.foldl (fun a c => insL aggLt c a) a).map (mgA x)
  | [], a => rfl
  | y :: D, a => by
    rw [List.map_cons, List.foldl_cons, List.foldl_cons, insL_mg, sort_mg' x D]
theorem sort_mg (x : Agg) (D : List Agg) : sortL aggLt (D.map (mgA x)) = (sortL aggLt D).map (mgA x) := sort_mg' x D []
theorem atA_sort (x : Agg) (D : List Agg) : atA x (sortL aggLt D) = atA x D := by
  have hp := sortL_perm aggLt_wo D
  unfold atA
  rw [Bool.eq_iff_iff, List.any_eq_true, List.any_eq_true]
  exact ⟨fun ⟨y, hy, h⟩ => ⟨y, hp.mem_iff.1 hy, h⟩, fun ⟨y, hy, h⟩ => ⟨y, hp.mem_iff.2 hy, h⟩⟩
theorem sort_dedA (x : Agg) (D : List Agg) : sortL aggLt (dedA x D) = putK x (sortL aggLt D) := by
  unfold putK dedA
  rw [atA_sort]
  split
  · exact sort_mg x D
  · rw [sortL, List.foldl_append]; rfl
theorem sort_ded' : ∀ (l D : List Agg), sortL aggLt (l.foldl (fun a x => dedA x a) D) = l.foldl (fun a x => putK x a) (sortL aggLt D)
  | [], D => rfl
  | x :: l, D => by rw [List.foldl_cons, List.foldl_cons, sort_ded' l, sort_dedA]
theorem sort_ded (l : List Agg) : sortL aggLt (dedL l) = foldK l := sort_ded' l []
def Dist (D : List Agg) : Prop := D.Pairwise (fun a b => sameA a b = false)
theorem dist_dedA {x : Agg} {D : List Agg} (h : Dist D) : Dist (dedA x D) := by
  unfold dedA
  split
  · unfold Dist
    rw [List.pairwise_map]
    exact h.imp (fun {a b} hab => by rw [sameA_mg]; exact hab)
  · rename_i hn
    unfold Dist
    rw [List.pairwise_append]
    refine ⟨h, List.pairwise_singleton _ _, fun a ha b hb => ?_⟩
    obtain rfl := List.mem_singleton.1 hb
    cases hs : sameA a b with
    | false => rfl
    | true => exact absurd (List.any_eq_true.2 ⟨a, ha, hs⟩) hn
theorem dist_ded' : ∀ (l D : List Agg), Dist D → Dist (l.foldl (fun a x => dedA x a) D)
  | [], D, h => h
  | x :: l, D, h => dist_ded' l _ (dist_dedA h)
theorem dist_ded (l : List Agg) : Dist (dedL l) := dist_ded' l [] List.Pairwise.nil
theorem sameA_symm {a b : Agg} (h : sameA a b = false) : sameA b a = false := by
  cases hs : sameA b a with
  | false => rfl
  | true =>
    have := sameA_iff2.1 hs
    rw [sameA_iff2.2 ⟨this.1.symm, this.2.symm⟩] at h
    cases h
theorem dist_sort {D : List Agg} (h : Dist D) : Dist (sortL aggLt D) := (sortL_perm aggLt_wo D).symm.pairwise h (fun {a b} hab => sameA_symm hab)
theorem strict_sort {D : List Agg} (h : Dist D) : (sortL aggLt D).Pairwise (fun a b => aggLt a b = true) :=
  List.Pairwise.imp₂ (fun a b h1 h2 => by
    cases h3 : aggLt a b with
    | true => rfl
    | false => rw [sameA_iff.2 ⟨h3, h1⟩] at h2; cases h2) (sortL_rise aggLt_wo D) (dist_sort h)
theorem strict_foldK (l : List Agg) : (foldK l).Pairwise (fun a b => aggLt a b = true) := by rw [← sort_ded]; exact strict_sort (dist_ded l)
/-- the places -/
def plA (D : List Agg) (w k : Int) : Option Int := (D.findIdx? (fun y => decide (y.win = w) && decide (y.key = k))).map Int.ofNat
theorem plA_none {D : List Agg} {x : Agg} (h : plA D x.win x.key = none) : atA x D = false := by
  unfold plA at h
  rw [Option.map_eq_none_iff, List.findIdx?_eq_none_iff] at h
  rw [atA, ← Bool.not_eq_true, List.any_eq_true]
  rintro ⟨y, hy, hs⟩
  have := h y hy
  rw [show (decide (y.win = x.win) && decide (y.key = x.key)) = sameA y x from rfl, hs] at this
  cases this
theorem plA_some {D : List Agg} {x : Agg} {c : Int} (h : plA D x.win x.key = some c) : ∃ (p : Nat) (y : Agg), c = (p : Int) ∧ D[p]? = some y ∧ sameA y x = true := by
  unfold plA at h
  rw [Option.map_eq_some_iff] at h
  obtain ⟨p, hp, rfl⟩ := h
  rw [List.findIdx?_eq_some_iff_getElem] at hp
  obtain ⟨hlt, hy, _⟩ := hp
  exact ⟨p, D[p], rfl, List.getElem?_eq_getElem hlt, hy⟩
theorem plA_map (x : Agg) (D : List Agg) : plA (D.map (mgA x)) = plA D := by
  funext w k
  unfold plA
  rw [List.findIdx?_map]
  have e : ((fun y : Agg => decide (y.win = w) && decide (y.key = k)) ∘ mgA x) = fun y => decide (y.win = w) && decide (y.key = k) := by
    funext y
    show (decide ((mgA x y).win = w) && decide ((mgA x y).key = k)) = _
    rw [mgA_win, mgA_key]
  rw [e]
theorem dist_at {D : List Agg} (h : Dist D) {i j : Nat} {y z : Agg} (hy : D[i]? = some y) (hz : D[j]? = some z) (hs : sameA y z = true) : i = j := by
  obtain ⟨h1, rfl⟩ := List.getElem?_eq_some_iff.1 hy
  obtain ⟨h2, rfl⟩ := List.getElem?_eq_some_iff.1 hz
  have hp := List.pairwise_iff_getElem.1 h
  rcases Nat.lt_trichotomy i j with e | e | e
  · have := hp i j h1 h2 e
    rw [hs] at this; cases this
  · exact e
  · have := sameA_symm (hp j i h2 h1 e)
    rw [hs] at this; cases this
theorem ded_set {D : List Agg} (h : Dist D) {p : Nat} {x y : Agg} (hy : D[p]? = some y) (hs : sameA y x = true) : D.set p (mergeA y x) = dedA x D := by
  have ha : atA x D = true := List.any_eq_true.2 ⟨y, List.mem_of_getElem? hy, hs⟩
  rw [dedA, if_pos ha]
  apply List.ext_getElem?
  intro i
  rw [List.getElem?_set, List.getElem?_map]
  have hlt := (List.getElem?_eq_some_iff.1 hy).1
  by_cases e : p = i
  · subst e
    rw [if_pos rfl, if_pos hlt, hy, Option.map_some, mgA, if_pos hs]
  · rw [if_neg e]
    cases hz : D[i]? with
    | none => rfl
    | some z =>
      have : sameA z x = false := by
        cases h3 : sameA z x with
        | false => rfl
        | true =>
          have e1 := sameA_iff2.1 hs
          have e2 := sameA_iff2.1 h3
          exact absurd (dist_at h hy hz (sameA_iff2.2 ⟨e1.1.trans e2.1.symm, e1.2.trans e2.2.symm⟩)) e
      rw [Option.map_some, mgA, this]
      rfl
theorem plA_keep {D : List Agg} {x y : Agg} {p : Nat} (hy : D[p]? = some y) (hs : sameA y x = true) : plA (dedA x D) = plA D := by
  have ha : atA x D = true := List.any_eq_true.2 ⟨y, List.mem_of_getElem? hy, hs⟩
  rw [dedA, if_pos ha, plA_map]
theorem ded_new {D : List Agg} {x : Agg} (h : plA D x.win x.key = none) : D ++ [x] = dedA x D := by rw [dedA, plA_none h]; rfl
theorem findIdx?_app {α : Type} (p : α → Bool) (x : α) : ∀ D : List α, (D ++ [x]).findIdx? p = (D.findIdx? p).or (if p x then some D.length else none)
  | [] => by simp [List.findIdx?_cons]
  | y :: D => by
    rw [List.cons_append, List.findIdx?_cons, List.findIdx?_cons, findIdx?_app p x D]
    cases p y
    · cases D.findIdx? p <;> cases p x <;> simp
    · simp
theorem plA_new {D : List Agg} {x : Agg} (h : plA D x.win x.key = none) : setM2 (plA D) x.win x.key (D.length : Int) = plA (dedA x D) := by
  rw [← ded_new h]
  funext w k
  unfold setM2
  unfold plA at h ⊢
  rw [findIdx?_app]
  by_cases e : w = x.win ∧ k = x.key
  · obtain ⟨rfl, rfl⟩ := e
    rw [Option.map_eq_none_iff] at h
    rw [if_pos ⟨rfl, rfl⟩, h]
    simp
  · rw [if_neg e]
    have : (decide (x.win = w) && decide (x.key = k)) = false := by
      rw [← Bool.not_eq_true, Bool.and_eq_true, decide_eq_true_iff, decide_eq_true_iff]
      exact fun h3 => e ⟨h3.1.symm, h3.2.symm⟩
    rw [this]
    cases D.findIdx? (fun y => decide (y.win = w) && decide (y.key = k)) <;> rfl
/-- one by one -/
def step8 (x : Agg) (a : List Agg × Bool) (y : Agg) : List Agg × Bool := if a.2 then (a.1 ++ [y], true) else if sameA y x then (a.1 ++ [mergeA y x], true) else if aggLt x y then (a.1 ++ [x, y], true) else (a.1 ++ [y], false)
def put8 (x : Agg) : List Agg → List Agg
  | [] => [x]
  | y :: L => if sameA y x then mergeA y x :: L else if aggLt x y then x :: y :: L else y :: put8 x L
theorem step8_true (x : Agg) : ∀ (L a : List Agg), L.foldl (step8 x) (a, true) = (a ++ L, true)
  | [], a => by simp
  | y :: L, a => by
    rw [List.foldl_cons, show step8 x (a, true) y = (a ++ [y], true) from rfl, step8_true x L, List.append_assoc]
    rfl
theorem step8_false (x : Agg) : ∀ (L a : List Agg), insE x (L.foldl (step8 x) (a, false)) = a ++ put8 x L
  | [], a => by simp [insE, put8]
  | y :: L, a => by
    rw [List.foldl_cons, put8]
    by_cases h1 : sameA y x = true
    · rw [show step8 x (a, false) y = (a ++ [mergeA y x], true) by simp [step8, h1], step8_true, if_pos h1]
      simp [insE]
    rw [if_neg h1]
    by_cases h2 : aggLt x y = true
    · rw [show step8 x (a, false) y = (a ++ [x, y], true) by simp [step8, h1, h2], step8_true, if_pos h2]
      simp [insE]
    · rw [show step8 x (a, false) y = (a ++ [y], false) by simp [step8, h1, h2], step8_false x L, if_neg h2]
      simp
theorem step8_len (x : Agg) (L : List Agg) : ∀ (a : List Agg × Bool), (L.foldl (step8 x) a).1.length + cond (L.foldl (step8 x) a).2 0 1 ≤ a.1.length + cond a.2 0 1 + L.length := by
  induction L with
  | nil => intro a; exact Nat.le_refl _
  | cons y L ih =>
    intro a
    have h1 := ih (step8 x a y)
    have h2 : (step8 x a y).1.length + cond (step8 x a y).2 0 1 ≤ a.1.length + cond a.2 0 1 + 1 := by
      obtain ⟨l, b⟩ := a
      unfold step8
      cases b
      · cases sameA y x
        · cases aggLt x y <;> simp
        · simp
      · simp
    simp only [List.foldl_cons, List.length_cons]
    omega
theorem put8_eq (x : Agg) : ∀ {L : List Agg}, L.Pairwise (fun a b => aggLt a b = true) → put8 x L = putK x L
  | [], _ => rfl
  | y :: L, h => by
    have hh := h
    rw [List.pairwise_cons] at h
    have hno : ∀ {c : Agg}, (∀ z ∈ L, aggLt c z = true) → sameA c x = true → L.map (mgA x) = L := fun {c} hc hs => by
      conv => rhs; rw [← List.map_id L]
      apply List.map_congr_left
      intro z hz
      have e1 := sameA_iff.1 hs
      have : sameA z x = false := by
        cases h3 : sameA z x with
        | false => rfl
        | true =>
          have e2 := sameA_iff2.1 h3
          have e4 := sameA_iff2.1 hs
          have := (sameA_iff.1 (sameA_iff2.2 ⟨e4.1.trans e2.1.symm, e4.2.trans e2.2.symm⟩ : sameA c z = true)).1
          rw [hc z hz] at this
          cases this
      rw [mgA, this]
      rfl
    rw [put8, putK]
    by_cases h1 : sameA y x = true
    · rw [if_pos h1, if_pos (show atA x (y :: L) = true from List.any_eq_true.2 ⟨y, List.mem_cons_self, h1⟩), List.map_cons, mgA, if_pos h1, hno h.1 h1]
    have ha : atA x (y :: L) = atA x L := by
      rw [atA, List.any_cons, Bool.not_eq_true _ |>.mp h1, Bool.false_or]
      rfl
    rw [if_neg h1, ha, insL]
    by_cases h2 : aggLt x y = true
    · rw [if_pos h2]
      have : atA x L = false := by
        rw [atA, ← Bool.not_eq_true, List.any_eq_true]
        rintro ⟨z, hz, hs⟩
        have e1 := aggLt_wo.trans h2 (h.1 z hz)
        have := (sameA_iff.1 hs).2
        rw [e1] at this
        cases this
      rw [this, if_neg (by decide), if_pos h2]
    · rw [if_neg h2, if_neg h2, put8_eq x h.2, putK]
      split
      · rw [List.map_cons, mgA, if_neg h1]
      · rfl
theorem foldK_snoc (L : List Agg) (x : Agg) : foldK (L ++ [x]) = put8 x (foldK L) := by
  rw [put8_eq x (strict_foldK L), foldK, List.foldl_append]
  rfl
theorem dedL_snoc (L : List Agg) (x : Agg) : dedL (L ++ [x]) = dedA x (dedL L) := by
  rw [dedL, List.foldl_append]
  rfl
theorem mergeA_bd {a b : Agg} (ha : AggBd a) (hb : AggBd b) : AggBd (mergeA a b) := by
  unfold AggBd at ha hb
  refine ⟨?_, ?_⟩
  · show 0 ≤ capS (a.count + b.count) ∧ capS (a.count + b.count) ≤ 1000000000
    unfold capS
    omega
  · show -1000000000 ≤ capS (a.sum + b.sum) ∧ capS (a.sum + b.sum) ≤ 1000000000
    unfold capS
    omega
theorem dedA_bd {x : Agg} {D : List Agg} (hx : AggBd x) (h : ∀ y ∈ D, AggBd y) : ∀ y ∈ dedA x D, AggBd y := fun y hy => by
  unfold dedA at hy
  split at hy
  · obtain ⟨z, hz, rfl⟩ := List.mem_map.1 hy
    unfold mgA
    split
    · exact mergeA_bd (h z hz) hx
    · exact h z hz
  · rcases List.mem_append.1 hy with h1 | h1
    · exact h y h1
    · rw [List.mem_singleton.1 h1]; exact hx
theorem dedA_len (x : Agg) (D : List Agg) : (dedA x D).length ≤ D.length + 1 := by
  unfold dedA
  split
  · rw [List.length_map]; exact Nat.le_succ _
  · rw [List.length_append]; exact Nat.le_refl _
theorem ded_bd' : ∀ (l D : List Agg), (∀ x ∈ l, AggBd x) → (∀ y ∈ D, AggBd y) → (∀ y ∈ l.foldl (fun a x => dedA x a) D, AggBd y) ∧ (l.foldl (fun a x => dedA x a) D).length ≤ D.length + l.length
  | [], D, _, h => ⟨h, Nat.le_refl _⟩
  | x :: l, D, hl, h => by
    have := ded_bd' l (dedA x D) (fun y hy => hl y (List.mem_cons_of_mem _ hy)) (dedA_bd (hl x List.mem_cons_self) h)
    have h2 := dedA_len x D
    rw [List.foldl_cons, List.length_cons]
    exact ⟨this.1, by omega⟩
theorem ded_bd {l : List Agg} (h : ∀ x ∈ l, AggBd x) : ∀ y ∈ dedL l, AggBd y := (ded_bd' l [] h (fun y hy => by cases hy)).1
theorem ded_len' : ∀ (l D : List Agg), (l.foldl (fun a x => dedA x a) D).length ≤ D.length + l.length
  | [], D => Nat.le_refl _
  | x :: l, D => by
    have h1 := ded_len' l (dedA x D)
    have h2 := dedA_len x D
    rw [List.foldl_cons, List.length_cons]
    omega
theorem ded_len (l : List Agg) : (dedL l).length ≤ l.length := by have := ded_len' l []; rw [List.length_nil, Nat.zero_add] at this; exact this
theorem foldK_len (l : List Agg) : (foldK l).length ≤ l.length := by rw [← sort_ded, sortL_len]; exact ded_len l
theorem foldK_bd {l : List Agg} (h : ∀ x ∈ l, AggBd x) : ∀ y ∈ foldK l, AggBd y := fun y hy => by
  rw [← sort_ded] at hy
  exact ded_bd h y ((sortL_perm aggLt_wo _).mem_iff.1 hy)
end Go.Proofs.Ytplcjkgbjapbmaa.C

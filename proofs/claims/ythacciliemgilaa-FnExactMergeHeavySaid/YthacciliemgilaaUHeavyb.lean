import Derived.Test.YthacciliemgilaaUp
import Derived.Test.YthacciliemgilaaUHeavy
import Derived.Test.YthacciliemgilaaPPl
namespace Go.Proofs.Ythacciliemgilaa.C
open Go.RowKit Go.Proofs.YthacciliemgilaaW Go.Proofs.YthacciliemgilaaW.PrintWords Go.Proofs.Ythacciliemgilaa.U
set_option maxHeartbeats 1000000
set_option maxRecDepth 100000
set_option linter.unusedVariables false
set_option linter.unusedSimpArgs false
/-! Places in sorted counts; puts, cuts. -/
/-- Keys that rise. -/
def Srt (l : List Slot) : Prop := (l.map Slot.key).Pairwise (· < ·)
theorem Srt.lt {l : List Slot} (h : Srt l) {i j : Nat} {s p : Slot} (hij : i < j) (hp : l[i]? = some p) (hs : l[j]? = some s) : p.key < s.key := by
  obtain ⟨hi, rfl⟩ := List.getElem?_eq_some_iff.1 hp
  obtain ⟨hj, rfl⟩ := List.getElem?_eq_some_iff.1 hs
  have := List.pairwise_iff_getElem.1 h i j (by simpa using hi) (by simpa using hj) hij
  simpa using this
theorem okSlots_srt {l : List Slot} (h : okSlots l = true) : Srt l := by
  refine List.pairwise_iff_getElem.2 (fun i j hi hj hij => ?_)
  have := okSlots_lt h hij (List.getElem?_eq_getElem (by simpa using hi)) (List.getElem?_eq_getElem (by simpa using hj))
  simpa using this
def cmpI (a b : Int) : Int := if a < b then -1 else if b < a then 1 else 0
def posAt (l : List Slot) (key : Int) : Nat := l.findIdx (fun s => decide (key ≤ s.key))
def isAt (l : List Slot) (key : Int) : Bool := match l[posAt l key]? with
  | some s => s.key == key
  | none => false
theorem findIdx_at {α : Type} {p : α → Bool} : ∀ {l : List α} {i : Nat}, i ≤ l.length → (∀ j x, j < i → l[j]? = some x → p x = false) → (∀ x, l[i]? = some x → p x = true) → l.findIdx p = i
  | [], i, hi, _, _ => by simp at hi; subst hi; rfl
  | x :: l, 0, _, _, h2 => by rw [List.findIdx_cons, h2 x rfl]; rfl
  | x :: l, i + 1, hi, h1, h2 => by
    rw [List.findIdx_cons, h1 0 x (by omega) rfl, findIdx_at (by simpa using hi) (fun j y hj hy => h1 (j + 1) y (by omega) hy) (fun y hy => h2 y hy)]
    rfl
theorem posAt_eq {l : List Slot} {key : Int} {i : Nat} (hi : i ≤ l.length) (h1 : ∀ j x, j < i → l[j]? = some x → x.key < key) (h2 : ∀ x, l[i]? = some x → key ≤ x.key) : posAt l key = i :=
  findIdx_at hi (fun j x hj hx => by have := h1 j x hj hx; simp; omega) (fun x hx => by have := h2 x hx; simpa using this)
theorem posAt_le (l : List Slot) (key : Int) : posAt l key ≤ l.length := List.findIdx_le_length
theorem posAt_lt {l : List Slot} {key : Int} {j : Nat} {x : Slot} (hj : j < posAt l key) (hx : l[j]? = some x) : x.key < key := by
  have := List.not_of_lt_findIdx (p := fun s : Slot => decide (key ≤ s.key)) (xs := l) hj
  obtain ⟨_, rfl⟩ := List.getElem?_eq_some_iff.1 hx
  simp at this
  omega
theorem posAt_ge {l : List Slot} {key : Int} {x : Slot} (hx : l[posAt l key]? = some x) : key ≤ x.key := by
  obtain ⟨hl, rfl⟩ := List.getElem?_eq_some_iff.1 hx
  exact of_decide_eq_true (List.findIdx_getElem (p := fun s : Slot => decide (key ≤ s.key)) (xs := l) (w := hl))
theorem posAt_gt {l : List Slot} (hok : Srt l) {key : Int} {j : Nat} {x : Slot} (hj : posAt l key < j) (hx : l[j]? = some x) : key < x.key := by
  have hjl := (List.getElem?_eq_some_iff.1 hx).1
  obtain ⟨y, hy⟩ : ∃ y, l[posAt l key]? = some y := ⟨_, List.getElem?_eq_getElem (by omega)⟩
  have h1 := posAt_ge hy
  have h2 := hok.lt hj hy hx
  omega
def lessS (l : List Slot) (x : Int) : List Slot := (l.filter (fun s => decide (x < s.count))).map (fun s => ⟨s.key, s.count - x⟩)
theorem less_hit {l : List Slot} {x : Int} {s : Slot} {k : Nat} (hs : l[k]? = some s) (h : x < s.count) : lessS (l.take k) x ++ [⟨s.key, s.count - x⟩] = lessS (l.take (k + 1)) x := by
  rw [← take_snoc hs, lessS, lessS, List.filter_append, List.map_append]
  simp [h]
theorem less_miss {l : List Slot} {x : Int} {s : Slot} {k : Nat} (hs : l[k]? = some s) (h : ¬ x < s.count) : lessS (l.take k) x = lessS (l.take (k + 1)) x := by
  rw [← take_snoc hs, lessS, lessS, List.filter_append, List.map_append]
  simp [h]
theorem less_le {l : List Slot} {x : Int} {k : Nat} : (lessS (l.take k) x).length ≤ k := by
  rw [lessS, List.length_map]
  exact Nat.le_trans (List.length_filter_le _ _) (List.length_take_le _ _)
def hasS (l : List Slot) (key : Int) : Int := match l.find? (fun s => s.key == key) with
  | some s => s.count
  | none => 0
def putF (key count : Int) (a : List Slot × Bool) (s : Slot) : List Slot × Bool :=
  if s.key = key then (a.1 ++ [⟨s.key, s.count + count⟩], true) else if a.2 = false ∧ key < s.key then (a.1 ++ [⟨key, count⟩, s], true) else (a.1 ++ [s], a.2)
def putG (key count : Int) (l : List Slot) : List Slot × Bool := l.foldl (putF key count) ([], false)
def putS (l : List Slot) (key count : Int) : List Slot := if (putG key count l).2 then (putG key count l).1 else (putG key count l).1 ++ [⟨key, count⟩]
theorem putG_step {key count : Int} {l : List Slot} {k : Nat} {s : Slot} (hs : l[k]? = some s) : putG key count (l.take (k + 1)) = putF key count (putG key count (l.take k)) s := by
  rw [← take_snoc hs, putG, List.foldl_append]
  rfl
theorem putF_len (key count : Int) (a : List Slot × Bool) (s : Slot) : (putF key count a s).1.length + cond (putF key count a s).2 0 1 ≤ a.1.length + cond a.2 0 1 + 1 := by
  unfold putF
  split
  · simp
  · split
    · rename_i h
      simp [h.1]
    · simp only [List.length_append, List.length_cons, List.length_nil]
      omega
theorem putG_len' (key count : Int) : ∀ (l : List Slot) (a : List Slot × Bool), (l.foldl (putF key count) a).1.length + cond (l.foldl (putF key count) a).2 0 1 ≤ a.1.length + cond a.2 0 1 + l.length
  | [], a => Nat.le_refl _
  | s :: l, a => by
    have h1 := putG_len' key count l (putF key count a s)
    have h2 := putF_len key count a s
    simp only [List.foldl_cons, List.length_cons]
    omega
theorem putG_len (key count : Int) (l : List Slot) : (putG key count l).1.length + cond (putG key count l).2 0 1 ≤ l.length + 1 := by
  have h := putG_len' key count l ([], false)
  simp only [List.length_nil, cond_false] at h
  simp only [putG]
  omega
theorem putG_lt {key count : Int} : ∀ {l a : List Slot}, (∀ s ∈ l, s.key < key) → l.foldl (putF key count) (a, false) = (a ++ l, false)
  | [], a, _ => by simp
  | s :: l, a, h => by
    have h1 := h s (by simp)
    have e : putF key count (a, false) s = (a ++ [s], false) := by
      unfold putF
      rw [if_neg (by omega), if_neg (fun h => by have := h.2; omega)]
    rw [List.foldl_cons, e, putG_lt (fun t ht => h t (by simp [ht])), List.append_assoc]
    rfl
theorem putG_gt {key count : Int} : ∀ {l a : List Slot}, (∀ s ∈ l, key < s.key) → l.foldl (putF key count) (a, true) = (a ++ l, true)
  | [], a, _ => by simp
  | s :: l, a, h => by
    have h1 := h s (by simp)
    have e : putF key count (a, true) s = (a ++ [s], true) := by
      unfold putF
      rw [if_neg (by omega), if_neg (fun h => by cases h.1)]
    rw [List.foldl_cons, e, putG_gt (fun t ht => h t (by simp [ht])), List.append_assoc]
    rfl
theorem drop_at {α : Type} {l : List α} {i : Nat} {x : α} (hx : l[i]? = some x) : l.drop i = x :: l.drop (i + 1) := by
  obtain ⟨h, rfl⟩ := List.getElem?_eq_some_iff.1 hx
  exact List.drop_eq_getElem_cons h
theorem putG_split (l : List Slot) (key count : Int) : putG key count l = (l.drop (posAt l key)).foldl (putF key count) (l.take (posAt l key), false) := by
  have h := putG_lt (key := key) (count := count) (l := l.take (posAt l key)) (a := []) (fun s hs => by
    obtain ⟨j, hj⟩ := List.mem_iff_getElem?.1 hs
    have hjl : j < posAt l key := by have := (List.getElem?_eq_some_iff.1 hj).1; simp at this; omega
    rw [List.getElem?_take_of_lt hjl] at hj
    exact posAt_lt hjl hj)
  rw [putG]
  conv => lhs; rw [← List.take_append_drop (posAt l key) l]
  rw [List.foldl_append, h]
  simp
theorem drop_gt {l : List Slot} (hok : Srt l) {key : Int} : ∀ s ∈ l.drop (posAt l key + 1), key < s.key := fun s hs => by
  obtain ⟨j, hj⟩ := List.mem_iff_getElem?.1 hs
  rw [List.getElem?_drop] at hj
  exact posAt_gt hok (by omega) hj
theorem putS_hit {l : List Slot} (hok : Srt l) {key count : Int} {x : Slot} (hx : l[posAt l key]? = some x) (hk : x.key = key) : putS l key count = l.set (posAt l key) ⟨x.key, x.count + count⟩ := by
  have e : putG key count l = (l.take (posAt l key) ++ [⟨x.key, x.count + count⟩] ++ l.drop (posAt l key + 1), true) := by
    rw [putG_split, drop_at hx, List.foldl_cons]
    have e : putF key count (l.take (posAt l key), false) x = (l.take (posAt l key) ++ [⟨x.key, x.count + count⟩], true) := by
      unfold putF
      rw [if_pos hk]
    rw [e, putG_gt (drop_gt hok)]
  rw [putS, e]
  rw [List.set_eq_take_append_cons_drop, if_pos (List.getElem?_eq_some_iff.1 hx).1]
  simp
theorem putS_new {l : List Slot} (hok : Srt l) {key count : Int} (h : isAt l key = false) : putS l key count = l.take (posAt l key) ++ [⟨key, count⟩] ++ l.drop (posAt l key) := by
  cases hx : l[posAt l key]? with
  | none =>
    have hl : l.length ≤ posAt l key := List.getElem?_eq_none_iff.1 hx
    rw [putS, putG_split, List.drop_of_length_le hl]
    simp
  | some x =>
    have h1 := posAt_ge hx
    have hne : x.key ≠ key := fun e => by rw [isAt, hx] at h; simp [e] at h
    have e : putG key count l = (l.take (posAt l key) ++ [⟨key, count⟩, x] ++ l.drop (posAt l key + 1), true) := by
      rw [putG_split, drop_at hx, List.foldl_cons]
      have e : putF key count (l.take (posAt l key), false) x = (l.take (posAt l key) ++ [⟨key, count⟩, x], true) := by
        unfold putF
        rw [if_neg hne, if_pos ⟨rfl, by omega⟩]
      rw [e, putG_gt (drop_gt hok)]
    rw [putS, e, drop_at hx]
    simp
theorem isAt_iff {l : List Slot} {key : Int} : isAt l key = true ↔ ∃ x, l[posAt l key]? = some x ∧ x.key = key := by
  unfold isAt
  cases l[posAt l key]? with
  | none => simp
  | some x => simp
theorem hasS_at {l : List Slot} {key : Int} {x : Slot} (hx : l[posAt l key]? = some x) (hk : x.key = key) : hasS l key = x.count := by
  have hf : l.find? (fun s => s.key == key) = some x := by
    rw [← List.take_append_drop (posAt l key) l, List.find?_append, drop_at hx]
    have h0 : (l.take (posAt l key)).find? (fun s => s.key == key) = none := by
      rw [List.find?_eq_none]
      intro s hs
      obtain ⟨j, hj⟩ := List.mem_iff_getElem?.1 hs
      have hjl : j < posAt l key := by have := (List.getElem?_eq_some_iff.1 hj).1; simp at this; omega
      rw [List.getElem?_take_of_lt hjl] at hj
      have := posAt_lt hjl hj
      simp
      omega
    rw [h0]
    simp [hk]
  rw [hasS, hf]
theorem hasS_not {l : List Slot} (hok : Srt l) {key : Int} (h : isAt l key = false) : hasS l key = 0 := by
  have hf : l.find? (fun s => s.key == key) = none := by
    rw [List.find?_eq_none]
    intro s hs
    obtain ⟨j, hj⟩ := List.mem_iff_getElem?.1 hs
    rcases Nat.lt_trichotomy j (posAt l key) with hlt | rfl | hgt
    · have := posAt_lt hlt hj
      simp
      omega
    · simp
      intro e
      rw [isAt_iff.2 ⟨s, hj, e⟩] at h
      cases h
    · have := posAt_gt hok hgt hj
      simp
      omega
  rw [hasS, hf]
theorem putS_srt {l : List Slot} (hok : Srt l) (key count : Int) : Srt (putS l key count) := by
  cases h : isAt l key with
  | true =>
    obtain ⟨x, hx, hk⟩ := isAt_iff.1 h
    rw [putS_hit hok hx hk]
    unfold Srt
    obtain ⟨hl, e⟩ := List.getElem?_eq_some_iff.1 hx
    have e2 : (l.map Slot.key).set (posAt l key) x.key = l.map Slot.key := by
      rw [show x.key = (l.map Slot.key)[posAt l key]'(by simpa using hl) by rw [List.getElem_map, e], List.set_getElem_self]
    rw [List.map_set, e2]
    exact hok
  | false =>
    rw [putS_new hok h]
    unfold Srt
    rw [List.map_append, List.map_append, List.pairwise_append, List.pairwise_append]
    have hsub : ((l.take (posAt l key)).map Slot.key ++ (l.drop (posAt l key)).map Slot.key).Pairwise (· < ·) := by
      rw [← List.map_append, List.take_append_drop]
      exact hok
    rw [List.pairwise_append] at hsub
    have hlo : ∀ a ∈ (l.take (posAt l key)).map Slot.key, a < key := fun a ha => by
      obtain ⟨s, hs, rfl⟩ := List.mem_map.1 ha
      obtain ⟨j, hj⟩ := List.mem_iff_getElem?.1 hs
      have hjl : j < posAt l key := by have := (List.getElem?_eq_some_iff.1 hj).1; simp at this; omega
      rw [List.getElem?_take_of_lt hjl] at hj
      exact posAt_lt hjl hj
    have hhi : ∀ b ∈ (l.drop (posAt l key)).map Slot.key, key < b := fun b hb => by
      obtain ⟨s, hs, rfl⟩ := List.mem_map.1 hb
      obtain ⟨j, hj⟩ := List.mem_iff_getElem?.1 hs
      rw [List.getElem?_drop] at hj
      rcases Nat.eq_zero_or_pos j with rfl | hp
      · have h1 := posAt_ge hj
        have hne : s.key ≠ key := fun e => by rw [isAt_iff.2 ⟨s, hj, e⟩] at h; cases h
        omega
      · exact posAt_gt hok (by omega) hj
    refine ⟨⟨hsub.1, by simp, fun a ha b hb => ?_⟩, hsub.2.1, fun a ha b hb => ?_⟩
    · simp at hb
      subst hb
      exact hlo a ha
    · rcases List.mem_append.1 ha with ha | ha
      · exact hsub.2.2 a ha b hb
      · simp at ha
        subst ha
        exact hhi b hb
theorem putG_mem {key c : Int} : ∀ {l : List Slot} {a : List Slot × Bool} {s : Slot}, s ∈ (l.foldl (putF key c) a).1 → s ∈ a.1 ∨ s ∈ l ∨ s = ⟨key, c⟩ ∨ ∃ t ∈ l, s = ⟨t.key, t.count + c⟩
  | [], a, s, h => .inl h
  | t :: l, a, s, h => by
    rw [List.foldl_cons] at h
    rcases putG_mem h with h | h | h | ⟨u, hu, h⟩
    · unfold putF at h
      split at h
      · rcases List.mem_append.1 h with h | h
        · exact .inl h
        · simp at h
          exact .inr (.inr (.inr ⟨t, by simp, h⟩))
      · split at h
        · rcases List.mem_append.1 h with h | h
          · exact .inl h
          · simp at h
            rcases h with h | h
            · exact .inr (.inr (.inl h))
            · exact .inr (.inl (by simp [h]))
        · rcases List.mem_append.1 h with h | h
          · exact .inl h
          · simp at h
            exact .inr (.inl (by simp [h]))
    · exact .inr (.inl (by simp [h]))
    · exact .inr (.inr (.inl h))
    · exact .inr (.inr (.inr ⟨u, by simp [hu], h⟩))
theorem putS_mem {key c : Int} {l : List Slot} {s : Slot} (h : s ∈ putS l key c) : s ∈ l ∨ s = ⟨key, c⟩ ∨ ∃ t ∈ l, s = ⟨t.key, t.count + c⟩ := by
  unfold putS at h
  have key2 : s ∈ (putG key c l).1 → s ∈ l ∨ s = ⟨key, c⟩ ∨ ∃ t ∈ l, s = ⟨t.key, t.count + c⟩ := fun h => by
    rcases putG_mem h with h | h
    · cases h
    · exact h
  split at h
  · exact key2 h
  · rcases List.mem_append.1 h with h | h
    · exact key2 h
    · simp at h
      exact .inr (.inl h)
end Go.Proofs.Ythacciliemgilaa.C

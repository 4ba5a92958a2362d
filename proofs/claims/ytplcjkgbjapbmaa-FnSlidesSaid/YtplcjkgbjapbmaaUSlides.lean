import Derived.Test.YtplcjkgbjapbmaaUp
import Derived.Test.YtplcjkgbjapbmaaUFold
namespace Go.Proofs.Ytplcjkgbjapbmaa.C
open Go.RowKit Go.Proofs.YtplcjkgbjapbmaaW Go.Proofs.YtplcjkgbjapbmaaW.PrintWords Go.Proofs.Ytplcjkgbjapbmaa.U
set_option maxHeartbeats 1000000
set_option maxRecDepth 100000
set_option linter.unusedVariables false
set_option linter.unusedSimpArgs false
def slF (t size hop : Int) : Int := max 0 (t - size + hop) / hop
def slN (t size hop : Int) : Nat := (t / hop - slF t size hop + 1).toNat
def slL (t size hop : Int) : List Int := (List.range (slN t size hop)).map (fun i : Nat => slF t size hop + (i : Int))
def slMany (t size hop : Int) : Bool := decide (300 < t / hop - slF t size hop + 1)
def agg1 (f : Frame) (w : Int) : Agg := ⟨w, f.key, 1, f.value, f.value, f.value⟩
def slA (size hop : Int) (f : Frame) : List Agg := (slL f.time size hop).map (agg1 f)
def evAs (size hop : Int) (f : Frame) : List Agg := if okEv f then slA size hop f else []
def fsAll (size hop : Int) (l : List Frame) : List Agg := l.flatMap (evAs size hop)
def fsMany (size hop : Int) (f : Frame) : Bool := okEv f && slMany f.time size hop
def fineB (size hop : Int) : Bool := inB size 1 1000000 && inB hop 1 1000000
def foldSl (l : List Frame) (size hop : Int) : List Agg := if fineB size hop = true ∧ l.length ≤ 300 ∧ l.any (fsMany size hop) = false then foldK (fsAll size hop l) else []
structure SlB (t size hop : Int) : Prop where
  t0 : 0 ≤ t
  t1 : t ≤ 1000000
  s0 : 1 ≤ size
  s1 : size ≤ 1000000
  h0 : 1 ≤ hop
  h1 : hop ≤ 1000000
theorem slF_lt {t size hop : Int} (h : SlB t size hop) (hl : t < size) : slF t size hop = 0 := by
  obtain ⟨_, _, _, _, h5, _⟩ := h
  unfold slF
  exact Int.ediv_eq_zero_of_lt (by omega) (by omega)
theorem slF_ge {t size hop : Int} (h : SlB t size hop) (hl : ¬ t < size) : slF t size hop = (t - size) / hop + 1 := by
  obtain ⟨_, _, _, _, h5, _⟩ := h
  unfold slF
  rw [show max 0 (t - size + hop) = (t - size) + hop by omega, show t - size + hop = t - size + 1 * hop by omega, Int.add_mul_ediv_right _ _ (by omega)]
theorem slq_bd {t size hop : Int} (h : SlB t size hop) : 0 ≤ t / hop ∧ t / hop ≤ 1000000 := by
  have h5 : t / hop ≤ t := Int.ediv_le_self _ h.t0
  have := h.t1
  exact ⟨Int.ediv_nonneg h.t0 (by have := h.h0; omega), by omega⟩
theorem slF_bd {t size hop : Int} (h : SlB t size hop) : 0 ≤ slF t size hop ∧ slF t size hop ≤ 1000001 := by
  by_cases hl : t < size
  · rw [slF_lt h hl]; omega
  · rw [slF_ge h hl]
    obtain ⟨_, _, _, _, h5, _⟩ := h
    have h6 : (t - size) / hop ≤ t - size := Int.ediv_le_self _ (by omega)
    have h7 : 0 ≤ (t - size) / hop := Int.ediv_nonneg (by omega) (by omega)
    omega
theorem slq2_bd {t size hop : Int} (h : SlB t size hop) (hl : ¬ t < size) : 0 ≤ (t - size) / hop ∧ (t - size) / hop ≤ 1000000 := by
  obtain ⟨_, _, _, _, h5, _⟩ := h
  have h6 : (t - size) / hop ≤ t - size := Int.ediv_le_self _ (by omega)
  have h7 : 0 ≤ (t - size) / hop := Int.ediv_nonneg (by omega) (by omega)
  omega
theorem slL_len (t size hop : Int) : (slL t size hop).length = slN t size hop := by rw [slL, List.length_map, List.length_range]
theorem slL_at {t size hop : Int} {k : Nat} (h : k < slN t size hop) : (slL t size hop)[k]? = some (slF t size hop + (k : Int)) := by
  rw [slL, List.getElem?_map, List.getElem?_range h]
  rfl
theorem slN_le {t size hop : Int} (h : slMany t size hop = false) : slN t size hop ≤ 300 := by
  have := of_decide_eq_false h
  unfold slN
  omega
theorem slL_bd {t size hop : Int} (h : SlB t size hop) (hm : slMany t size hop = false) : ∀ x ∈ slL t size hop, 0 ≤ x ∧ x ≤ 2000000 := fun x hx => by
  obtain ⟨i, hi, rfl⟩ := List.mem_map.1 hx
  have h1 := slF_bd h
  have h2 := slN_le hm
  have h3 := List.mem_range.1 hi
  omega
theorem okEv_SlB {f : Frame} {size hop : Int} (h : okEv f = true) (hf : fineB size hop = true) : SlB f.time size hop := by
  obtain ⟨_, _, h3, _⟩ := okEv_bd h
  unfold fineB at hf
  rw [Bool.and_eq_true, inB_iff, inB_iff] at hf
  exact ⟨h3.1, h3.2, hf.1.1, hf.1.2, hf.2.1, hf.2.2⟩
theorem agg1_bd {f : Frame} (h : okEv f = true) (w : Int) : AggBd (agg1 f w) := by
  obtain ⟨_, _, _, h4⟩ := okEv_bd h
  exact ⟨⟨by show (0 : Int) ≤ 1; decide, by show (1 : Int) ≤ 1000000000; decide⟩, by show -1000000000 ≤ f.value; omega, by show f.value ≤ 1000000000; omega⟩
def AggBx (a : Agg) : Prop := AggBd a ∧ In64 a.win ∧ In64 a.key
theorem slA_bx {f : Frame} {size hop : Int} (h : okEv f = true) (hf : fineB size hop = true) (hm : slMany f.time size hop = false) : ∀ a ∈ slA size hop f, AggBx a := fun a ha => by
  obtain ⟨x, hx, rfl⟩ := List.mem_map.1 ha
  have h1 := slL_bd (okEv_SlB h hf) hm x hx
  obtain ⟨_, h2, _⟩ := okEv_bd h
  exact ⟨agg1_bd h x, ⟨by show -9223372036854775808 ≤ x; omega, by show x ≤ 9223372036854775807; omega⟩, ⟨by show -9223372036854775808 ≤ f.key; omega, by show f.key ≤ 9223372036854775807; omega⟩⟩
theorem slA_len {f : Frame} {size hop : Int} : (slA size hop f).length = slN f.time size hop := by rw [slA, List.length_map, slL_len]
theorem slA_at {f : Frame} {size hop x : Int} {k : Nat} (h : (slL f.time size hop)[k]? = some x) : (slA size hop f)[k]? = some (agg1 f x) := by rw [slA, List.getElem?_map, h]; rfl
theorem any_no {f : Frame} {size hop : Int} {l : List Frame} (h : l.any (fsMany size hop) = false) (hf : f ∈ l) (ho : okEv f = true) : slMany f.time size hop = false := by
  rw [← Bool.not_eq_true, List.any_eq_true] at h
  cases h2 : slMany f.time size hop with
  | false => rfl
  | true => exact absurd ⟨f, hf, by rw [fsMany, ho, h2]; rfl⟩ h
theorem fsAll_bx {size hop : Int} {l : List Frame} (hf : fineB size hop = true) (h : l.any (fsMany size hop) = false) : ∀ a ∈ fsAll size hop l, AggBx a := fun a ha => by
  obtain ⟨f, hm, hx⟩ := List.mem_flatMap.1 ha
  unfold evAs at hx
  split at hx
  · rename_i ho
    exact slA_bx ho hf (any_no h hm ho) a hx
  · cases hx
theorem fsAll_len {size hop : Int} : ∀ {l : List Frame}, l.any (fsMany size hop) = false → (fsAll size hop l).length ≤ 300 * l.length
  | [], _ => Nat.le_refl _
  | f :: l, h => by
    have h1 : (evAs size hop f).length ≤ 300 := by
      unfold evAs
      split
      · rename_i ho
        rw [slA_len]
        exact slN_le (any_no h List.mem_cons_self ho)
      · exact Nat.zero_le _
    have h2 : (fsAll size hop l).length ≤ 300 * l.length := fsAll_len (by
      rw [List.any_cons, Bool.or_eq_false_iff] at h
      exact h.2)
    rw [fsAll, List.flatMap_cons, List.length_append, List.length_cons]
    show _ + (fsAll size hop l).length ≤ _
    omega
theorem take_snocF {α : Type} {l : List α} {k : Nat} {x : α} (h : l[k]? = some x) : l.take (k + 1) = l.take k ++ [x] := by rw [List.take_add_one, h]; rfl
theorem fsAll_snoc {size hop : Int} {l : List Frame} {k : Nat} {f : Frame} (h : l[k]? = some f) : fsAll size hop (l.take (k + 1)) = fsAll size hop (l.take k) ++ evAs size hop f := by
  rw [take_snocF h, fsAll, List.flatMap_append]
  simp [fsAll]
theorem any_snoc {size hop : Int} {l : List Frame} {k : Nat} {f : Frame} (h : l[k]? = some f) (h1 : (l.take k).any (fsMany size hop) = false) (h2 : fsMany size hop f = false) : (l.take (k + 1)).any (fsMany size hop) = false := by
  rw [take_snocF h, List.any_append, h1]
  simp [h2]
theorem fs_bad {size hop : Int} {l : List Frame} (h : fineB size hop = false) : foldSl l size hop = [] := by rw [foldSl, h, if_neg (fun e => by cases e.1)]
theorem fs_long {size hop : Int} {l : List Frame} (h : ¬ l.length ≤ 300) : foldSl l size hop = [] := by rw [foldSl, if_neg (fun e => h e.2.1)]
theorem fs_many {size hop : Int} {l : List Frame} {k : Nat} {f : Frame} (h : l[k]? = some f) (h1 : okEv f = true) (h2 : slMany f.time size hop = true) : foldSl l size hop = [] := by
  rw [foldSl, if_neg (fun e => ?_)]
  have := any_no e.2.2 (List.mem_of_getElem? h) h1
  rw [h2] at this
  cases this
theorem fs_ok {size hop : Int} {l : List Frame} (h : fineB size hop = true) (h1 : l.length ≤ 300) (h2 : l.any (fsMany size hop) = false) : foldSl l size hop = foldK (fsAll size hop l) := by rw [foldSl, if_pos ⟨h, h1, h2⟩]
/-- what has been put in behind k events and j windows of the next -/
def fsTo (size hop : Int) (l : List Frame) (k : Nat) (f : Frame) (j : Nat) : List Agg := fsAll size hop (l.take k) ++ (slA size hop f).take j
theorem fsTo_zero (size hop : Int) (l : List Frame) (k : Nat) (f : Frame) : fsTo size hop l k f 0 = fsAll size hop (l.take k) := by simp [fsTo]
theorem fsTo_succ {size hop x : Int} {l : List Frame} {k j : Nat} {f : Frame} (h : (slL f.time size hop)[j]? = some x) : fsTo size hop l k f (j + 1) = fsTo size hop l k f j ++ [agg1 f x] := by rw [fsTo, take_snocF (slA_at h), fsTo, List.append_assoc]
theorem fsTo_end {size hop : Int} {l : List Frame} {k : Nat} {f : Frame} (h : l[k]? = some f) (ho : okEv f = true) : fsTo size hop l k f (slL f.time size hop).length = fsAll size hop (l.take (k + 1)) := by
  rw [fsTo, List.take_of_length_le (l := slA size hop f) (by rw [slA_len, slL_len]; exact Nat.le_refl _), fsAll_snoc h, evAs, if_pos ho]
theorem fsAll_skip {size hop : Int} {l : List Frame} {k : Nat} {f : Frame} (h : l[k]? = some f) (ho : okEv f = false) : fsAll size hop (l.take (k + 1)) = fsAll size hop (l.take k) := by
  rw [fsAll_snoc h, evAs, ho]
  simp
theorem fsTo_bx {size hop : Int} {l : List Frame} {k j : Nat} {f : Frame} (hf : fineB size hop = true) (h1 : (l.take k).any (fsMany size hop) = false) (ho : okEv f = true) (hm : slMany f.time size hop = false) : ∀ a ∈ fsTo size hop l k f j, AggBx a := fun a ha => by
  rcases List.mem_append.1 ha with h2 | h2
  · exact fsAll_bx hf h1 a h2
  · exact slA_bx ho hf hm a (List.mem_of_mem_take h2)
theorem fsTo_len {size hop : Int} {l : List Frame} {k j : Nat} {f : Frame} (h1 : (l.take k).any (fsMany size hop) = false) (hm : slMany f.time size hop = false) (hl : l.length ≤ 300) : (fsTo size hop l k f j).length ≤ 90300 := by
  have h2 := fsAll_len h1
  have h3 : (l.take k).length ≤ l.length := by rw [List.length_take]; omega
  have h4 : ((slA size hop f).take j).length ≤ (slA size hop f).length := by rw [List.length_take]; omega
  rw [slA_len] at h4
  have h5 := slN_le hm
  rw [fsTo, List.length_append]
  omega
theorem foldSl_len (l : List Frame) (size hop : Int) : (foldSl l size hop).length ≤ 90000 := by
  unfold foldSl
  split
  · rename_i h
    have h1 := foldK_len (fsAll size hop l)
    have h2 := fsAll_len h.2.2
    omega
  · exact Nat.zero_le _
end Go.Proofs.Ytplcjkgbjapbmaa.C

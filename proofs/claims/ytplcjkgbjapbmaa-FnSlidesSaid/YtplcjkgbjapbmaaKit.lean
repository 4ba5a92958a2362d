/- Words for 'with enough rounds', and small facts on numbers and lists that the loops of the printed functions ask for. -/
import Derived.Test.YtplcjkgbjapbmaaWWords
namespace Go.Proofs.Ytplcjkgbjapbmaa.Kit
open Go Go.RowKit Go.Proofs.YtplcjkgbjapbmaaW.PrintWords

/-- With enough rounds. -/
def Evt (p : Nat → Prop) : Prop := ∃ K, ∀ k, K ≤ k → p k
theorem Evt.of {p : Nat → Prop} (h : ∀ k, p k) : Evt p := ⟨0, fun k _ => h k⟩
theorem Evt.map {p q : Nat → Prop} (h : Evt p) (f : ∀ k, p k → q k) : Evt q := by
  obtain ⟨K, h⟩ := h
  exact ⟨K, fun k hk => f k (h k hk)⟩
theorem Evt.step {p q : Nat → Prop} (h : Evt p) (f : ∀ k, p k → q (k + 1)) : Evt q := by
  obtain ⟨K, h⟩ := h
  refine ⟨K + 1, fun k hk => ?_⟩
  obtain ⟨m, rfl⟩ : ∃ m, k = m + 1 := ⟨k - 1, by omega⟩
  exact f m (h m (by omega))
theorem Evt.step0 {q : Nat → Prop} (f : ∀ k, q (k + 1)) : Evt q := Evt.step (p := fun _ => True) (Evt.of fun _ => trivial) (fun k _ => f k)
theorem Evt.and {p q : Nat → Prop} (h : Evt p) (h' : Evt q) : Evt (fun k => p k ∧ q k) := by
  obtain ⟨K, h⟩ := h
  obtain ⟨K', h'⟩ := h'
  exact ⟨max K K', fun k hk => ⟨h k (by omega), h' k (by omega)⟩⟩
theorem Evt.ex {p : Nat → Prop} (h : Evt p) : ∃ k, p k := by
  obtain ⟨K, h⟩ := h
  exact ⟨K, h K (Nat.le_refl _)⟩

/-- A number of Go's int. -/
def I64 (x : Int) : Prop := -9223372036854775808 ≤ x ∧ x ≤ 9223372036854775807
theorem i64_wf {x : Int} (h : (Lit.int .i64 x).wf = true) : I64 x := by
  simp only [Lit.wf, Bool.and_eq_true, decide_eq_true_eq] at h
  have e1 : IntKind.min .i64 = -9223372036854775808 := by decide
  have e2 : IntKind.max .i64 = 9223372036854775807 := by decide
  rw [e1, e2] at h
  exact h

/-- What a slice's elements keep to. -/
def AllOf {α : Type} (Wf : α → Prop) (xs : List α) : Prop := xs.length ≤ 9223372036854775807 ∧ ∀ x ∈ xs, Wf x

theorem wrap_in {x : Int} (h0 : -9223372036854775808 ≤ x) (h1 : x ≤ 9223372036854775807) : wrap64 x = x := by unfold wrap64; omega
theorem wrap_nat {i n : Nat} (h : i < n) (hn : n ≤ 9223372036854775807) : wrap64 ((i : Int) + 1) = ((i + 1 : Nat) : Int) := by unfold wrap64; omega
theorem wrap_range (x : Int) : I64 (wrap64 x) := by unfold I64 wrap64; omega
theorem rd_at {xs : List Int} {i : Nat} (h : i < xs.length) : rd xs (i : Int) = xs[i] := by
  simp [rd, List.getD_eq_getElem?_getD, List.getElem?_eq_getElem h]
theorem ilt {i n : Nat} (h : i < n) : (i : Int) < (n : Int) := by omega
theorem inlt {i n : Nat} (h : n ≤ i) : ¬ (i : Int) < (n : Int) := by omega
theorem i0 (i : Nat) : (0 : Int) ≤ (i : Int) := by omega
theorem drop_at {α : Type} {xs : List α} {i : Nat} (h : i < xs.length) : xs.drop i = xs[i] :: xs.drop (i + 1) := List.drop_eq_getElem_cons h
theorem take_at {α : Type} {xs : List α} {i : Nat} (h : i < xs.length) : xs.take (i + 1) = xs.take i ++ [xs[i]] := (List.take_append_getElem h).symm

/-- A list that is filled place by place. -/
theorem fill_step {α : Type} {x y : List α} {i : Nat} {v : α} (hl : x.length = y.length) (hi : i < y.length) (ht : x.take i = y.take i) (hv : y[i] = v) :
    (x.set i v).length = y.length ∧ (x.set i v).take (i + 1) = y.take (i + 1) := by
  refine ⟨by simp [hl], ?_⟩
  rw [take_at hi, take_at (by simp; omega)]
  congr 1
  · rw [List.take_set_of_le (by omega), ht]
  · simp [hv]
theorem fill_end {α : Type} {x y : List α} {i : Nat} (hl : x.length = y.length) (hi : y.length ≤ i) (ht : x.take i = y.take i) : x = y := by
  rwa [List.take_of_length_le (by omega), List.take_of_length_le (by omega)] at ht
end Go.Proofs.Ytplcjkgbjapbmaa.Kit

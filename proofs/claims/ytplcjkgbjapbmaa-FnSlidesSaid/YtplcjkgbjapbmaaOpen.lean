/- From the form's readings of arguments to the kinds of the printed contracts: numbers, bools, slices, structs. -/
import Derived.Test.YtplcjkgbjapbmaaKit
import Derived.Deep.Slices
import Derived.ChangeArms
import Derived.WideShapes
namespace Go.Proofs.Ytplcjkgbjapbmaa.Open
open Go Go.Deep Go.RowKit Go.WideShapes Go.Proofs.YtplcjkgbjapbmaaW.PrintWords Go.Proofs.Ytplcjkgbjapbmaa.Kit

/-- What reads at the type t is of the kind d, and keeps to Wf. -/
structure Opens (P : Program) (t : TypeId) {α : Type} (d : Kd α) (Wf : α → Prop) : Prop where
  out : ∀ {H : Type} {enc : TypeId × Value → H} {w : World} {base fuel : Nat} {cs : List Value} {x : DataW H × List MemPlace},
    DataW.trod enc P w base (fun _ => true) true fuel t cs = some x → ∃ a, d.K w a cs ∧ Wf a

theorem opens_int {P : Program} {t : TypeId} (ht : P.underlying t = some (.int .i64)) : Opens P t (Kd.int .i64) I64 := by
  refine ⟨fun {H enc w base fuel cs x} h => ?_⟩
  obtain ⟨n, rfl, _, hw⟩ := DataW.trod_int ht h
  exact ⟨n, rfl, i64_wf hw⟩

theorem opens_bool {P : Program} {t : TypeId} (ht : P.underlying t = some .bool) : Opens P t Kd.bool (fun _ => True) := by
  refine ⟨fun {H enc w base fuel cs x} h => ?_⟩
  obtain ⟨n, rfl, _⟩ := DataW.trod_bool ht h
  exact ⟨n, rfl, trivial⟩

theorem opens_u8 {P : Program} {t : TypeId} (ht : P.underlying t = some (.int .u8)) : Opens P t (Kd.int .u8) (fun x => 0 ≤ x ∧ x ≤ 255) := by
  refine ⟨fun {H enc w base fuel cs x} h => ?_⟩
  obtain ⟨n, rfl, _, hw⟩ := DataW.trod_int ht h
  simp only [Lit.wf, Bool.and_eq_true, decide_eq_true_eq] at hw
  have e1 : IntKind.min .u8 = 0 := by decide
  have e2 : IntKind.max .u8 = 255 := by decide
  rw [e1, e2] at hw
  exact ⟨n, rfl, hw⟩

theorem list_of {α : Type} {n : Nat} {p : Nat → α → Prop} (h : ∀ i, i < n → ∃ x, p i x) : ∃ xs : List α, xs.length = n ∧ ∀ (i : Nat) (x : α), xs[i]? = some x → p i x := by
  induction n with
  | zero => exact ⟨[], rfl, fun i x hx => by simp at hx⟩
  | succ n ih =>
    obtain ⟨xs, hl, hx⟩ := ih (fun i hi => h i (by omega))
    obtain ⟨y, hy⟩ := h n (by omega)
    refine ⟨xs ++ [y], by simp [hl], fun i x hi => ?_⟩
    rcases Nat.lt_or_ge i xs.length with hlt | hge
    · rw [List.getElem?_append_left hlt] at hi
      exact hx i x hi
    · rw [List.getElem?_append_right hge] at hi
      have : i = n := by
        have := (List.getElem?_eq_some_iff.1 hi).1
        simp at this
        omega
      subst this
      simp [hl] at hi
      subst hi
      exact hy

theorem opens_slice {P : Program} {t e : TypeId} {α : Type} {d : Kd α} {Wf : α → Prop} (ht : P.underlying t = some (.slice e)) (hs : P.cellsOf e = d.sz) (he : Opens P e d Wf) :
    Opens P t (Kd.slice e d) (AllOf Wf) := by
  refine ⟨fun {H enc w base fuel cs x} h => ?_⟩
  rcases open_slice ht h with ⟨rfl, _⟩ | ⟨a, len, cap, m, n, D, Pl, rfl, _, hl, hm, hmm, _, hx⟩
  · exact ⟨[], ⟨none, 0, rfl, Nat.le_refl _, Kd.C_nil d w⟩, by simp, fun x hx => by simp at hx⟩
  · have hle : len ≤ m := by rw [hmm]; split <;> omega
    have hcap : cap ≤ 9223372036854775807 := hm
    obtain ⟨xs, hlen, hxs⟩ := list_of (n := len) (p := fun i (y : α) => Wf y ∧ ∃ c, c.length = d.sz ∧ d.K w y c ∧ ∀ j u, c[j]? = some u → w.cell? (a.add (i * d.sz + j)) = some u) (fun i hi => by
      obtain ⟨cs', h1, h2⟩ := hx i (by omega)
      obtain ⟨y, hk, hw⟩ := he.out h2
      obtain ⟨_, hl', hc⟩ := World.cells?_some h1
      rw [hs] at hl' hc
      refine ⟨y, hw, cs', hl', hk, fun j u hu => ?_⟩
      have hj : j < d.sz := by rw [← hl']; exact (List.getElem?_eq_some_iff.1 hu).1
      have := hc j hj
      rw [Go.Deep.add_add] at this
      rw [this, hu])
    refine ⟨xs, ⟨some a, cap, by rw [hlen], by omega, rfl, by omega, fun _ => ⟨a, rfl, fun j p hj => (hxs j p hj).2⟩⟩, by omega, fun y hy => ?_⟩
    obtain ⟨i, hi⟩ := List.getElem?_of_mem hy
    exact (hxs i y hi).1

/-- A struct's fields from one on, in line. -/
structure OpensF (P : Program) (fs : List Field) (off : Nat) {α : Type} (d : Kd α) (Wf : α → Prop) : Prop where
  out : ∀ {H : Type} {enc : TypeId × Value → H} {w : World} {base n : Nat} {cs : List Value}, cs.length = off + d.sz →
    (∀ f ∈ fs, ∃ y : DataW H × List MemPlace, DataW.trod enc P w base (fun _ => true) true n f.type ((cs.drop f.offset).take (P.cellsOf f.type)) = some y) → ∃ a, d.K w a (cs.drop off) ∧ Wf a

theorem opens_last {P : Program} {f : Field} {off : Nat} {α : Type} {d : Kd α} {Wf : α → Prop} (ho : f.offset = off) (hs : P.cellsOf f.type = d.sz) (h : Opens P f.type d Wf) : OpensF P [f] off d Wf := by
  refine ⟨fun {H enc w base n cs} hl hf => ?_⟩
  obtain ⟨y, hy⟩ := hf f (by simp)
  obtain ⟨a, hk, hw⟩ := h.out hy
  rw [ho, hs, List.take_of_length_le (by simp; omega)] at hk
  exact ⟨a, hk, hw⟩

theorem opens_next {P : Program} {f : Field} {fs : List Field} {off : Nat} {α β : Type} {d : Kd α} {d' : Kd β} {Wf : α → Prop} {Wf' : β → Prop} (ho : f.offset = off) (hs : P.cellsOf f.type = d.sz) (h : Opens P f.type d Wf)
    (r : OpensF P fs (off + d.sz) d' Wf') : OpensF P (f :: fs) off (Kd.pair d d') (fun x => Wf x.1 ∧ Wf' x.2) := by
  refine ⟨fun {H enc w base n cs} hl hf => ?_⟩
  obtain ⟨y, hy⟩ := hf f (by simp)
  obtain ⟨a, hk, hw⟩ := h.out hy
  have hp : (Kd.pair d d').sz = d.sz + d'.sz := rfl
  rw [hp] at hl
  obtain ⟨b, hk', hw'⟩ := r.out (cs := cs) (enc := enc) (w := w) (base := base) (n := n) (by omega) (fun g hg => hf g (by simp [hg]))
  rw [ho, hs] at hk
  refine ⟨(a, b), ⟨_, _, ?_, hk, hk'⟩, hw, hw'⟩
  rw [← List.drop_drop, List.take_append_drop]

/-- A struct, as the tuple of its fields. -/
theorem opens_struct0 {P : Program} {t : TypeId} {fs : List Field} {α : Type} {d : Kd α} {Wf : α → Prop} (ht : P.underlying t = some (.struct fs.toArray)) (hs : P.cellsOf t = d.sz)
    (h : OpensF P fs 0 d Wf) : Opens P t d Wf := by
  refine ⟨fun {H enc w base fuel cs x} hx => ?_⟩
  obtain ⟨xs, n, _, _, hl, hlen, hf⟩ := DataW.trod_struct ht hx
  obtain ⟨a, hk, hw⟩ := h.out (cs := cs) (enc := enc) (w := w) (base := base) (n := n) (by omega) (fun fd hfd => by
    obtain ⟨i, hi⟩ := List.getElem?_of_mem hfd
    have := hf i fd (by simpa using hi)
    have hlt : i < xs.length := by rw [hlen]; simpa using (List.getElem?_eq_some_iff.1 hi).1
    rw [List.getElem?_eq_getElem hlt] at this
    exact ⟨_, this⟩)
  exact ⟨a, by simpa using hk, hw⟩
theorem opens_imp {P : Program} {t : TypeId} {α : Type} {d : Kd α} {Wf Wf' : α → Prop} (hi : ∀ x, Wf x → Wf' x) (h : Opens P t d Wf) : Opens P t d Wf' := by
  refine ⟨fun {H enc w base fuel cs x} hx => ?_⟩
  obtain ⟨a, hk, hw⟩ := h.out hx
  exact ⟨a, hk, hi a hw⟩
/-- A struct as a Lean structure: 'f' takes it apart, 'g' puts it together. -/
theorem opens_struct {P : Program} {t : TypeId} {fs : List Field} {α β : Type} {d : Kd α} {Wf : α → Prop} (f : β → α) (g : α → β) (hfg : ∀ x, f (g x) = x) (ht : P.underlying t = some (.struct fs.toArray)) (hs : P.cellsOf t = d.sz)
    (h : OpensF P fs 0 d Wf) : Opens P t (Kd.iso d f) (fun x => Wf (f x)) := by
  refine ⟨fun {H enc w base fuel cs x} hx => ?_⟩
  obtain ⟨a, hk, hw⟩ := (opens_struct0 ht hs h).out hx
  refine ⟨g a, ?_, ?_⟩
  · show d.K w (f (g a)) cs
    rw [hfg]
    exact hk
  · show Wf (f (g a))
    rw [hfg]
    exact hw
end Go.Proofs.Ytplcjkgbjapbmaa.Open

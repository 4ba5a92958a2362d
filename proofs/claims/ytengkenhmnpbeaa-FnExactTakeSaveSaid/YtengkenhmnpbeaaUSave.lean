import Derived.Test.YtengkenhmnpbeaaUp
import Derived.Test.YtengkenhmnpbeaaUAxh
import Derived.Test.YtengkenhmnpbeaaPMb
namespace Go.Proofs.Ytengkenhmnpbeaa.C
open Go.RowKit Go.Proofs.YtengkenhmnpbeaaW Go.Proofs.YtengkenhmnpbeaaW.PrintWords Go.Proofs.Ytengkenhmnpbeaa.U
set_option maxHeartbeats 1000000
set_option maxRecDepth 100000
set_option linter.unusedVariables false
set_option linter.unusedSimpArgs false
/-! Rows of saves: elements that lead to a row of their own each. -/
structure Save where
  at_ : Int
  aggs : List Agg
  mark : Int
  late : Int
  over : Int
instance : Inhabited Save := ⟨⟨0, [], 0, 0, 0⟩⟩
def kSave (e : Nat) : Kd Save := Kd.iso (Kd.pair (Kd.int .i64) (Kd.pair (Kd.slice e kAgg) (Kd.pair (Kd.int .i64) (Kd.pair (Kd.int .i64) (Kd.int .i64))))) (fun s => (s.at_, s.aggs, s.mark, s.late, s.over))
theorem kSave_K {e : Nat} {w : World} {x : Save} {cs : List Value} : (kSave e).K w x cs ↔ ∃ A c, cs = [.int .i64 x.at_, .slice A x.aggs.length c, .int .i64 x.mark, .int .i64 x.late, .int .i64 x.over] ∧ x.aggs.length ≤ c ∧ kAgg.C w A x.aggs.length x.aggs := by
  constructor
  · rintro ⟨c0, c1, rfl, h0, c2, c3, rfl, ⟨A, c, h1, h2, h3⟩, c4, c5, rfl, h4, c6, c7, rfl, h5, h6⟩
    rw [show c0 = _ from h0, h1, show c4 = _ from h4, show c6 = _ from h5, show c7 = _ from h6]
    exact ⟨A, c, rfl, h2, h3⟩
  · rintro ⟨A, c, rfl, h2, h3⟩
    exact ⟨_, _, rfl, rfl, _, _, rfl, ⟨A, c, rfl, h2, h3⟩, _, _, rfl, rfl, _, _, rfl, rfl, rfl⟩
theorem kSave_M {e : Nat} {w : World} {B : Nat} {ok : Nat → Prop} {x : Save} {cs : List Value} : (kSave e).M w B ok x cs ↔ ∃ v, cs = [.int .i64 x.at_, v, .int .i64 x.mark, .int .i64 x.late, .int .i64 x.over] ∧ kAgg.R e w B ok v x.aggs := by
  constructor
  · rintro ⟨c0, c1, rfl, h0, c2, c3, rfl, ⟨v, h1, h2⟩, c4, c5, rfl, h4, c6, c7, rfl, h5, h6⟩
    rw [show c0 = _ from h0, h1, show c4 = _ from h4, show c6 = _ from h5, show c7 = _ from h6]
    exact ⟨v, rfl, h2⟩
  · rintro ⟨v, rfl, h2⟩
    exact ⟨_, _, rfl, rfl, _, _, rfl, ⟨v, rfl, h2⟩, _, _, rfl, rfl, _, _, rfl, rfl, rfl⟩
theorem kSave_sz (e : Nat) : (kSave e).sz = 5 := rfl
/-- The cells of a save: the inner row's header as it is. -/
structure SaveC where
  at_ : Int
  A : Option Addr
  n : Nat
  c : Nat
  mark : Int
  late : Int
  over : Int
instance : Inhabited SaveC := ⟨⟨0, none, 0, 0, 0, 0, 0⟩⟩
def SaveC.v (y : SaveC) : Value := .slice y.A y.n y.c
def SaveC.enc (y : SaveC) : List Value := [.int .i64 y.at_, .slice y.A y.n y.c, .int .i64 y.mark, .int .i64 y.late, .int .i64 y.over]
def kSaveC : Kd SaveC := flat 5 SaveC.enc (fun _ => rfl) (fun x u hu => by simp only [SaveC.enc, List.mem_cons, List.not_mem_nil, or_false] at hu; rcases hu with rfl | rfl | rfl | rfl | rfl <;> rfl)
theorem kSaveC_flat : Flat kSaveC SaveC.enc := flat_flat
/-- One element: its cells, and its row in memory. -/
def Inn1 (e : Nat) (w : World) (ok : Nat → Prop) (y : SaveC) (x : Save) : Prop := y.at_ = x.at_ ∧ y.mark = x.mark ∧ y.late = x.late ∧ y.over = x.over ∧ kAgg.R e w 0 ok y.v x.aggs
def Inn (e : Nat) (w : World) (own : Nat → Prop) (v : Value) (f : Nat → Nat) (ys : List SaveC) (xs : List Save) : Prop :=
  ys.length = xs.length ∧ ∀ j y x, ys[j]? = some y → xs[j]? = some x → Inn1 e w (fun k => (own k ∧ some k ≠ v.ownBlock) ∧ f k = j) y x
theorem exists_list {α β : Type} : ∀ (xs : List α) (P : Nat → α → β → Prop), (∀ j x, xs[j]? = some x → ∃ y, P j x y) → ∃ ys : List β, ys.length = xs.length ∧ ∀ j x y, xs[j]? = some x → ys[j]? = some y → P j x y
  | [], _, _ => ⟨[], rfl, fun j x y h => by simp at h⟩
  | x :: xs, P, h => by
    obtain ⟨y, hy⟩ := h 0 x rfl
    obtain ⟨ys, hl, hys⟩ := exists_list xs (fun j => P (j + 1)) (fun j x hx => h (j + 1) x (by simpa using hx))
    refine ⟨y :: ys, by simp [hl], fun j a b ha hb => ?_⟩
    cases j with
    | zero => simp at ha hb; subst ha hb; exact hy
    | succ j => exact hys j a b (by simpa using ha) (by simpa using hb)
section
variable {e t B : Nat} {w w1 : World} {own : Nat → Prop} {v : Value} {xs : List Save} {ys : List SaveC} {f : Nat → Nat}
theorem slice_of_R {α : Type} {d : Kd α} {ok : Nat → Prop} {xs : List α} (h : d.R e w B ok v xs) : ∃ A n c, v = .slice A n c := by
  obtain ⟨A, c, h⟩ := Kd.R_slice h
  exact ⟨A, _, c, h⟩
theorem save_open (h : (kSave e).S t w B own v xs) : ∃ f ys, kSaveC.R t w 0 own v ys ∧ Inn e w own v f ys xs := by
  obtain ⟨f, hR⟩ := h
  replace hR := Kd.R_lower hR (Nat.zero_le B)
  obtain ⟨h0, inner, ho, hr⟩ := hR
  rw [List.length_zipIdx] at ho
  have hlen : inner.length = xs.length * 5 := by have := hr.1; rw [List.length_zipIdx] at this; exact this
  obtain ⟨ys, hys, hP⟩ := exists_list xs (fun j x (y : SaveC) => (inner.drop (j * 5)).take 5 = y.enc ∧ Inn1 e w (fun k => (own k ∧ some k ≠ v.ownBlock) ∧ f k = j) y x) (fun j x hx => by
    have h1 := hr.2 j (x, j) (Kd.zip_at hx)
    obtain ⟨u, h2, h3⟩ := kSave_M.1 h1
    obtain ⟨A, n, c, rfl⟩ := slice_of_R h3
    exact ⟨⟨x.at_, A, n, c, x.mark, x.late, x.over⟩, h2, rfl, rfl, rfl, rfl, h3⟩)
  refine ⟨f, ys, ⟨h0, inner, by rw [hys]; exact ho, by rw [hys]; exact hlen, fun j y hj => ?_⟩, hys, fun j y x hy hx => (hP j x y hx hy).2⟩
  obtain ⟨x, hx⟩ : ∃ x, xs[j]? = some x := elt (by rw [← hys]; exact (List.getElem?_eq_some_iff.1 hj).1)
  exact (hP j x y hx hj).1
theorem save_close (h : kSaveC.R t w 0 own v ys) (hi : Inn e w own v f ys xs) : (kSave e).S t w 0 own v xs := by
  obtain ⟨h0, inner, ho, hr⟩ := h
  refine ⟨f, h0, inner, by rw [List.length_zipIdx, ← hi.1]; exact ho, by rw [List.length_zipIdx, ← hi.1]; exact hr.1, fun j p hj => ?_⟩
  rw [List.getElem?_zipIdx, Nat.zero_add] at hj
  obtain ⟨x, hx, rfl⟩ := Option.map_eq_some_iff.1 hj
  obtain ⟨y, hy⟩ : ∃ y, ys[j]? = some y := elt (by rw [hi.1]; exact (List.getElem?_eq_some_iff.1 hx).1)
  obtain ⟨e1, e2, e3, e4, h1⟩ := hi.2 j y x hy hx
  refine kSave_M.2 ⟨y.v, ?_, h1⟩
  have h2 : (inner.drop (j * 5)).take 5 = y.enc := hr.2 j y hy
  have h3 : (inner.drop (j * (Kd.tag f (kSave e)).sz)).take (Kd.tag f (kSave e)).sz = (inner.drop (j * 5)).take 5 := rfl
  rw [h3, h2, SaveC.enc, e1, e2, e3, e4]
  rfl
theorem Inn1.step {ok ok' : Nat → Prop} {y : SaveC} {x : Save} (h : Inn1 e w ok y x) (hm : ∀ k, ok k → k < w.heap.size → w1.heap[k]? = w.heap[k]?) (hk : ∀ k, ok k → k < w.heap.size → ok' k) : Inn1 e w1 ok' y x :=
  ⟨h.1, h.2.1, h.2.2.1, h.2.2.2.1, Kd.R_mono (Kd.R_move (Kd.R_bound h.2.2.2.2) (fun k hk => hm k hk.1 hk.2.2.1)) (fun k hk2 => hk k hk2.1 hk2.2.2.1)⟩
theorem row_own {α : Type} {d : Kd α} {ok : Nat → Prop} {xs : List α} (h : d.R t w B ok v xs) : ∀ k, v.ownBlock = some k → ok k ∧ k < w.heap.size := fun k hk => ⟨h.1 k hk, Kd.R_lt h k hk⟩
end
end Go.Proofs.Ytengkenhmnpbeaa.C

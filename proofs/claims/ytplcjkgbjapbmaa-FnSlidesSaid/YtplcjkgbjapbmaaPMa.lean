import Derived.Test.YtplcjkgbjapbmaaUp
namespace Go.Proofs.Ytplcjkgbjapbmaa.C
open Go.RowKit Go.Proofs.YtplcjkgbjapbmaaW Go.Proofs.YtplcjkgbjapbmaaW.PrintWords Go.Proofs.Ytplcjkgbjapbmaa.U
set_option maxHeartbeats 1000000
set_option maxRecDepth 100000
set_option linter.unusedVariables false
set_option linter.unusedSimpArgs false
/-! Kinds of rows whose elements hold nothing that leads elsewhere. -/
def flat {α : Type} (n : Nat) (enc : α → List Value) (h : ∀ x, (enc x).length = n) (h1 : ∀ x, ∀ u ∈ enc x, u.oneCell' = true) : Kd α where
  sz := n
  E := []
  K := fun _ x cs => cs = enc x
  M := fun _ _ _ x cs => cs = enc x
  K_len := fun e => by rw [e]; exact h _
  K_one := fun e u hu => by rw [e] at hu; exact h1 _ u hu
  K_below := fun _ e => e
  K_of_M := fun e => e
  M_mono := fun _ e => e
  M_bound := fun e => e
  M_move := fun _ e => e
  M_lower := fun _ e => e
theorem flat_heap {α : Type} {n : Nat} {enc : α → List Value} {h : ∀ x, (enc x).length = n} {h1 : ∀ x, ∀ u ∈ enc x, u.oneCell' = true} : Kd.Heap (flat n enc h h1) := ⟨fun _ e => e⟩
theorem flat_at {α : Type} {n : Nat} {enc : α → List Value} {h : ∀ x, (enc x).length = n} {h1 : ∀ x, ∀ u ∈ enc x, u.oneCell' = true} {w : World} {A : Option Addr} {m : Nat} {xs : List α}
    (hC : Kd.C (flat n enc h h1) w A m xs) {k : Nat} {x : α} (hx : xs[k]? = some x) : ∃ ad, A = some ad ∧ ∀ j u, (enc x)[j]? = some u → w.cell? (ad.add (k * n + j)) = some u := by
  have hl : k < xs.length := (List.getElem?_eq_some_iff.1 hx).1
  obtain ⟨ad, e, hc⟩ := hC.2.2 (by have := hC.1; omega)
  obtain ⟨c, hs, hr, hcell⟩ := hc k _ hx
  have hr' : c = enc x := hr
  subst hr'
  exact ⟨ad, e, hcell⟩
theorem int_at {k : IntKind} {w : World} {A : Option Addr} {m : Nat} {xs : List Int} (hC : Kd.C (Kd.int k) w A m xs) {i : Nat} {x : Int} (hx : xs[i]? = some x) : ∃ ad, A = some ad ∧ w.cell? (ad.add i) = some (.int k x) := by
  have hl : i < xs.length := (List.getElem?_eq_some_iff.1 hx).1
  obtain ⟨ad, e, hc⟩ := hC.2.2 (by have := hC.1; omega)
  obtain ⟨c, hs, hr, hcell⟩ := hc i _ hx
  have hr' : c = [.int k x] := hr
  subst hr'
  have := hcell 0 _ rfl
  rw [show (Kd.int k).sz = 1 from rfl, Nat.mul_one, Nat.add_zero] at this
  exact ⟨ad, e, this⟩
theorem bool_at {w : World} {A : Option Addr} {m : Nat} {xs : List Bool} (hC : Kd.C Kd.bool w A m xs) {i : Nat} {x : Bool} (hx : xs[i]? = some x) : ∃ ad, A = some ad ∧ w.cell? (ad.add i) = some (.bool x) := by
  have hl : i < xs.length := (List.getElem?_eq_some_iff.1 hx).1
  obtain ⟨ad, e, hc⟩ := hC.2.2 (by have := hC.1; omega)
  obtain ⟨c, hs, hr, hcell⟩ := hc i _ hx
  have hr' : c = [.bool x] := hr
  subst hr'
  have := hcell 0 _ rfl
  rw [show Kd.bool.sz = 1 from rfl, Nat.mul_one, Nat.add_zero] at this
  exact ⟨ad, e, this⟩
/-- An element is there. -/
theorem el {α : Type} {l : List α} {k : Nat} (h : k < l.length) : ∃ x, Aside0 (l[k]? = some x) := ⟨l[k], ⟨List.getElem?_eq_getElem h⟩⟩
theorem el_lt {α : Type} {l : List α} {k : Nat} {x : α} (h : l[k]? = some x) : k < l.length := (List.getElem?_eq_some_iff.1 h).1
structure Agg where
  win : Int
  key : Int
  count : Int
  sum : Int
  min : Int
  max : Int
instance : Inhabited Agg := ⟨⟨0, 0, 0, 0, 0, 0⟩⟩
theorem Agg.ext' {a b : Agg} (h : a.win = b.win ∧ a.key = b.key ∧ a.count = b.count ∧ a.sum = b.sum ∧ a.min = b.min ∧ a.max = b.max) : a = b := by
  cases a; cases b; simp_all
instance : DecidableEq Agg := fun a b => decidable_of_iff (a.win = b.win ∧ a.key = b.key ∧ a.count = b.count ∧ a.sum = b.sum ∧ a.min = b.min ∧ a.max = b.max) ⟨Agg.ext', fun h => by subst h; simp⟩
def Agg.enc (x : Agg) : List Value := [.int .i64 x.win, .int .i64 x.key, .int .i64 x.count, .int .i64 x.sum, .int .i64 x.min, .int .i64 x.max]
def kAgg : Kd Agg := flat 6 Agg.enc (fun _ => rfl) (fun x u hu => by simp only [Agg.enc, List.mem_cons, List.not_mem_nil, or_false] at hu; rcases hu with rfl | rfl | rfl | rfl | rfl | rfl <;> rfl)
theorem kAgg_heap : Kd.Heap kAgg := flat_heap
theorem at_Agg {w : World} {A : Option Addr} {m : Nat} {xs : List Agg} (h : Kd.C kAgg w A m xs) {k : Nat} {x : Agg} (hx : xs[k]? = some x) : ∃ ad, A = some ad ∧ w.cell? (ad.add (k * 6)) = some (.int .i64 x.win) ∧ w.cell? ⟨(ad.add (k * 6)).block, (ad.add (k * 6)).off + 1, none⟩ = some (.int .i64 x.key) ∧ w.cell? ⟨(ad.add (k * 6)).block, (ad.add (k * 6)).off + 2, none⟩ = some (.int .i64 x.count) ∧ w.cell? ⟨(ad.add (k * 6)).block, (ad.add (k * 6)).off + 3, none⟩ = some (.int .i64 x.sum) ∧ w.cell? ⟨(ad.add (k * 6)).block, (ad.add (k * 6)).off + 4, none⟩ = some (.int .i64 x.min) ∧ w.cell? ⟨(ad.add (k * 6)).block, (ad.add (k * 6)).off + 5, none⟩ = some (.int .i64 x.max) := by
  obtain ⟨ad, e, hc⟩ := flat_at h hx
  exact ⟨ad, e, hc 0 _ rfl, by rw [← add_field _ _ 1 (by omega)]; exact hc 1 _ rfl, by rw [← add_field _ _ 2 (by omega)]; exact hc 2 _ rfl, by rw [← add_field _ _ 3 (by omega)]; exact hc 3 _ rfl, by rw [← add_field _ _ 4 (by omega)]; exact hc 4 _ rfl, by rw [← add_field _ _ 5 (by omega)]; exact hc 5 _ rfl⟩
theorem kAgg_cells {w : World} {ad : Addr} {m : Nat} {xs : List Agg} (h : Kd.C kAgg w (some ad) m xs) {k : Nat} {x : Agg} (hx : xs[k]? = some x) : w.cell? (ad.add (k * 6)) = some (.int .i64 x.win) ∧ w.cell? ⟨(ad.add (k * 6)).block, (ad.add (k * 6)).off + 1, none⟩ = some (.int .i64 x.key) ∧ w.cell? ⟨(ad.add (k * 6)).block, (ad.add (k * 6)).off + 2, none⟩ = some (.int .i64 x.count) ∧ w.cell? ⟨(ad.add (k * 6)).block, (ad.add (k * 6)).off + 3, none⟩ = some (.int .i64 x.sum) ∧ w.cell? ⟨(ad.add (k * 6)).block, (ad.add (k * 6)).off + 4, none⟩ = some (.int .i64 x.min) ∧ w.cell? ⟨(ad.add (k * 6)).block, (ad.add (k * 6)).off + 5, none⟩ = some (.int .i64 x.max) := by
  obtain ⟨ad', e, hc⟩ := at_Agg h hx
  cases e
  exact hc
structure Frame where
  kind : Int
  key : Int
  time : Int
  value : Int
instance : Inhabited Frame := ⟨⟨0, 0, 0, 0⟩⟩
theorem Frame.ext' {a b : Frame} (h : a.kind = b.kind ∧ a.key = b.key ∧ a.time = b.time ∧ a.value = b.value) : a = b := by
  cases a; cases b; simp_all
instance : DecidableEq Frame := fun a b => decidable_of_iff (a.kind = b.kind ∧ a.key = b.key ∧ a.time = b.time ∧ a.value = b.value) ⟨Frame.ext', fun h => by subst h; simp⟩
def Frame.enc (x : Frame) : List Value := [.int .i64 x.kind, .int .i64 x.key, .int .i64 x.time, .int .i64 x.value]
def kFrame : Kd Frame := flat 4 Frame.enc (fun _ => rfl) (fun x u hu => by simp only [Frame.enc, List.mem_cons, List.not_mem_nil, or_false] at hu; rcases hu with rfl | rfl | rfl | rfl <;> rfl)
theorem kFrame_heap : Kd.Heap kFrame := flat_heap
theorem at_Frame {w : World} {A : Option Addr} {m : Nat} {xs : List Frame} (h : Kd.C kFrame w A m xs) {k : Nat} {x : Frame} (hx : xs[k]? = some x) : ∃ ad, A = some ad ∧ w.cell? (ad.add (k * 4)) = some (.int .i64 x.kind) ∧ w.cell? ⟨(ad.add (k * 4)).block, (ad.add (k * 4)).off + 1, none⟩ = some (.int .i64 x.key) ∧ w.cell? ⟨(ad.add (k * 4)).block, (ad.add (k * 4)).off + 2, none⟩ = some (.int .i64 x.time) ∧ w.cell? ⟨(ad.add (k * 4)).block, (ad.add (k * 4)).off + 3, none⟩ = some (.int .i64 x.value) := by
  obtain ⟨ad, e, hc⟩ := flat_at h hx
  exact ⟨ad, e, hc 0 _ rfl, by rw [← add_field _ _ 1 (by omega)]; exact hc 1 _ rfl, by rw [← add_field _ _ 2 (by omega)]; exact hc 2 _ rfl, by rw [← add_field _ _ 3 (by omega)]; exact hc 3 _ rfl⟩
theorem kFrame_cells {w : World} {ad : Addr} {m : Nat} {xs : List Frame} (h : Kd.C kFrame w (some ad) m xs) {k : Nat} {x : Frame} (hx : xs[k]? = some x) : w.cell? (ad.add (k * 4)) = some (.int .i64 x.kind) ∧ w.cell? ⟨(ad.add (k * 4)).block, (ad.add (k * 4)).off + 1, none⟩ = some (.int .i64 x.key) ∧ w.cell? ⟨(ad.add (k * 4)).block, (ad.add (k * 4)).off + 2, none⟩ = some (.int .i64 x.time) ∧ w.cell? ⟨(ad.add (k * 4)).block, (ad.add (k * 4)).off + 3, none⟩ = some (.int .i64 x.value) := by
  obtain ⟨ad', e, hc⟩ := at_Frame h hx
  cases e
  exact hc
structure Slot where
  key : Int
  count : Int
instance : Inhabited Slot := ⟨⟨0, 0⟩⟩
theorem Slot.ext' {a b : Slot} (h : a.key = b.key ∧ a.count = b.count) : a = b := by
  cases a; cases b; simp_all
instance : DecidableEq Slot := fun a b => decidable_of_iff (a.key = b.key ∧ a.count = b.count) ⟨Slot.ext', fun h => by subst h; simp⟩
def Slot.enc (x : Slot) : List Value := [.int .i64 x.key, .int .i64 x.count]
def kSlot : Kd Slot := flat 2 Slot.enc (fun _ => rfl) (fun x u hu => by simp only [Slot.enc, List.mem_cons, List.not_mem_nil, or_false] at hu; rcases hu with rfl | rfl <;> rfl)
theorem kSlot_heap : Kd.Heap kSlot := flat_heap
theorem at_Slot {w : World} {A : Option Addr} {m : Nat} {xs : List Slot} (h : Kd.C kSlot w A m xs) {k : Nat} {x : Slot} (hx : xs[k]? = some x) : ∃ ad, A = some ad ∧ w.cell? (ad.add (k * 2)) = some (.int .i64 x.key) ∧ w.cell? ⟨(ad.add (k * 2)).block, (ad.add (k * 2)).off + 1, none⟩ = some (.int .i64 x.count) := by
  obtain ⟨ad, e, hc⟩ := flat_at h hx
  exact ⟨ad, e, hc 0 _ rfl, by rw [← add_field _ _ 1 (by omega)]; exact hc 1 _ rfl⟩
theorem kSlot_cells {w : World} {ad : Addr} {m : Nat} {xs : List Slot} (h : Kd.C kSlot w (some ad) m xs) {k : Nat} {x : Slot} (hx : xs[k]? = some x) : w.cell? (ad.add (k * 2)) = some (.int .i64 x.key) ∧ w.cell? ⟨(ad.add (k * 2)).block, (ad.add (k * 2)).off + 1, none⟩ = some (.int .i64 x.count) := by
  obtain ⟨ad', e, hc⟩ := at_Slot h hx
  cases e
  exact hc
structure Pair where
  key : Int
  lt : Int
  rt : Int
  left : Int
  right : Int
instance : Inhabited Pair := ⟨⟨0, 0, 0, 0, 0⟩⟩
theorem Pair.ext' {a b : Pair} (h : a.key = b.key ∧ a.lt = b.lt ∧ a.rt = b.rt ∧ a.left = b.left ∧ a.right = b.right) : a = b := by
  cases a; cases b; simp_all
instance : DecidableEq Pair := fun a b => decidable_of_iff (a.key = b.key ∧ a.lt = b.lt ∧ a.rt = b.rt ∧ a.left = b.left ∧ a.right = b.right) ⟨Pair.ext', fun h => by subst h; simp⟩
def Pair.enc (x : Pair) : List Value := [.int .i64 x.key, .int .i64 x.lt, .int .i64 x.rt, .int .i64 x.left, .int .i64 x.right]
def kPair : Kd Pair := flat 5 Pair.enc (fun _ => rfl) (fun x u hu => by simp only [Pair.enc, List.mem_cons, List.not_mem_nil, or_false] at hu; rcases hu with rfl | rfl | rfl | rfl | rfl <;> rfl)
theorem kPair_heap : Kd.Heap kPair := flat_heap
theorem at_Pair {w : World} {A : Option Addr} {m : Nat} {xs : List Pair} (h : Kd.C kPair w A m xs) {k : Nat} {x : Pair} (hx : xs[k]? = some x) : ∃ ad, A = some ad ∧ w.cell? (ad.add (k * 5)) = some (.int .i64 x.key) ∧ w.cell? ⟨(ad.add (k * 5)).block, (ad.add (k * 5)).off + 1, none⟩ = some (.int .i64 x.lt) ∧ w.cell? ⟨(ad.add (k * 5)).block, (ad.add (k * 5)).off + 2, none⟩ = some (.int .i64 x.rt) ∧ w.cell? ⟨(ad.add (k * 5)).block, (ad.add (k * 5)).off + 3, none⟩ = some (.int .i64 x.left) ∧ w.cell? ⟨(ad.add (k * 5)).block, (ad.add (k * 5)).off + 4, none⟩ = some (.int .i64 x.right) := by
  obtain ⟨ad, e, hc⟩ := flat_at h hx
  exact ⟨ad, e, hc 0 _ rfl, by rw [← add_field _ _ 1 (by omega)]; exact hc 1 _ rfl, by rw [← add_field _ _ 2 (by omega)]; exact hc 2 _ rfl, by rw [← add_field _ _ 3 (by omega)]; exact hc 3 _ rfl, by rw [← add_field _ _ 4 (by omega)]; exact hc 4 _ rfl⟩
theorem kPair_cells {w : World} {ad : Addr} {m : Nat} {xs : List Pair} (h : Kd.C kPair w (some ad) m xs) {k : Nat} {x : Pair} (hx : xs[k]? = some x) : w.cell? (ad.add (k * 5)) = some (.int .i64 x.key) ∧ w.cell? ⟨(ad.add (k * 5)).block, (ad.add (k * 5)).off + 1, none⟩ = some (.int .i64 x.lt) ∧ w.cell? ⟨(ad.add (k * 5)).block, (ad.add (k * 5)).off + 2, none⟩ = some (.int .i64 x.rt) ∧ w.cell? ⟨(ad.add (k * 5)).block, (ad.add (k * 5)).off + 3, none⟩ = some (.int .i64 x.left) ∧ w.cell? ⟨(ad.add (k * 5)).block, (ad.add (k * 5)).off + 4, none⟩ = some (.int .i64 x.right) := by
  obtain ⟨ad', e, hc⟩ := at_Pair h hx
  cases e
  exact hc
structure Session where
  key : Int
  frm : Int
  till : Int
  count : Int
  sum : Int
instance : Inhabited Session := ⟨⟨0, 0, 0, 0, 0⟩⟩
theorem Session.ext' {a b : Session} (h : a.key = b.key ∧ a.frm = b.frm ∧ a.till = b.till ∧ a.count = b.count ∧ a.sum = b.sum) : a = b := by
  cases a; cases b; simp_all
instance : DecidableEq Session := fun a b => decidable_of_iff (a.key = b.key ∧ a.frm = b.frm ∧ a.till = b.till ∧ a.count = b.count ∧ a.sum = b.sum) ⟨Session.ext', fun h => by subst h; simp⟩
def Session.enc (x : Session) : List Value := [.int .i64 x.key, .int .i64 x.frm, .int .i64 x.till, .int .i64 x.count, .int .i64 x.sum]
def kSession : Kd Session := flat 5 Session.enc (fun _ => rfl) (fun x u hu => by simp only [Session.enc, List.mem_cons, List.not_mem_nil, or_false] at hu; rcases hu with rfl | rfl | rfl | rfl | rfl <;> rfl)
theorem kSession_heap : Kd.Heap kSession := flat_heap
theorem at_Session {w : World} {A : Option Addr} {m : Nat} {xs : List Session} (h : Kd.C kSession w A m xs) {k : Nat} {x : Session} (hx : xs[k]? = some x) : ∃ ad, A = some ad ∧ w.cell? (ad.add (k * 5)) = some (.int .i64 x.key) ∧ w.cell? ⟨(ad.add (k * 5)).block, (ad.add (k * 5)).off + 1, none⟩ = some (.int .i64 x.frm) ∧ w.cell? ⟨(ad.add (k * 5)).block, (ad.add (k * 5)).off + 2, none⟩ = some (.int .i64 x.till) ∧ w.cell? ⟨(ad.add (k * 5)).block, (ad.add (k * 5)).off + 3, none⟩ = some (.int .i64 x.count) ∧ w.cell? ⟨(ad.add (k * 5)).block, (ad.add (k * 5)).off + 4, none⟩ = some (.int .i64 x.sum) := by
  obtain ⟨ad, e, hc⟩ := flat_at h hx
  exact ⟨ad, e, hc 0 _ rfl, by rw [← add_field _ _ 1 (by omega)]; exact hc 1 _ rfl, by rw [← add_field _ _ 2 (by omega)]; exact hc 2 _ rfl, by rw [← add_field _ _ 3 (by omega)]; exact hc 3 _ rfl, by rw [← add_field _ _ 4 (by omega)]; exact hc 4 _ rfl⟩
theorem kSession_cells {w : World} {ad : Addr} {m : Nat} {xs : List Session} (h : Kd.C kSession w (some ad) m xs) {k : Nat} {x : Session} (hx : xs[k]? = some x) : w.cell? (ad.add (k * 5)) = some (.int .i64 x.key) ∧ w.cell? ⟨(ad.add (k * 5)).block, (ad.add (k * 5)).off + 1, none⟩ = some (.int .i64 x.frm) ∧ w.cell? ⟨(ad.add (k * 5)).block, (ad.add (k * 5)).off + 2, none⟩ = some (.int .i64 x.till) ∧ w.cell? ⟨(ad.add (k * 5)).block, (ad.add (k * 5)).off + 3, none⟩ = some (.int .i64 x.count) ∧ w.cell? ⟨(ad.add (k * 5)).block, (ad.add (k * 5)).off + 4, none⟩ = some (.int .i64 x.sum) := by
  obtain ⟨ad', e, hc⟩ := at_Session h hx
  cases e
  exact hc
/-! An abstract machine over the model: frames and memory told by what they hold, blocks under names; one walk of a region in the text's order serves every order. -/
/-- A value of one cell, blocks under names. -/
inductive SV where
  | c (v : Value)
  | i (id : Nat)
  | p (id off : Nat)
  | e (id sz ix off : Nat)
  | s (id sz lo n : Nat)
  | f (fn : Fn) (l : List Nat)
inductive TV where
  | o (s : SV)
  | a (l : List SV)
inductive AV where
  | o (s : SV)
  | a (l : List SV)
  | t (l : List TV)
  | x
abbrev Mu := Nat → Option Value
def SV.con (μ : Mu) : SV → Value → Prop
  | .c u, v => v = u
  | .i id, v => μ id = some v ∧ v.oneCell' = true
  | .p id off, v => ∃ g, μ id = some (.pointer (some ⟨g, 0, none⟩)) ∧ v = .pointer (some ⟨g, off, none⟩)
  | .e id sz ix off, v => ∃ A n c, μ id = some (.slice (some A) n c) ∧ v = .pointer (some ⟨(A.add (ix * sz)).block, (A.add (ix * sz)).off + off, none⟩)
  | .f fn l, v => ∃ vs : List Value, l.map μ = vs.map some ∧ v = .func fn #[] vs.toArray
  | .s id sz lo n, v => ∃ A N c, μ id = some (.slice A N c) ∧ lo + n ≤ c ∧ ∃ A', v = .slice A' n (c - lo) ∧ (lo = 0 ∨ lo < c → A' = A.map (·.add (lo * sz)))
def conL (μ : Mu) : List SV → List Value → Prop
  | [], [] => True
  | s :: l, v :: vs => s.con μ v ∧ conL μ l vs
  | _, _ => False
def TV.con (μ : Mu) : TV → Value → Prop
  | .o s, v => s.con μ v
  | .a l, v => ∃ vs : List Value, v = .agg vs.toArray ∧ conL μ l vs
def conT (μ : Mu) : List TV → List Value → Prop
  | [], [] => True
  | s :: l, v :: vs => s.con μ v ∧ conT μ l vs
  | _, _ => False
def AV.con (μ : Mu) : AV → Value → Prop
  | .o s, v => s.con μ v
  | .a l, v => ∃ vs : List Value, v = .agg vs.toArray ∧ conL μ l vs
  | .t l, v => ∃ vs : List Value, v = .tuple vs.toArray ∧ conT μ l vs
  | .x, _ => True
abbrev Om := Nat → Nat → Prop
/-- W0, S: the world at the call and the old blocks that may be written. -/
structure Cx where
  w0 : World
  S : Nat → Prop
  A : List (Nat × Value × (Nat → Prop))
/-- All but the blocks of S (and new ones) is as it was. -/
structure Kp (w W : World) (S : Nat → Prop) : Prop where
  os : W.os = w.os
  tape : W.tape = w.tape
  output : W.output = w.output
  kept : Kept w W S
theorem Kp.refl (w : World) (S : Nat → Prop) : Kp w w S := ⟨rfl, rfl, rfl, Kept.refl _ _⟩
theorem Kp.size {w W : World} {S : Nat → Prop} (h : Kp w W S) : w.heap.size ≤ W.heap.size := h.kept.1
theorem Kp.mono {w W : World} {S T : Nat → Prop} (h : Kp w W S) (hs : ∀ k, S k → T k) : Kp w W T := ⟨h.os, h.tape, h.output, h.kept.mono hs⟩
theorem Kp.then_ {w W W2 : World} {S T : Nat → Prop} (h : Kp w W S) (k : Kp W W2 T) (hs : ∀ k, T k → S k ∨ w.heap.size ≤ k) : Kp w W2 S :=
  ⟨k.os.trans h.os, k.tape.trans h.tape, k.output.trans h.output, h.kept.then_ k.kept hs⟩
theorem Kp.of_below {w W : World} (h : Below w.heap.size w W) (S : Nat → Prop) : Kp w W S := ⟨h.os, h.tape, h.output, Kept.of_below h S⟩
theorem Kp.of_grown {w W : World} {row : Option Nat} (h : w.grownBy W row) : Kp w W (fun k => row = some k) :=
  ⟨h.os, h.tape, h.output, h.size, fun i hi hn => h.block i hi (fun e => hn e.symm)⟩
theorem Kp.to_below {w W : World} {S : Nat → Prop} (h : Kp w W S) (hs : ∀ k, ¬ S k) : Below w.heap.size w W := ⟨h.os, h.tape, h.output, h.kept.1, fun k hk => h.kept.2 k hk (hs k)⟩
theorem Kp.alloc (w : World) (o : Obj) : Kp w (w.alloc o) (fun _ => False) := Kp.of_below (below_alloc (Below.refl _ _) _) _
theorem Kp.drew (w : World) : Kp w w.drew (fun _ => False) := Kp.of_below (below_drew (Below.refl _ _)) _
theorem Kp.set (w : World) (p : Addr) (u : Value) : Kp w (w.setCell p u) (fun k => k = p.block) := ⟨rfl, rfl, rfl, by simp [World.setCell], fun i _ hn => Below.heap_setCell w p u i hn⟩
/-- What a name stands for in memory. -/
inductive AObj : Type 1 where
  | box (t : Nat) (cs : List SV)
  | row {α : Type} (d : Kd α) (t : Nat) (xs : List α)
  | ro {α : Type} (d : Kd α) (xs : List α)
  | raw (e sz n cap : Nat) (vs : List Value)
  | gen (Φ : World → Value → (Nat → Prop) → Prop) (st : ∀ {w w1 : World} {T own : Nat → Prop} {v : Value}, Kp w w1 T → (∀ k, own k → ¬ T k) → Φ w v own → Φ w1 v own)
def AObj.holds (X : Cx) (w : World) (μ : Mu) (v : Value) (own : Nat → Prop) : AObj → Prop
  | .box t cs => ∃ g vs, v = .pointer (some ⟨g, 0, none⟩) ∧ (∀ k, own k ↔ k = g) ∧ w.heap[g]? = some (.cells vs t (0, 0)) ∧ conL μ cs vs.toList ∧ ∀ u ∈ vs.toList, u.oneCell' = true
  | .row d t xs => ∃ B, d.S t w B own v xs
  | .ro d xs => (∀ k, ¬ own k) ∧ (∃ A c, v = .slice A xs.length c ∧ xs.length ≤ c ∧ ∀ W, Kp X.w0 W X.S → d.C W A xs.length xs)
  | .gen Φ _ => Φ w v own
  | .raw e sz n cap vs => ∃ g, v = .slice (some ⟨g, 0, none⟩) n cap ∧ own g ∧ w.heap[g]? = some (.cells vs.toArray e (0, 0)) ∧ vs.length = cap * sz ∧ n ≤ cap ∧ cap ≤ maxLen
structure St where
  F : Nat → Option AV
  H : Nat → Option AObj
  D : Nat → Bool
  n : Nat
structure Sat (X : Cx) (σ : St) (μ : Mu) (ω : Om) (a : Act) (w : World) : Prop where
  kept : Kp X.w0 w X.S
  size : a.tmps.size = σ.n
  defers : a.defers = []
  slot : ∀ t av, σ.F t = some av → ∃ v, a.tmps[t]? = some v ∧ av.con μ v
  made : ∀ id, σ.D id = false → μ id = none
  obj : ∀ id o, σ.H id = some o → ∃ v, μ id = some v ∧ o.holds X w μ v (ω id)
  own : ∀ id o, σ.H id = some o → ∀ k, ω id k → (X.S k ∨ X.w0.heap.size ≤ k) ∧ k < w.heap.size
  sep : ∀ i j oi oj, σ.H i = some oi → σ.H j = some oj → i ≠ j → ∀ k, ω i k → ¬ ω j k
  anc : ∀ q ∈ X.A, μ q.1 = some q.2.1 ∧ ω q.1 = q.2.2
def upd {α : Type _} (f : Nat → α) (k : Nat) (v : α) : Nat → α := fun j => bif Nat.beq j k then v else f j
theorem upd_same {α : Type _} (f : Nat → α) (k : Nat) (v : α) : upd f k v k = v := by simp [upd]
theorem upd_ne {α : Type _} (f : Nat → α) {k j : Nat} (h : j ≠ k) (v : α) : upd f k v j = f j := by
  have : Nat.beq j k = false := by rw [← Bool.not_eq_true, Nat.beq_eq]; exact h
  simp [upd, this]
theorem upd_comm {α : Type _} (f : Nat → α) {k j : Nat} (h : j ≠ k) (v u : α) : upd (upd f k v) j u = upd (upd f j u) k v := by
  funext i
  by_cases h1 : i = k
  · subst h1
    rw [upd_ne _ (fun e => h e.symm), upd_same, upd_same]
  · by_cases h2 : i = j
    · subst h2
      rw [upd_same, upd_ne _ h1, upd_same]
    · rw [upd_ne _ h2, upd_ne _ h1, upd_ne _ h1, upd_ne _ h2]
def updL {α : Type _} (f : Nat → α) : List (Nat × α) → Nat → α
  | [] => f
  | (k, v) :: l => updL (upd f k v) l
theorem updL_ne {α : Type _} : ∀ (l : List (Nat × α)) (f : Nat → α) {j : Nat}, j ∉ l.map (·.1) → updL f l j = f j
  | [], _, _, _ => rfl
  | (k, v) :: l, f, j, h => by
    simp only [List.map_cons, List.mem_cons, not_or] at h
    rw [updL, updL_ne l _ h.2, upd_ne _ h.1]
theorem updL_upd {α : Type _} : ∀ (l : List (Nat × α)) (f : Nat → α) {k : Nat} (v : α), k ∉ l.map (·.1) → updL (upd f k v) l = upd (updL f l) k v
  | [], _, _, _, _ => rfl
  | (j, u) :: l, f, k, v, h => by
    simp only [List.map_cons, List.mem_cons, not_or] at h
    rw [updL, updL, ← updL_upd l _ v h.2, upd_comm _ (fun e => h.1 e.symm)]
theorem updL_comm {α : Type _} : ∀ (l m : List (Nat × α)) (f : Nat → α), (∀ k, k ∈ l.map (·.1) → k ∉ m.map (·.1)) → updL (updL f l) m = updL (updL f m) l
  | [], _, _, _ => rfl
  | (k, v) :: l, m, f, h => by
    rw [updL, updL, updL_comm l m _ (fun j hj => h j (List.mem_cons_of_mem _ hj)), updL_upd m f v (h k List.mem_cons_self)]
/-- What one operation does. -/
structure Eff where
  av : AV
  hu : List (Nat × Option AObj)
  nw : List (Nat × Bool)
def St.put (σ : St) (dst : Option Nat) (av : AV) : Nat → Option AV := match dst with | some d => upd σ.F d (some av) | none => σ.F
def St.app (σ : St) (dst : Option Nat) (e : Eff) : St := { F := σ.put dst e.av, H := updL σ.H e.hu, D := updL σ.D e.nw, n := σ.n }
section
variable (P : Program) (X : Cx) (ops : Array Oper)
def Tri (o : Oper) (σ : St) (e : Eff) : Prop :=
  ∀ μ ω a w, Sat X σ μ ω a w → ∀ (K : Act → World → Prop) (Q : Exit → Act → World → Prop), (∀ μ' ω' a' w', Sat X (σ.app o.dst e) μ' ω' a' w' → K a' w') →
    if Region.wanted o (yielded ops a.tmps) then o.wp P a w K Q else K (a.put o.dst undef) w
/-- What an operation looks at. -/
structure Pre where
  pf : List (Nat × AV)
  ph : List (Nat × AObj)
def Pre.fits (p : Pre) (σ : St) (e : Eff) : Prop := (∀ q ∈ p.pf, σ.F q.1 = some q.2) ∧ (∀ q ∈ p.ph, σ.H q.1 = some q.2) ∧ (∀ q ∈ e.nw, σ.D q.1 = false)
def Cert (n : Nat) (o : Oper) (p : Pre) (e : Eff) : Prop := ∀ σ : St, σ.n = n → p.fits σ e → Tri P X ops o σ e
/-- The operations in the order of the text, each with what it looks at and what it does. -/
inductive Lex : List Oper → St → List (Pre × Eff) → St → Prop
  | nil {σ : St} : Lex [] σ [] σ
  | cons {o : Oper} {l : List Oper} {σ σ' : St} {p : Pre} {e : Eff} {C : List (Pre × Eff)} (hc : Cert P X ops σ.n o p e) (hf : p.fits σ e) (h : Lex l (σ.app o.dst e) C σ') : Lex (o :: l) σ ((p, e) :: C) σ'
/-- The same, what comes behind told ahead. -/
def LX (l : List Oper) (σ : St) (K : List (Pre × Eff) → St → Prop) : Prop := ∃ C σ', Lex P X ops l σ C σ' ∧ K C σ'
end
section
variable {P : Program} {X : Cx} {ops : Array Oper} {Q : Exit → Act → World → Prop}
theorem LX.nil {σ : St} {K : List (Pre × Eff) → St → Prop} (h : K [] σ) : LX P X ops [] σ K := ⟨[], σ, .nil, h⟩
theorem Lex.list {l : List Oper} {σ σ' : St} {C : List (Pre × Eff)} (h : Lex P X ops l σ C σ') : ∀ {μ : Mu} {ω : Om} {a : Act} {w : World}, Sat X σ μ ω a w → (∀ μ' ω' a' w', Sat X σ' μ' ω' a' w' → Q .normal a' w') → wpList P ops Q l a w := by
  induction h with
  | nil => intro μ ω a w hs hq; exact hq _ _ _ _ hs
  | cons hc hf _ ih => intro μ ω a w hs hq; exact wpList_step (fun K hK => hc _ rfl hf _ _ _ _ hs K Q (fun μ' ω' a' w' hs' => hK _ _ (ih hs' hq)))
/-! ### Any order -/
def ids {α : Type _} (l : List (Nat × α)) : List Nat := l.map (·.1)
def apartK (oi oj : Oper) (ci cj : Pre × Eff) : Bool :=
  (match oi.dst with | some d => !(ids cj.1.pf).contains d && oj.dst != some d | none => true) &&
  (match oj.dst with | some d => !(ids ci.1.pf).contains d | none => true) &&
  (ids ci.2.hu).all (fun k => !(ids cj.1.ph).contains k && !(ids cj.2.hu).contains k) && (ids cj.2.hu).all (fun k => !(ids ci.1.ph).contains k) &&
  (ids ci.2.nw).all (fun k => !(ids cj.2.nw).contains k)
theorem put_ne (σ : St) (dst : Option Nat) (av : AV) {k : Nat} (h : ∀ d, dst = some d → k ≠ d) : σ.put dst av k = σ.F k := by
  cases dst with
  | none => rfl
  | some d => exact upd_ne _ (h d rfl) _
structure Apart (oi oj : Oper) (ci cj : Pre × Eff) : Prop where
  a : ∀ d, oi.dst = some d → d ∉ ids cj.1.pf
  b : ∀ d, oi.dst = some d → oj.dst ≠ some d
  c : ∀ d, oj.dst = some d → d ∉ ids ci.1.pf
  h1 : ∀ k, k ∈ ids ci.2.hu → k ∉ ids cj.1.ph
  h2 : ∀ k, k ∈ ids ci.2.hu → k ∉ ids cj.2.hu
  h3 : ∀ k, k ∈ ids cj.2.hu → k ∉ ids ci.1.ph
  n : ∀ k, k ∈ ids ci.2.nw → k ∉ ids cj.2.nw
theorem apart_of {oi oj : Oper} {ci cj : Pre × Eff} (h : apartK oi oj ci cj = true) : Apart oi oj ci cj := by
  simp only [apartK, Bool.and_eq_true, List.all_eq_true] at h
  obtain ⟨⟨⟨⟨h1, h2⟩, h3⟩, h4⟩, h5⟩ := h
  refine ⟨fun d hd => ?_, fun d hd => ?_, fun d hd => ?_, fun k hk => ?_, fun k hk => ?_, fun k hk => ?_, fun k hk => ?_⟩
  · rw [hd] at h1; simp at h1; simpa using h1.1
  · rw [hd] at h1; simp at h1; simpa using h1.2
  · rw [hd] at h2; simpa using h2
  · have := h3 k hk; simp at this; simpa using this.1
  · have := h3 k hk; simp at this; simpa using this.2
  · have := h4 k hk; simpa using this
  · have := h5 k hk; simpa using this
theorem Apart.fits_back {oi oj : Oper} {ci cj : Pre × Eff} (h : Apart oi oj ci cj) {σ : St} (hf : cj.1.fits (σ.app oi.dst ci.2) cj.2) : cj.1.fits σ cj.2 := by
  obtain ⟨f1, f2, f3⟩ := hf
  refine ⟨fun q hq => ?_, fun q hq => ?_, fun q hq => ?_⟩
  · rw [← f1 q hq]
    exact (put_ne σ oi.dst ci.2.av (fun d hd e => h.a d hd (e ▸ List.mem_map_of_mem hq))).symm
  · rw [← f2 q hq]
    exact (updL_ne ci.2.hu σ.H (fun hk => h.h1 _ hk (List.mem_map_of_mem hq))).symm
  · rw [← f3 q hq]
    exact (updL_ne ci.2.nw σ.D (fun hk => h.n _ hk (List.mem_map_of_mem hq))).symm
theorem Apart.fits_on {oi oj : Oper} {ci cj : Pre × Eff} (h : Apart oi oj ci cj) {σ : St} (hf : ci.1.fits σ ci.2) : ci.1.fits (σ.app oj.dst cj.2) ci.2 := by
  obtain ⟨f1, f2, f3⟩ := hf
  refine ⟨fun q hq => ?_, fun q hq => ?_, fun q hq => ?_⟩
  · rw [← f1 q hq]
    exact put_ne σ oj.dst cj.2.av (fun d hd e => h.c d hd (e ▸ List.mem_map_of_mem hq))
  · rw [← f2 q hq]
    exact updL_ne cj.2.hu σ.H (fun hk => h.h3 _ hk (List.mem_map_of_mem hq))
  · rw [← f3 q hq]
    exact updL_ne cj.2.nw σ.D (fun hk => h.n _ (List.mem_map_of_mem hq) hk)
theorem Apart.comm {oi oj : Oper} {ci cj : Pre × Eff} (h : Apart oi oj ci cj) (σ : St) : (σ.app oj.dst cj.2).app oi.dst ci.2 = (σ.app oi.dst ci.2).app oj.dst cj.2 := by
  have e1 : St.put (σ.app oj.dst cj.2) oi.dst ci.2.av = St.put (σ.app oi.dst ci.2) oj.dst cj.2.av := by
    unfold St.put St.app St.put
    cases hi : oi.dst with
    | none => rfl
    | some d =>
      cases hj : oj.dst with
      | none => rfl
      | some d' => exact upd_comm _ (fun e => h.b d hi (by rw [hj, e])) _ _
  have e2 : updL (updL σ.H cj.2.hu) ci.2.hu = updL (updL σ.H ci.2.hu) cj.2.hu := (updL_comm ci.2.hu cj.2.hu σ.H h.h2).symm
  have e3 : updL (updL σ.D cj.2.nw) ci.2.nw = updL (updL σ.D ci.2.nw) cj.2.nw := (updL_comm ci.2.nw cj.2.nw σ.D h.n).symm
  have e1' := e1
  unfold St.app at *
  simp only [e1', e2, e3]
def AAny (md : Region.Mode) (ops : Array Oper) (C : List (Pre × Eff)) (Q : St → Prop) : Nat → Array Bool → St → Prop
  | 0, listed, σ => Region.ready md ops listed = [] ∧ Q σ
  | fuel + 1, listed, σ => (Region.ready md ops listed = [] → Q σ) ∧ ∀ i ∈ Region.ready md ops listed, ∃ o c, ops[i]? = some o ∧ C[i]? = some c ∧ c.1.fits σ c.2 ∧ AAny md ops C Q fuel (listed.setIfInBounds i true) (σ.app o.dst c.2)
theorem AAny.sound {md : Region.Mode} {C : List (Pre × Eff)} {Qs : St → Prop} {n : Nat} (hC : ∀ (i : Nat) o (c : Pre × Eff), ops[i]? = some o → C[i]? = some c → Cert P X ops n o c.1 c.2) (hQ : ∀ σ μ ω a w, Qs σ → Sat X σ μ ω a w → Q .normal a w) :
    ∀ (fuel : Nat) (listed : Array Bool) (σ : St), σ.n = n → AAny md ops C Qs fuel listed σ → ∀ μ ω a w, Sat X σ μ ω a w → wpAny P md ops Q fuel listed a w
  | 0, _, _, _, h, _, _, _, _, hs => ⟨h.1, hQ _ _ _ _ _ h.2 hs⟩
  | fuel + 1, listed, σ, hn, h, μ, ω, a, w, hs => ⟨fun h0 => hQ _ _ _ _ _ (h.1 h0) hs, fun i hi => by
      obtain ⟨o, c, ho, hc, hf, hr⟩ := h.2 i hi
      have ht := hC i o c ho hc σ hn hf μ ω a w hs (wpAny P md ops Q fuel (listed.setIfInBounds i true)) Q (fun μ' ω' a' w' hs' => AAny.sound hC hQ fuel _ (σ.app o.dst c.2) hn hr μ' ω' a' w' hs')
      unfold wpOp
      simp only [ho]
      split
      · rename_i hw; rw [if_pos hw] at ht; exact .inl ht
      · rename_i hw; rw [if_neg hw] at ht; exact ht⟩
/-- Operation j waits for i, by way of others too. -/
def depB (md : Region.Mode) (ops : Array Oper) : Nat → Nat → Nat → Bool
  | 0, _, _ => false
  | n + 1, j, i => match ops[j]? with
    | some oj => oj.after.any (fun e => Region.binds md e && (Nat.beq e.on i || depB md ops n e.on i))
    | none => false
/-- What is listed has all listed that it waits for. -/
def Shut (md : Region.Mode) (ops : Array Oper) (listed : Array Bool) : Prop := ∀ j oj, ops[j]? = some oj → listed.getD j true = true → ∀ e ∈ oj.after, Region.binds md e = true → listed.getD e.on true = true
theorem Shut.dep {md : Region.Mode} {listed : Array Bool} (h : Shut md ops listed) {i : Nat} : ∀ {n j : Nat} {oj : Oper}, ops[j]? = some oj → (∀ e ∈ oj.after, Region.binds md e = true → listed.getD e.on true = true) → depB md ops n j i = true → listed.getD i true = true
  | 0, j, oj, _, _, hd => by cases hd
  | n + 1, j, oj, hj, ha, hd => by
    unfold depB at hd
    rw [hj] at hd
    simp only at hd
    rw [Array.any_eq_true'] at hd
    obtain ⟨e, he, hb⟩ := hd
    rw [Bool.and_eq_true, Bool.or_eq_true] at hb
    have hl := ha e he hb.1
    rcases hb.2 with h1 | h1
    · rw [← Nat.eq_of_beq_eq_true h1]; exact hl
    · cases hoe : ops[e.on]? with
      | none =>
        cases n with
        | zero => cases h1
        | succ n => unfold depB at h1; rw [hoe] at h1; cases h1
      | some oe => exact h.dep hoe (h e.on oe hoe hl) h1
theorem ready_all {md : Region.Mode} {listed : Array Bool} {j : Nat} {oj : Oper} (hj : j ∈ Region.ready md ops listed) (hoj : ops[j]? = some oj) : ∀ e ∈ oj.after, Region.binds md e = true → listed.getD e.on true = true := fun e he hb => by
  obtain ⟨_, oj', hoj', hall⟩ := mem_ready.1 hj
  rw [hoj] at hoj'
  cases hoj'
  have h1 := hall e he hb
  rcases Nat.lt_or_ge e.on listed.size with h' | h'
  · simp [h'] at h1 ⊢; exact h1
  · simp [Array.getElem?_eq_none h']
theorem Shut.set {md : Region.Mode} {listed : Array Bool} (h : Shut md ops listed) {i : Nat} (hi : i ∈ Region.ready md ops listed) : Shut md ops (listed.setIfInBounds i true) := fun j oj hj hl e he hb => by
  by_cases hij : i = j
  · subst hij
    have h1 := ready_all hi hj e he hb
    by_cases hie : i = e.on
    · rw [← hie] at h1
      have := (mem_ready.1 hi).1
      rw [h1] at this
      cases this
    · rw [getD_set_ne true hie]; exact h1
  · rw [getD_set_ne true hij] at hl
    have h1 := h j oj hj hl e he hb
    by_cases hie : i = e.on
    · rw [← hie] at h1
      have := (mem_ready.1 hi).1
      rw [h1] at this
      cases this
    · rw [getD_set_ne true hie]; exact h1
theorem AAny.first {md : Region.Mode} {C : List (Pre × Eff)} {Qs : St → Prop} {i : Nat} {oi : Oper} {ci : Pre × Eff} (hi : ops[i]? = some oi) (hci : C[i]? = some ci) :
    ∀ (fuel : Nat) (listed : Array Bool) (σ : St), Shut md ops listed →
      (∀ j oj cj, ops[j]? = some oj → C[j]? = some cj → j ≠ i → listed.getD j true = false → depB md ops 8 j i = false → Apart oi oj ci cj) →
      i ∈ Region.ready md ops listed → ci.1.fits σ ci.2 → AAny md ops C Qs fuel (listed.setIfInBounds i true) (σ.app oi.dst ci.2) → AAny md ops C Qs (fuel + 1) listed σ := by
  intro fuel
  induction fuel with
  | zero =>
    intro listed σ _ _ hr hy H
    refine ⟨fun h => (by rw [h] at hr; cases hr), fun j hj => ?_⟩
    by_cases hji : j = i
    · subst hji; exact ⟨oi, ci, hi, hci, hy, H⟩
    · have := ready_mono hj hji
      rw [H.1] at this
      cases this
  | succ fuel ih =>
    intro listed σ hshut hfree hr hy H
    refine ⟨fun h => (by rw [h] at hr; cases hr), fun j hj => ?_⟩
    by_cases hji : j = i
    · subst hji; exact ⟨oi, ci, hi, hci, hy, H⟩
    · obtain ⟨oj, cj, hoj, hcj, hfj, hrest⟩ := H.2 j (ready_mono hj hji)
      obtain ⟨hjun, oj', hoj', hall⟩ := mem_ready.1 hj
      rw [hoj] at hoj'
      cases hoj'
      have hnot : depB md ops 8 j i = false := by
        cases hd : depB md ops 8 j i with
        | false => rfl
        | true =>
          have h1 := hshut.dep hoj (ready_all hj hoj) hd
          have h0 := (mem_ready.1 hr).1
          rw [h1] at h0
          cases h0
      have hap := hfree j oj cj hoj hcj hji hjun hnot
      have hfree' : ∀ k ok ck, ops[k]? = some ok → C[k]? = some ck → k ≠ i → (listed.setIfInBounds j true).getD k true = false →
          depB md ops 8 k i = false → Apart oi ok ci ck := fun k ok ck hk hck hki hun hno => by
        refine hfree k ok ck hk hck hki ?_ hno
        by_cases hjk : j = k
        · subst hjk; exact hjun
        · rw [getD_set_ne true hjk] at hun; exact hun
      refine ⟨oj, cj, hoj, hcj, hap.fits_back hfj, ih (listed.setIfInBounds j true) _ (hshut.set hj) hfree' (ready_mono hr (Ne.symm hji)) (hap.fits_on hy) ?_⟩
      rw [Array.setIfInBounds_comm _ _ hji, hap.comm]
      exact hrest
def freeC (md : Region.Mode) (ops : Array Oper) (C : List (Pre × Eff)) (listed : Array Bool) (i : Nat) : Bool :=
  match ops[i]?, C[i]? with
  | some oi, some ci => (List.range ops.size).all fun j => listed.getD j true || Nat.beq j i || (match ops[j]?, C[j]? with | some oj, some cj => apartK oi oj ci cj || depB md ops 8 j i | _, _ => false)
  | _, _ => false
def lexFromC (md : Region.Mode) (ops : Array Oper) (C : List (Pre × Eff)) : Nat → Nat → Array Bool → Bool
  | 0, _, listed => (Region.ready md ops listed).isEmpty
  | fuel + 1, k, listed => (Region.ready md ops listed).contains k && freeC md ops C listed k && lexFromC md ops C fuel (k + 1) (listed.setIfInBounds k true)
theorem freeC_spec {md : Region.Mode} {C : List (Pre × Eff)} {listed : Array Bool} {i : Nat} {oi : Oper} {ci : Pre × Eff} (hi : ops[i]? = some oi) (hci : C[i]? = some ci) (h : freeC md ops C listed i = true) :
    ∀ j oj cj, ops[j]? = some oj → C[j]? = some cj → j ≠ i → listed.getD j true = false → depB md ops 8 j i = false → Apart oi oj ci cj := by
  intro j oj cj hj hcj hji hun hno
  simp only [freeC, hi, hci, List.all_eq_true, List.mem_range] at h
  have hlt : j < ops.size := by
    rcases Nat.lt_or_ge j ops.size with h' | h'
    · exact h'
    · rw [Array.getElem?_eq_none h'] at hj; cases hj
  have := h j hlt
  rw [hun, hj, hcj] at this
  simp only [Bool.false_or, Bool.or_eq_true] at this
  rcases this with h1 | h1 | h1
  · exact absurd (Nat.eq_of_beq_eq_true h1) hji
  · exact apart_of h1
  · rw [hno] at h1; cases h1
theorem Lex.aany {md : Region.Mode} {C : List (Pre × Eff)} {l : List Oper} {σ σ' : St} {D : List (Pre × Eff)} (h : Lex P X ops l σ D σ') : ∀ (k : Nat) (listed : Array Bool), Shut md ops listed → (∀ j, l[j]? = ops[k + j]?) → (∀ j, D[j]? = C[k + j]?) → lexFromC md ops C l.length k listed = true → AAny md ops C (fun s => s = σ') l.length listed σ := by
  induction h with
  | nil => intro k listed _ _ _ hB; exact ⟨by simpa [lexFromC] using hB, rfl⟩
  | @cons o l σ σ' p e D hc hf _ ih =>
    intro k listed hsh hl hD hB
    have h0 : ops[k]? = some o := by simpa using (hl 0).symm
    have h1 : C[k]? = some (p, e) := by simpa using (hD 0).symm
    simp only [List.length_cons, lexFromC, Bool.and_eq_true] at hB
    obtain ⟨⟨hr, hfr⟩, hB'⟩ := hB
    exact AAny.first h0 h1 l.length listed σ hsh (freeC_spec h0 h1 hfr) (by simpa using hr) hf (ih (k + 1) _ (hsh.set (by simpa using hr)) (fun j => by have := hl (j + 1); simpa [Nat.add_assoc, Nat.add_comm 1 j] using this) (fun j => by have := hD (j + 1); simpa [Nat.add_assoc, Nat.add_comm 1 j] using this) hB')
theorem Lex.cert {l : List Oper} {σ σ' : St} {C : List (Pre × Eff)} (h : Lex P X ops l σ C σ') : ∀ (i : Nat) o (c : Pre × Eff), l[i]? = some o → C[i]? = some c → Cert P X ops σ.n o c.1 c.2 := by
  induction h with
  | nil => intro i o c h; simp at h
  | cons hc hf _ ih =>
    intro i o c h h'
    cases i with
    | zero => simp at h h'; subst h; subst h'; exact hc
    | succ i => simp at h h'; exact ih i o c h h'
theorem Sat.drew {σ : St} {μ : Mu} {ω : Om} {a : Act} {w w1 : World} (h : Sat X σ μ ω a w) (hk : Kp w w1 (fun _ => False)) : Sat X σ μ ω a w1 := by
  have hb : ∀ k, k < w.heap.size → w1.heap[k]? = w.heap[k]? := fun k hk2 => hk.kept.2 k hk2 id
  refine ⟨h.kept.then_ hk (fun _ hk => hk.elim), h.size, h.defers, h.slot, h.made, fun id o ho => ?_, fun id o ho k hk2 => ⟨(h.own id o ho k hk2).1, Nat.lt_of_lt_of_le (h.own id o ho k hk2).2 hk.size⟩, h.sep, h.anc⟩
  obtain ⟨v, hv, hh⟩ := h.obj id o ho
  refine ⟨v, hv, ?_⟩
  cases o with
  | box t cs => obtain ⟨g, vs, e, hown, hg, hc⟩ := hh; exact ⟨g, vs, e, hown, (hb g (blk_lt hg)).trans hg, hc⟩
  | row d t xs => obtain ⟨B, hh⟩ := hh; exact ⟨B, Kd.S_step hh (fun k _ hlt => hb k hlt)⟩
  | ro d xs => exact hh
  | raw e sz n cap vs => obtain ⟨g, e1, h1, h2, h3⟩ := hh; exact ⟨g, e1, h1, (hb g (blk_lt h2)).trans h2, h3⟩
  | gen Φ st => exact st hk (fun _ _ h => h) hh
/-- A region of whatever order, walked once in the text's order. -/
theorem Lex.drawn {id : Nat} {l : List Oper} {σ σ' : St} {C : List (Pre × Eff)} (hm : P.follows .mixedOrders = true) (h : Lex P X l.toArray l σ C σ') (hB : lexFromC .any l.toArray C l.length 0 (Array.replicate l.length false) = true)
    {μ : Mu} {ω : Om} {a : Act} {w : World} (hs : Sat X σ μ ω a w) (hq : ∀ μ' ω' a' w', Sat X σ' μ' ω' a' w' → Q .normal a' w') : (Code.region id l.toArray true).wp P Q a w := by
  refine wp_region_any hm ?_
  have h1 := h.aany (md := .any) (C := C) 0 (Array.replicate l.length false) (fun j oj hj hl => by
    have hlt : j < l.length := by have := (Array.getElem?_eq_some_iff.1 hj).1; simpa using this
    simp [hlt] at hl) (by simp) (by simp) hB
  have h2 := AAny.sound (n := σ.n) (Q := Q) (Qs := fun s => s = σ') (fun i o c ho hc => h.cert i o c (by simpa using ho) hc) (fun s μ' ω' a' w' e hs' => hq μ' ω' a' w' (e ▸ hs')) _ _ _ rfl h1 μ ω a { w with drawn := w.drawn + 1 } (hs.drew (Kp.drew w))
  simpa using h2
end
/-! How a state of the abstract machine goes on. -/
def Le (μ ν : Mu) : Prop := ∀ id v, μ id = some v → ν id = some v
theorem Le.refl (μ : Mu) : Le μ μ := fun _ _ h => h
theorem map_le {μ ν : Mu} (h : Le μ ν) : ∀ {l : List Nat} {vs : List Value}, l.map μ = vs.map some → l.map ν = vs.map some
  | [], [], _ => rfl
  | i :: l, v :: vs, e => by
    simp only [List.map_cons, List.cons.injEq] at e ⊢
    exact ⟨h _ _ e.1, map_le h e.2⟩
  | [], _ :: _, e => by simp at e
  | _ :: _, [], e => by simp at e
theorem SV.con_mono {μ ν : Mu} (h : Le μ ν) {s : SV} {v : Value} (hc : s.con μ v) : s.con ν v := by
  cases s with
  | c u => exact hc
  | i id => exact ⟨h _ _ hc.1, hc.2⟩
  | p id off => obtain ⟨g, h1, h2⟩ := hc; exact ⟨g, h _ _ h1, h2⟩
  | e id sz ix off => obtain ⟨A, n, c, h1, h2⟩ := hc; exact ⟨A, n, c, h _ _ h1, h2⟩
  | s id sz lo n => obtain ⟨A, N, c, h1, h2⟩ := hc; exact ⟨A, N, c, h _ _ h1, h2⟩
  | f fn l => obtain ⟨vs, h1, h2⟩ := hc; exact ⟨vs, map_le h h1, h2⟩
theorem conL_mono {μ ν : Mu} (h : Le μ ν) : ∀ {l : List SV} {vs : List Value}, conL μ l vs → conL ν l vs
  | [], [], _ => trivial
  | _ :: _, _ :: _, hc => ⟨SV.con_mono h hc.1, conL_mono h hc.2⟩
  | [], _ :: _, hc => hc.elim
  | _ :: _, [], hc => hc.elim
theorem TV.con_mono {μ ν : Mu} (h : Le μ ν) {s : TV} {v : Value} (hc : s.con μ v) : s.con ν v := by
  cases s with
  | o s => exact SV.con_mono h hc
  | a l => obtain ⟨vs, e, hc⟩ := hc; exact ⟨vs, e, conL_mono h hc⟩
theorem conT_mono {μ ν : Mu} (h : Le μ ν) : ∀ {l : List TV} {vs : List Value}, conT μ l vs → conT ν l vs
  | [], [], _ => trivial
  | _ :: _, _ :: _, hc => ⟨TV.con_mono h hc.1, conT_mono h hc.2⟩
  | [], _ :: _, hc => hc.elim
  | _ :: _, [], hc => hc.elim
theorem AV.con_mono {μ ν : Mu} (h : Le μ ν) {s : AV} {v : Value} (hc : s.con μ v) : s.con ν v := by
  cases s with
  | o s => exact SV.con_mono h hc
  | a l => obtain ⟨vs, e, hc⟩ := hc; exact ⟨vs, e, conL_mono h hc⟩
  | t l => obtain ⟨vs, e, hc⟩ := hc; exact ⟨vs, e, conT_mono h hc⟩
  | x => trivial
theorem conL_len {μ : Mu} : ∀ {l : List SV} {vs : List Value}, conL μ l vs → vs.length = l.length
  | [], [], _ => rfl
  | _ :: _, _ :: _, hc => by simp [conL_len hc.2]
  | [], _ :: _, hc => hc.elim
  | _ :: _, [], hc => hc.elim
theorem conL_get {μ : Mu} : ∀ {l : List SV} {vs : List Value}, conL μ l vs → ∀ {k : Nat} {s : SV}, l[k]? = some s → ∃ v, vs[k]? = some v ∧ s.con μ v
  | s :: _, v :: _, hc, 0, _, h => ⟨v, rfl, by simp at h; exact h ▸ hc.1⟩
  | _ :: l, _ :: vs, hc, k + 1, s, h => by simpa using conL_get hc.2 (k := k) (by simpa using h)
  | [], [], _, _, _, h => by simp at h
  | [], _ :: _, hc, _, _, _ => hc.elim
  | _ :: _, [], hc, _, _, _ => hc.elim
theorem conL_set {μ : Mu} : ∀ {l : List SV} {vs : List Value}, conL μ l vs → ∀ (k : Nat) {s : SV} {v : Value}, s.con μ v → conL μ (l.set k s) (vs.set k v)
  | _ :: _, _ :: _, hc, 0, _, _, h => ⟨h, hc.2⟩
  | _ :: _, _ :: _, hc, k + 1, _, _, h => ⟨hc.1, conL_set hc.2 k h⟩
  | [], [], _, _, _, _, _ => trivial
  | [], _ :: _, hc, _, _, _, _ => hc.elim
  | _ :: _, [], hc, _, _, _, _ => hc.elim
theorem conL_take {μ : Mu} : ∀ {l : List SV} {vs : List Value}, conL μ l vs → ∀ (k : Nat), conL μ (l.take k) (vs.take k)
  | _ :: _, _ :: _, _, 0 => trivial
  | _ :: _, _ :: _, hc, k + 1 => ⟨hc.1, conL_take hc.2 k⟩
  | [], [], _, _ => by simp [conL]
  | [], _ :: _, hc, _ => hc.elim
  | _ :: _, [], hc, _ => hc.elim
theorem conL_drop {μ : Mu} : ∀ {l : List SV} {vs : List Value}, conL μ l vs → ∀ (k : Nat), conL μ (l.drop k) (vs.drop k)
  | _ :: _, _ :: _, hc, 0 => hc
  | _ :: _, _ :: _, hc, k + 1 => conL_drop hc.2 k
  | [], [], _, _ => by simp [conL]
  | [], _ :: _, hc, _ => hc.elim
  | _ :: _, [], hc, _ => hc.elim
theorem conL_append {μ : Mu} : ∀ {l m : List SV} {vs us : List Value}, conL μ l vs → conL μ m us → conL μ (l ++ m) (vs ++ us)
  | _ :: _, _, _ :: _, _, hc, h => ⟨hc.1, conL_append hc.2 h⟩
  | [], _, [], _, _, h => h
  | [], _, _ :: _, _, hc, _ => hc.elim
  | _ :: _, _, [], _, hc, _ => hc.elim
theorem conL_consts (μ : Mu) : ∀ vs : List Value, conL μ (vs.map SV.c) vs
  | [] => trivial
  | _ :: vs => ⟨rfl, conL_consts μ vs⟩
theorem conL_eq {μ : Mu} : ∀ {cs vs : List Value}, conL μ (cs.map SV.c) vs → vs = cs
  | [], [], _ => rfl
  | _ :: _, _ :: _, h => by rw [conL_eq h.2, show _ = _ from h.1]
  | [], _ :: _, h => h.elim
  | _ :: _, [], h => h.elim
theorem AObj.holds_mono {X : Cx} {w : World} {μ ν : Mu} {v : Value} {own : Nat → Prop} {o : AObj} (h : Le μ ν) (hc : o.holds X w μ v own) : o.holds X w ν v own := by
  cases o with
  | box t cs => obtain ⟨g, vs, h1, h2, h3, h4, h5⟩ := hc; exact ⟨g, vs, h1, h2, h3, conL_mono h h4, h5⟩
  | row d t xs => exact hc
  | ro d xs => exact hc
  | raw e sz n cap vs => exact hc
  | gen Φ st => exact hc
/-- An object whose blocks are as they were. -/
theorem AObj.holds_kp {X : Cx} {w w1 : World} {μ : Mu} {v : Value} {own T : Nat → Prop} {o : AObj} (hk : Kp w w1 T) (hT : ∀ k, own k → ¬ T k) (hc : o.holds X w μ v own) : o.holds X w1 μ v own := by
  cases o with
  | box t cs =>
    obtain ⟨g, vs, h1, h2, h3, h4, h5⟩ := hc
    exact ⟨g, vs, h1, h2, (hk.kept.2 g (blk_lt h3) (hT g ((h2 g).2 rfl))).trans h3, h4, h5⟩
  | row d t xs => obtain ⟨B, hc⟩ := hc; exact ⟨B, Kd.S_step hc (fun k ho hlt => hk.kept.2 k hlt (hT k ho))⟩
  | ro d xs => exact hc
  | raw e sz n cap vs => obtain ⟨g, e1, h1, h2, h3⟩ := hc; exact ⟨g, e1, h1, (hk.kept.2 g (blk_lt h2) (hT g h1)).trans h2, h3⟩
  | gen Φ st => exact st hk hT hc
section
variable {P : Program} {X : Cx} {σ : St} {μ : Mu} {ω : Om} {a : Act} {w : World}
/-- The general step of memory. -/
theorem Sat.gen (h : Sat X σ μ ω a w) {σ1 : St} {μ1 : Mu} {ω1 : Om} {w1 : World} {T : Nat → Prop} (hF : σ1.F = σ.F) (hn : σ1.n = σ.n) (hw : Kp w w1 T) (hT : ∀ k, T k → X.S k ∨ X.w0.heap.size ≤ k) (hμ : Le μ μ1) (hD : ∀ id, σ1.D id = false → μ1 id = none)
    (N : Nat → Prop)
    (hH : ∀ id o, σ1.H id = some o → (¬ N id ∧ σ.H id = some o ∧ ω1 id = ω id ∧ ∀ k, ω id k → ¬ T k) ∨ (N id ∧ (∃ v, μ1 id = some v ∧ o.holds X w1 μ1 v (ω1 id)) ∧ ∀ k, ω1 id k → (T k ∨ w.heap.size ≤ k) ∧ k < w1.heap.size))
    (hS : ∀ i j, N i → N j → i ≠ j → (σ1.H i).isSome = true → (σ1.H j).isSome = true → ∀ k, ω1 i k → ¬ ω1 j k) (hA : ∀ q ∈ X.A, ω1 q.1 = ω q.1) : Sat X σ1 μ1 ω1 a w1 := by
  have hsz := hw.size
  have h0 := h.kept.size
  refine ⟨h.kept.then_ hw hT, by rw [hn]; exact h.size, h.defers, fun t av ht => ?_, hD, fun id o ho => ?_, fun id o ho k hk => ?_, fun i j oi oj hi hj hne k hki hkj => ?_, fun q hq => ⟨hμ _ _ (h.anc q hq).1, (hA q hq).trans (h.anc q hq).2⟩⟩
  · rw [hF] at ht
    obtain ⟨v, hv, hc⟩ := h.slot t av ht
    exact ⟨v, hv, AV.con_mono hμ hc⟩
  · rcases hH id o ho with ⟨_, h1, h2, h3⟩ | ⟨_, h1, _⟩
    · obtain ⟨v, hv, hh⟩ := h.obj id o h1
      exact ⟨v, hμ _ _ hv, by rw [h2]; exact AObj.holds_mono hμ (AObj.holds_kp hw h3 hh)⟩
    · exact h1
  · rcases hH id o ho with ⟨_, h1, h2, h3⟩ | ⟨_, _, h2⟩
    · rw [h2] at hk
      have := h.own id o h1 k hk
      exact ⟨this.1, Nat.lt_of_lt_of_le this.2 hsz⟩
    · have := h2 k hk
      exact ⟨this.1.elim (hT k) (fun h3 => .inr (Nat.le_trans h0 h3)), this.2⟩
  · rcases hH i oi hi with ⟨_, h1, h2, h3⟩ | ⟨ni, _, h2⟩
    · rcases hH j oj hj with ⟨_, k1, k2, k3⟩ | ⟨nj, _, k2⟩
      · rw [h2] at hki
        rw [k2] at hkj
        exact h.sep i j oi oj h1 k1 hne k hki hkj
      · rw [h2] at hki
        have h4 := h.own i oi h1 k hki
        rcases (k2 k hkj).1 with h5 | h5
        · exact h3 k hki h5
        · omega
    · rcases hH j oj hj with ⟨_, k1, k2, k3⟩ | ⟨nj, _, k2⟩
      · rw [k2] at hkj
        have h4 := h.own j oj k1 k hkj
        rcases (h2 k hki).1 with h5 | h5
        · exact k3 k hkj h5
        · omega
      · exact hS i j ni nj hne (by rw [hi]; rfl) (by rw [hj]; rfl) k hki hkj
theorem Sat.put (h : Sat X σ μ ω a w) {dst : Option Nat} {av : AV} {v : Value} (hd : ∀ d, dst = some d → d < σ.n) (hv : av.con μ v) : Sat X { σ with F := σ.put dst av } μ ω (a.put dst v) w := by
  cases dst with
  | none => exact h
  | some d =>
    have hd := hd d rfl
    refine ⟨h.kept, by simp [Act.put, h.size], h.defers, fun t av' ht => ?_, h.made, h.obj, h.own, h.sep, h.anc⟩
    by_cases e : t = d
    · subst e
      simp only [St.put, upd_same] at ht
      cases ht
      exact ⟨v, by simp [Act.put, h.size, hd], hv⟩
    · simp only [St.put, upd_ne _ e] at ht
      obtain ⟨u, hu, hc⟩ := h.slot t av' ht
      exact ⟨u, by simp only [Act.put]; rw [Array.getElem?_setIfInBounds_ne (fun e' => e e'.symm)]; exact hu, hc⟩
/-- A new object. -/
theorem Sat.new (h : Sat X σ μ ω a w) {id : Nat} {o : AObj} {v : Value} {own : Nat → Prop} {w1 : World} (hid : σ.D id = false) (hw : Kp w w1 (fun _ => False)) (ho : o.holds X w1 (upd μ id (some v)) v own) (hown : ∀ k, own k → w.heap.size ≤ k ∧ k < w1.heap.size) :
    Sat X { σ with H := upd σ.H id (some o), D := upd σ.D id true } (upd μ id (some v)) (upd ω id own) a w1 := by
  have h0 := h.made id hid
  refine h.gen rfl rfl hw (fun _ hk => hk.elim) (fun j u hu => ?_) (fun j hj => ?_) (fun j => j = id) (fun j oj hj => ?_) (fun i j hi hj hne => absurd (hi.trans hj.symm) hne) (fun q hq => upd_ne _ (fun e => by have := (h.anc q hq).1; rw [e, h0] at this; cases this) _)
  · rw [upd_ne _ (fun e => by rw [e, h0] at hu; cases hu)]; exact hu
  · by_cases e : j = id
    · subst e; simp [upd_same] at hj
    · rw [upd_ne _ e]; exact h.made j (by simpa [upd_ne _ e] using hj)
  · by_cases e : j = id
    · subst e
      simp only [upd_same] at hj
      cases hj
      exact .inr ⟨rfl, ⟨v, upd_same _ _ _, by rw [upd_same]; exact ho⟩, fun k hk => by rw [upd_same] at hk; exact ⟨.inr (hown k hk).1, (hown k hk).2⟩⟩
    · simp only [upd_ne _ e] at hj
      exact .inl ⟨e, hj, upd_ne _ e _, fun _ _ h => h⟩
/-- An object that is written. -/
theorem Sat.set (h : Sat X σ μ ω a w) {id : Nat} {o o1 : AObj} {v : Value} {w1 : World} (hH : σ.H id = some o) (hv : μ id = some v) (hw : Kp w w1 (ω id)) (ho : o1.holds X w1 μ v (ω id)) :
    Sat X { σ with H := upd σ.H id (some o1) } μ ω a w1 := by
  refine h.gen rfl rfl hw (fun k hk => (h.own id o hH k hk).1) (Le.refl _) h.made (fun j => j = id) (fun j oj hj => ?_) (fun i j hi hj hne => absurd (hi.trans hj.symm) hne) (fun _ _ => rfl)
  by_cases e : j = id
  · subst e
    simp only [upd_same] at hj
    cases hj
    exact .inr ⟨rfl, ⟨v, hv, ho⟩, fun k hk => ⟨.inl hk, Nat.lt_of_lt_of_le (h.own j o hH k hk).2 hw.size⟩⟩
  · simp only [upd_ne _ e] at hj
    exact .inl ⟨e, hj, rfl, fun k hk hk2 => h.sep j id oj o hj hH e k hk hk2⟩
/-- An object that is used up, and one made of it. -/
theorem Sat.turn (h : Sat X σ μ ω a w) {id id1 : Nat} {o o1 : AObj} {v : Value} {own : Nat → Prop} {w1 : World} (hH : σ.H id = some o) (hid : σ.D id1 = false) (hw : Kp w w1 (ω id)) (ho : o1.holds X w1 (upd μ id1 (some v)) v own) (hown : ∀ k, own k → ω id k ∨ (w.heap.size ≤ k ∧ k < w1.heap.size)) :
    Sat X { σ with H := upd (upd σ.H id none) id1 (some o1), D := upd σ.D id1 true } (upd μ id1 (some v)) (upd ω id1 own) a w1 := by
  have h0 := h.made id1 hid
  have hne1 : id1 ≠ id := fun e => by obtain ⟨u, hu, _⟩ := h.obj id o hH; rw [← e, h0] at hu; cases hu
  refine h.gen rfl rfl hw (fun k hk => (h.own id o hH k hk).1) (fun j u hu => ?_) (fun j hj => ?_) (fun j => j = id1) (fun j oj hj => ?_) (fun i j hi hj hne => absurd (hi.trans hj.symm) hne) (fun q hq => upd_ne _ (fun e => by have := (h.anc q hq).1; rw [e, h0] at this; cases this) _)
  · rw [upd_ne _ (fun e => by rw [e, h0] at hu; cases hu)]; exact hu
  · by_cases e : j = id1
    · subst e; simp [upd_same] at hj
    · rw [upd_ne _ e]; exact h.made j (by simpa [upd_ne _ e] using hj)
  · by_cases e : j = id1
    · subst e
      simp only [upd_same] at hj
      cases hj
      refine .inr ⟨rfl, ⟨v, upd_same _ _ _, by rw [upd_same]; exact ho⟩, fun k hk => ?_⟩
      rw [upd_same] at hk
      rcases hown k hk with h1 | h1
      · exact ⟨.inl h1, Nat.lt_of_lt_of_le (h.own id o hH k h1).2 hw.size⟩
      · exact ⟨.inr h1.1, h1.2⟩
    · simp only [upd_ne _ e] at hj
      by_cases e2 : j = id
      · subst e2; simp [upd_same] at hj
      · rw [upd_ne _ e2] at hj
        exact .inl ⟨e, hj, upd_ne _ e _, fun k hk hk2 => h.sep j id oj o hj hH e2 k hk hk2⟩
end
/-! What each operation does to a state of the abstract machine. -/
def ofV : Value → AV
  | .agg cs => .a (cs.toList.map SV.c)
  | v => .o (.c v)
theorem ofV_con (μ : Mu) (v : Value) : (ofV v).con μ v := by
  cases v <;> first
    | exact rfl
    | exact ⟨_, by simp, conL_consts μ _⟩
def opnd (F : Nat → Option AV) : Operand → Option AV
  | .tmp t => F t
  | .const v => some (ofV v)
  | .func f => some (.o (.c (.func (.func f) #[] #[])))
  | .global g => some (.o (.c (.pointer (some ⟨g, 0, none⟩))))
def look : Operand → AV → List (Nat × AV)
  | .tmp t, av => [(t, av)]
  | _, _ => []
theorem look_fits {F : Nat → Option AV} {x : Operand} {av : AV} (h : opnd F x = some av) : ∀ q ∈ look x av, F q.1 = some q.2 := by
  intro q hq
  cases x with
  | tmp t => rw [look, List.mem_singleton] at hq; subst hq; exact h
  | _ => cases hq
theorem opnd_of {F F1 : Nat → Option AV} {x : Operand} {av : AV} (h : opnd F x = some av) (hf : ∀ q ∈ look x av, F1 q.1 = some q.2) : opnd F1 x = some av := by
  cases x with
  | tmp t => exact hf (t, av) (by simp [look])
  | _ => exact h
def dstOk : Option Nat → Nat → Bool
  | some d, n => Nat.blt d n
  | none, _ => true
theorem dstOk_spec {dst : Option Nat} {n : Nat} (h : dstOk dst n = true) : ∀ d, dst = some d → d < n := by
  intro d e
  subst e
  simpa [dstOk] using h
/-- Whether the operation is carried out. -/
def Guard (ops : Array Oper) (o : Oper) (lg : List (Nat × AV)) (b : Bool) : Prop := ∀ (a : Act) (μ : Mu), (∀ q ∈ lg, ∃ v, a.tmps[q.1]? = some v ∧ q.2.con μ v) → Region.wanted o (yielded ops a.tmps) = b
theorem guard_none {ops : Array Oper} {o : Oper} (h : o.guard = none) : Guard ops o [] true := fun a μ _ => by simp [Region.wanted, h]
theorem guard_some {ops : Array Oper} {o : Oper} {j t : Nat} {want b0 : Bool} (h : o.guard = some (j, want)) (hd : (ops[j]?).bind (·.dst) = some t) : Guard ops o [(t, .o (.c (.bool b0)))] (b0 == want) := fun a μ hq => by
  obtain ⟨v, hv, hc⟩ := hq _ List.mem_cons_self
  have hc' : v = .bool b0 := hc
  subst hc'
  simp only [Region.wanted, h, yielded, hd, Option.bind_some, hv]
  cases b0 <;> cases want <;> rfl
section
variable {P : Program} {X : Cx} {ops : Array Oper} {Q : Exit → Act → World → Prop} {o : Oper} {l : List Oper} {σ : St} {K : List (Pre × Eff) → St → Prop} {lg : List (Nat × AV)}
def GOn (ops : Array Oper) (σ : St) (o : Oper) (lg : List (Nat × AV)) : Prop := Guard ops o lg true ∧ ∀ q ∈ lg, σ.F q.1 = some q.2
def GOff (ops : Array Oper) (σ : St) (o : Oper) (lg : List (Nat × AV)) : Prop := Guard ops o lg false ∧ ∀ q ∈ lg, σ.F q.1 = some q.2
theorem gon_none (h : o.guard = none) : GOn ops σ o [] := ⟨guard_none h, fun _ h => by cases h⟩
theorem gon_some {j t : Nat} {want : Bool} (h : o.guard = some (j, want)) (hd : (ops[j]?).bind (·.dst) = some t) (hF : σ.F t = some (.o (.c (.bool want)))) : GOn ops σ o [(t, .o (.c (.bool want)))] :=
  ⟨by have := guard_some (b0 := want) h hd; rw [beq_self_eq_true] at this; exact this, fun q hq => by rw [List.mem_singleton.1 hq]; exact hF⟩
theorem goff_some {j t : Nat} {want b0 : Bool} (h : o.guard = some (j, want)) (hd : (ops[j]?).bind (·.dst) = some t) (hF : σ.F t = some (.o (.c (.bool b0)))) (hne : (b0 == want) = false) : GOff ops σ o [(t, .o (.c (.bool b0)))] :=
  ⟨by have := guard_some (b0 := b0) h hd; rw [hne] at this; exact this, fun q hq => by rw [List.mem_singleton.1 hq]; exact hF⟩
/-- A guard that was left out itself. -/
theorem goff_undef {j t : Nat} {want : Bool} (h : o.guard = some (j, want)) (hd : (ops[j]?).bind (·.dst) = some t) (hF : σ.F t = some (.o (.c undef))) : GOff ops σ o [(t, .o (.c undef))] :=
  ⟨fun a μ hq => by
    obtain ⟨v, hv, hc⟩ := hq _ List.mem_cons_self
    have hc' : v = undef := hc
    subst hc'
    simp only [Region.wanted, h, yielded, hd, Option.bind_some, hv]
    cases want <;> rfl, fun q hq => by rw [List.mem_singleton.1 hq]; exact hF⟩
theorem Sat.ev {μ : Mu} {ω : Om} {a : Act} {w : World} (h : Sat X σ μ ω a w) {x : Operand} {av : AV} (hx : opnd σ.F x = some av) : av.con μ (a.eval x) := by
  cases x with
  | tmp t =>
    obtain ⟨v, hv, hc⟩ := h.slot t av hx
    have : a.eval (.tmp t) = v := by simp [Act.eval, hv]
    rw [this]
    exact hc
  | const v => cases hx; exact ofV_con μ v
  | func f => cases hx; exact rfl
  | global g => cases hx; exact rfl
theorem Sat.val {μ : Mu} {ω : Om} {a : Act} {w : World} (h : Sat X σ μ ω a w) {x : Operand} {v : Value} (hx : opnd σ.F x = some (.o (.c v))) : a.eval x = v := h.ev hx
theorem Lx.run {p : List (Nat × AV)} {ph : List (Nat × AObj)} {e : Eff} (hg : Guard ops o lg true) (hlg : ∀ q ∈ lg, σ.F q.1 = some q.2) (hp : ∀ q ∈ p, σ.F q.1 = some q.2) (hph : ∀ q ∈ ph, σ.H q.1 = some q.2) (hnw : ∀ q ∈ e.nw, σ.D q.1 = false)
    (h : LX P X ops l (σ.app o.dst e) (fun C => K ((⟨lg ++ p, ph⟩, e) :: C)))
    (hrun : ∀ σ1 : St, σ1.n = σ.n → (∀ q ∈ p, σ1.F q.1 = some q.2) → (∀ q ∈ ph, σ1.H q.1 = some q.2) → (∀ q ∈ e.nw, σ1.D q.1 = false) → ∀ μ ω a w, Sat X σ1 μ ω a w → ∀ (K : Act → World → Prop) (Q : Exit → Act → World → Prop), (∀ μ' ω' a' w', Sat X (σ1.app o.dst e) μ' ω' a' w' → K a' w') → o.wp P a w K Q) : LX P X ops (o :: l) σ K := by
  obtain ⟨C, σ', h, hk⟩ := h
  refine ⟨_, σ', .cons (fun σ1 hn hf μ ω a w hs K Q hK => ?_) ⟨fun q hq => (List.mem_append.1 hq).elim (hlg q) (hp q), hph, hnw⟩ h, hk⟩
  have hw := hg a μ (fun q hq => hs.slot q.1 q.2 (hf.1 q (List.mem_append_left _ hq)))
  rw [if_pos hw]
  exact hrun σ1 hn (fun q hq => hf.1 q (List.mem_append_right _ hq)) hf.2.1 hf.2.2 μ ω a w hs K Q hK
/-- An operation that is left out. -/
theorem Lx.off (hgo : GOff ops σ o lg) (hd : dstOk o.dst σ.n = true) (h : LX P X ops l (σ.app o.dst ⟨.o (.c undef), [], []⟩) (fun C => K ((⟨lg, []⟩, ⟨.o (.c undef), [], []⟩) :: C))) : LX P X ops (o :: l) σ K := by
  obtain ⟨C, σ', h, hk⟩ := h
  refine ⟨_, σ', .cons (fun σ1 hn hf μ ω a w hs K Q hK => ?_) ⟨hgo.2, fun _ h => (by cases h), fun _ h => (by cases h)⟩ h, hk⟩
  have hw := hgo.1 a μ (fun q hq => hs.slot q.1 q.2 (hf.1 q hq))
  rw [if_neg (by rw [hw]; simp)]
  exact hK _ _ _ _ (hs.put (av := .o (.c undef)) (dstOk_spec (hn ▸ hd)) rfl)
/-- An operation that leaves a value, and memory alone. -/
theorem Lx.val {p : List (Nat × AV)} {ph : List (Nat × AObj)} {av : AV} (hg : Guard ops o lg true) (hlg : ∀ q ∈ lg, σ.F q.1 = some q.2) (hd : dstOk o.dst σ.n = true) (hp : ∀ q ∈ p, σ.F q.1 = some q.2) (hph : ∀ q ∈ ph, σ.H q.1 = some q.2)
    (h : LX P X ops l (σ.app o.dst ⟨av, [], []⟩) (fun C => K ((⟨lg ++ p, ph⟩, ⟨av, [], []⟩) :: C)))
    (hrun : ∀ σ1 : St, (∀ q ∈ p, σ1.F q.1 = some q.2) → (∀ q ∈ ph, σ1.H q.1 = some q.2) → ∀ μ ω a w, Sat X σ1 μ ω a w → ∃ v, (execOp a.eval o).run P w = .ok (.value v) w ∧ av.con μ v) : LX P X ops (o :: l) σ K := by
  refine Lx.run (h := h) hg hlg hp hph (fun _ h => (by cases h)) (fun σ1 hn h1 h2 _ μ ω a w hs K Q hK => ?_)
  obtain ⟨v, hv, hc⟩ := hrun σ1 h1 h2 μ ω a w hs
  unfold Oper.wp
  rw [hv]
  exact hK _ _ _ _ (hs.put (dstOk_spec (hn ▸ hd)) hc)
theorem no_mem {α : Type _} {p : α → Prop} : ∀ q ∈ ([] : List α), p q := fun _ h => by cases h
theorem mem_app {α : Type _} {p : α → Prop} {l m : List α} (h : ∀ q ∈ l, p q) (k : ∀ q ∈ m, p q) : ∀ q ∈ l ++ m, p q := fun q hq => (List.mem_append.1 hq).elim (h q) (k q)
theorem app_l {α : Type _} {p : α → Prop} {l m : List α} (h : ∀ q ∈ l ++ m, p q) : ∀ q ∈ l, p q := fun q hq => h q (List.mem_append_left _ hq)
theorem app_r {α : Type _} {p : α → Prop} {l m : List α} (h : ∀ q ∈ l ++ m, p q) : ∀ q ∈ m, p q := fun q hq => h q (List.mem_append_right _ hq)
theorem one_mem {α : Type _} {p : α → Prop} {x : α} (h : p x) : ∀ q ∈ [x], p q := fun q hq => by rw [List.mem_singleton.1 hq]; exact h
section
variable (hgo : GOn ops σ o lg) (hd : dstOk o.dst σ.n = true)
include hgo hd
theorem Lx.move {x : Operand} {av : AV} (ho : o.op = .move x) (hx : opnd σ.F x = some av) (h : LX P X ops l (σ.app o.dst ⟨av, [], []⟩) (fun C => K ((⟨lg ++ look x av, []⟩, ⟨av, [], []⟩) :: C))) : LX P X ops (o :: l) σ K :=
  Lx.val (h := h) hgo.1 hgo.2 hd (look_fits hx) no_mem (fun σ1 h1 _ μ ω a w hs => ⟨a.eval x, by unfold execOp; simp only [ho]; rfl, hs.ev (opnd_of hx h1)⟩)
theorem Lx.assign {x : Operand} {av : AV} (ho : o.op = .assign x) (hx : opnd σ.F x = some av) (h : LX P X ops l (σ.app o.dst ⟨av, [], []⟩) (fun C => K ((⟨lg ++ look x av, []⟩, ⟨av, [], []⟩) :: C))) : LX P X ops (o :: l) σ K :=
  Lx.val (h := h) hgo.1 hgo.2 hd (look_fits hx) no_mem (fun σ1 h1 _ μ ω a w hs => ⟨a.eval x, by unfold execOp; simp only [ho]; rfl, hs.ev (opnd_of hx h1)⟩)
/-- Two plain values. -/
theorem Lx.bin {op : BinOp} {T yT : TypeId} {x y : Operand} {u v r : Value} (ho : o.op = .binOp op T x y yT) (hx : opnd σ.F x = some (.o (.c u))) (hy : opnd σ.F y = some (.o (.c v)))
    (hr : ∀ w, (do eqGuard op T x y u v; binOp op T u v : Sem Value).run P w = .ok r w) (h : LX P X ops l (σ.app o.dst ⟨.o (.c r), [], []⟩) (fun C => K ((⟨lg ++ (look x (.o (.c u)) ++ look y (.o (.c v))), []⟩, ⟨.o (.c r), [], []⟩) :: C))) : LX P X ops (o :: l) σ K :=
  Lx.val (h := h) hgo.1 hgo.2 hd (mem_app (look_fits hx) (look_fits hy)) no_mem (fun σ1 h1 _ μ ω a w hs => ⟨r, by
    have e1 := hs.val (opnd_of hx (app_l h1))
    have e2 := hs.val (opnd_of hy (app_r h1))
    have := hr w
    unfold execOp
    simp only [ho, e1, e2]
    generalize (do eqGuard op T x y u v; binOp op T u v : Sem Value) = s at this ⊢
    simp [this], rfl⟩)
theorem Lx.un {op : UnOp} {T : TypeId} {x : Operand} {u r : Value} (ho : o.op = .unOp op T x) (hx : opnd σ.F x = some (.o (.c u)))
    (hr : ∀ w, (Op.unary op u).run P w = .ok r w) (h : LX P X ops l (σ.app o.dst ⟨.o (.c r), [], []⟩) (fun C => K ((⟨lg ++ look x (.o (.c u)), []⟩, ⟨.o (.c r), [], []⟩) :: C))) : LX P X ops (o :: l) σ K :=
  Lx.val (h := h) hgo.1 hgo.2 hd (look_fits hx) no_mem (fun σ1 h1 _ μ ω a w hs => ⟨r, by
    have e1 := hs.val (opnd_of hx h1)
    have := hr w
    unfold execOp
    simp [ho, e1, this], rfl⟩)
end
end
/-! Control: sequences, tests, loops, calls. -/
def Post := Exit → St → Prop
def AX (P : Program) (X : Cx) (c : Code) (σ : St) (Q : Post) : Prop := ∀ μ ω a w, Sat X σ μ ω a w → c.wp P (fun e a' w' => ∃ μ' ω' σ', Sat X σ' μ' ω' a' w' ∧ Q e σ') a w
def Post.then_ (K : St → Prop) (Q : Post) : Post
  | .normal, σ => K σ
  | e, σ => Q e σ
def Post.inBlock (id : Nat) (Q : Post) : Post
  | .exit id', σ => if id' = id then Q .normal σ else Q (.exit id') σ
  | e, σ => Q e σ
section
variable {P : Program} {X : Cx} {σ σ' : St} {Q : Post} {x y c : Code} {id : Nat}
theorem ax_seq (h : AX P X x σ (Post.then_ (fun σ1 => AX P X y σ1 Q) Q)) : AX P X (.seq x y) σ Q := fun μ ω a w hs =>
  wp_seq (wp_mono (h μ ω a w hs) (fun e a1 w1 hq => by
    obtain ⟨μ1, ω1, σ1, hs1, hq1⟩ := hq
    cases e with
    | normal => exact hq1 μ1 ω1 a1 w1 hs1
    | exit id => exact ⟨μ1, ω1, σ1, hs1, hq1⟩
    | goto l => exact ⟨μ1, ω1, σ1, hs1, hq1⟩
    | ret => exact ⟨μ1, ω1, σ1, hs1, hq1⟩
    | panic ch => exact ⟨μ1, ω1, σ1, hs1, hq1⟩
    | outgrown => exact ⟨μ1, ω1, σ1, hs1, hq1⟩))
theorem ax_plain {l : List Oper} (h : LX P X l.toArray l σ (fun _ σ' => Q .normal σ')) : AX P X (.region id l.toArray false) σ Q := fun μ ω a w hs => by
  obtain ⟨C, σ', h, k⟩ := h
  exact wp_region_lit (h.list hs (fun μ' ω' a' w' hs' => ⟨μ', ω', σ', hs', k⟩))
theorem ax_drawn {l : List Oper} (hm : P.follows .mixedOrders = true) (h : LX P X l.toArray l σ (fun C σ' => lexFromC .any l.toArray C l.length 0 (Array.replicate l.length false) = true ∧ Q .normal σ')) : AX P X (.region id l.toArray true) σ Q := fun μ ω a w hs => by
  obtain ⟨C, σ', h, hB, k⟩ := h
  exact h.drawn hm hB hs (fun μ' ω' a' w' hs' => ⟨μ', ω', σ', hs', k⟩)
theorem ax_cond {o : Operand} {b : Bool} (ho : opnd σ.F o = some (.o (.c (.bool b)))) (ht : b = true → AX P X x σ Q) (hf : b = false → AX P X y σ Q) : AX P X (.cond o x y) σ Q := fun μ ω a w hs =>
  wp_cond_split (hs.val ho) (fun e => ht e μ ω a w hs) (fun e => hf e μ ω a w hs)
theorem ax_block (h : AX P X x σ (Post.inBlock id Q)) : AX P X (.block id x) σ Q := fun μ ω a w hs =>
  wp_block (wp_mono (h μ ω a w hs) (fun e a1 w1 hq => by
    obtain ⟨μ1, ω1, σ1, hs1, hq1⟩ := hq
    cases e with
    | exit id' =>
      have hq2 : if id' = id then Q .normal σ1 else Q (.exit id') σ1 := hq1
      show if id' = id then (∃ μ' ω' σ', Sat X σ' μ' ω' a1 w1 ∧ Q .normal σ') else (∃ μ' ω' σ', Sat X σ' μ' ω' a1 w1 ∧ Q (.exit id') σ')
      by_cases e : id' = id
      · rw [if_pos e] at hq2 ⊢; exact ⟨μ1, ω1, σ1, hs1, hq2⟩
      · rw [if_neg e] at hq2 ⊢; exact ⟨μ1, ω1, σ1, hs1, hq2⟩
    | normal => exact ⟨μ1, ω1, σ1, hs1, hq1⟩
    | goto l => exact ⟨μ1, ω1, σ1, hs1, hq1⟩
    | ret => exact ⟨μ1, ω1, σ1, hs1, hq1⟩
    | panic ch => exact ⟨μ1, ω1, σ1, hs1, hq1⟩
    | outgrown => exact ⟨μ1, ω1, σ1, hs1, hq1⟩))
theorem ax_exit (h : Q (.exit id) σ) : AX P X (.exit id) σ Q := fun μ ω a w hs => wp_exit ⟨μ, ω, σ, hs, h⟩
theorem ax_ret (h : Q .ret σ) : AX P X .ret σ Q := fun μ ω a w hs => wp_ret ⟨μ, ω, σ, hs, h⟩
theorem ax_skip (h : Q .normal σ) : AX P X .skip σ Q := fun μ ω a w hs => wp_skip ⟨μ, ω, σ, hs, h⟩
theorem out_same (h : Q .normal σ) : Post.inBlock id Q (.exit id) σ := by
  have : (if id = id then Q .normal σ else Q (.exit id) σ) := by rw [if_pos rfl]; exact h
  exact this
theorem out_other {id' : Nat} (hne : Nat.beq id' id = false) (h : Q (.exit id') σ) : Post.inBlock id Q (.exit id') σ := by
  have : (if id' = id then Q .normal σ else Q (.exit id') σ) := by rw [if_neg (fun e => by rw [← Nat.beq_eq, hne] at e; cases e)]; exact h
  exact this
theorem ax_mono {Q' : Post} (h : AX P X c σ Q) (hq : ∀ e σ1, Q e σ1 → Q' e σ1) : AX P X c σ Q' := fun μ ω a w hs =>
  wp_mono (h μ ω a w hs) (fun e a1 w1 ⟨μ1, ω1, σ1, hs1, hq1⟩ => ⟨μ1, ω1, σ1, hs1, hq e σ1 hq1⟩)
/-! ### A state that says less -/
def SV.ren (ρ : Nat → Nat) : SV → SV
  | .c v => .c v
  | .i id => .i (ρ id)
  | .p id off => .p (ρ id) off
  | .e id sz ix off => .e (ρ id) sz ix off
  | .s id sz lo n => .s (ρ id) sz lo n
  | .f fn l => .f fn (l.map ρ)
def TV.ren (ρ : Nat → Nat) : TV → TV
  | .o s => .o (s.ren ρ)
  | .a l => .a (l.map (SV.ren ρ))
def AV.ren (ρ : Nat → Nat) : AV → AV
  | .o s => .o (s.ren ρ)
  | .a l => .a (l.map (SV.ren ρ))
  | .t l => .t (l.map (TV.ren ρ))
  | .x => .x
def AObj.ren (ρ : Nat → Nat) : AObj → AObj
  | .box t cs => .box t (cs.map (SV.ren ρ))
  | .row d t xs => .row d t xs
  | .ro d xs => .ro d xs
  | .raw e sz n cap vs => .raw e sz n cap vs
  | .gen Φ st => .gen Φ st
def SV.ok (D : Nat → Bool) : SV → Bool
  | .c _ => true
  | .i id => D id
  | .p id _ => D id
  | .e id _ _ _ => D id
  | .s id _ _ _ => D id
  | .f _ l => l.all D
def TV.ok (D : Nat → Bool) : TV → Bool
  | .o s => s.ok D
  | .a l => l.all (SV.ok D)
def AV.ok (D : Nat → Bool) : AV → Bool
  | .o s => s.ok D
  | .a l => l.all (SV.ok D)
  | .t l => l.all (TV.ok D)
  | .x => true
def AObj.ok (D : Nat → Bool) : AObj → Bool
  | .box _ cs => cs.all (SV.ok D)
  | _ => true
def muR (D : Nat → Bool) (ρ : Nat → Nat) (μ : Mu) : Mu := fun id => if D id = true then μ (ρ id) else none
theorem muR_of {D : Nat → Bool} {ρ : Nat → Nat} {μ : Mu} {id : Nat} {v : Value} (hd : D id = true) (h : μ (ρ id) = some v) : muR D ρ μ id = some v := by rw [muR, if_pos hd]; exact h
theorem SV.con_ren {D : Nat → Bool} {ρ : Nat → Nat} {μ : Mu} {s : SV} {v : Value} (h : (s.ren ρ).con μ v) (hd : s.ok D = true) : s.con (muR D ρ μ) v := by
  cases s with
  | c u => exact h
  | i id => exact ⟨muR_of hd h.1, h.2⟩
  | p id off => obtain ⟨g, h1, h2⟩ := h; exact ⟨g, muR_of hd h1, h2⟩
  | e id sz ix off => obtain ⟨A, n, c, h1, h2⟩ := h; exact ⟨A, n, c, muR_of hd h1, h2⟩
  | s id sz lo n => obtain ⟨A, N, c, h1, h2⟩ := h; exact ⟨A, N, c, muR_of hd h1, h2⟩
  | f fn l =>
    obtain ⟨vs, h1, h2⟩ := h
    refine ⟨vs, ?_, h2⟩
    rw [← h1, List.map_map]
    refine List.map_congr_left (fun i hi => ?_)
    have hdi := List.all_eq_true.1 hd i hi
    simp [muR, hdi]
theorem conL_ren {D : Nat → Bool} {ρ : Nat → Nat} {μ : Mu} : ∀ {l : List SV} {vs : List Value}, conL μ (l.map (SV.ren ρ)) vs → l.all (SV.ok D) = true → conL (muR D ρ μ) l vs
  | [], [], _, _ => trivial
  | _ :: _, _ :: _, h, hd => by
    rw [List.all_cons, Bool.and_eq_true] at hd
    exact ⟨SV.con_ren h.1 hd.1, conL_ren h.2 hd.2⟩
  | [], _ :: _, h, _ => h.elim
  | _ :: _, [], h, _ => h.elim
theorem TV.con_ren {D : Nat → Bool} {ρ : Nat → Nat} {μ : Mu} {s : TV} {v : Value} (h : (s.ren ρ).con μ v) (hd : s.ok D = true) : s.con (muR D ρ μ) v := by
  cases s with
  | o s => exact SV.con_ren h hd
  | a l => obtain ⟨vs, e, h⟩ := h; exact ⟨vs, e, conL_ren h hd⟩
theorem conT_ren {D : Nat → Bool} {ρ : Nat → Nat} {μ : Mu} : ∀ {l : List TV} {vs : List Value}, conT μ (l.map (TV.ren ρ)) vs → l.all (TV.ok D) = true → conT (muR D ρ μ) l vs
  | [], [], _, _ => trivial
  | _ :: _, _ :: _, h, hd => by
    rw [List.all_cons, Bool.and_eq_true] at hd
    exact ⟨TV.con_ren h.1 hd.1, conT_ren h.2 hd.2⟩
  | [], _ :: _, h, _ => h.elim
  | _ :: _, [], h, _ => h.elim
theorem AV.con_ren {D : Nat → Bool} {ρ : Nat → Nat} {μ : Mu} {s : AV} {v : Value} (h : (s.ren ρ).con μ v) (hd : s.ok D = true) : s.con (muR D ρ μ) v := by
  cases s with
  | o s => exact SV.con_ren h hd
  | a l => obtain ⟨vs, e, h⟩ := h; exact ⟨vs, e, conL_ren h hd⟩
  | t l => obtain ⟨vs, e, h⟩ := h; exact ⟨vs, e, conT_ren h hd⟩
  | x => trivial
theorem AObj.holds_ren {X : Cx} {w : World} {D : Nat → Bool} {ρ : Nat → Nat} {μ : Mu} {o : AObj} {v : Value} {own : Nat → Prop} (h : (o.ren ρ).holds X w μ v own) (hd : o.ok D = true) : o.holds X w (muR D ρ μ) v own := by
  cases o with
  | box t cs => obtain ⟨g, vs, h1, h2, h3, h4, h5⟩ := h; exact ⟨g, vs, h1, h2, h3, conL_ren h4 hd, h5⟩
  | row d t xs => exact h
  | ro d xs => exact h
  | raw e sz n cap vs => exact h
  | gen Φ st => exact h
structure Sub (σ σ2 : St) (ρ : Nat → Nat) : Prop where
  n : σ2.n = σ.n
  F : ∀ t av, σ2.F t = some av → σ.F t = some (av.ren ρ) ∧ av.ok σ2.D = true
  H : ∀ id o, σ2.H id = some o → σ.H (ρ id) = some (o.ren ρ) ∧ o.ok σ2.D = true ∧ σ2.D id = true
  inj : ∀ i j oi oj, σ2.H i = some oi → σ2.H j = some oj → ρ i = ρ j → i = j
/-- The names that are held from without stay. -/
def ancB (X : Cx) (D : Nat → Bool) (ρ : Nat → Nat) : Bool := X.A.all (fun q => D q.1 && Nat.beq (ρ q.1) q.1)
theorem Sat.sub {μ : Mu} {ω : Om} {a : Act} {w : World} {ρ : Nat → Nat} {σ2 : St} (h : Sat X σ μ ω a w) (k : Sub σ σ2 ρ) (hA : ancB X σ2.D ρ = true) : Sat X σ2 (muR σ2.D ρ μ) (fun id => ω (ρ id)) a w := by
  refine ⟨h.kept, by rw [k.n]; exact h.size, h.defers, fun t av ht => ?_, fun id hid => by rw [muR, if_neg (by rw [hid]; simp)], fun id o ho => ?_, fun id o ho => ?_, fun i j oi oj hi hj hne => ?_, fun q hq => ?_⟩
  · obtain ⟨h1, h2⟩ := k.F t av ht
    obtain ⟨v, hv, hc⟩ := h.slot t _ h1
    exact ⟨v, hv, AV.con_ren hc h2⟩
  · obtain ⟨h1, h2, h3⟩ := k.H id o ho
    obtain ⟨v, hv, hh⟩ := h.obj _ _ h1
    exact ⟨v, muR_of h3 hv, AObj.holds_ren hh h2⟩
  · exact h.own _ _ (k.H id o ho).1
  · exact h.sep _ _ _ _ (k.H i oi hi).1 (k.H j oj hj).1 (fun e => hne (k.inj i j oi oj hi hj e))
  · have := List.all_eq_true.1 hA q hq
    rw [Bool.and_eq_true] at this
    have e := Nat.eq_of_beq_eq_true this.2
    exact ⟨muR_of this.1 (by rw [e]; exact (h.anc q hq).1), by rw [e]; exact (h.anc q hq).2⟩
theorem ax_sub {ρ : Nat → Nat} {σ2 : St} (k : Sub σ σ2 ρ) (hA : ancB X σ2.D ρ = true) (h : AX P X c σ2 Q) : AX P X c σ Q := fun _ _ a w hs => h _ _ a w (hs.sub k hA)
def assoc {α : Type _} : List (Nat × α) → Nat → Option α
  | [], _ => none
  | (k, v) :: l, j => bif Nat.beq j k then some v else assoc l j
theorem assoc_mem {α : Type _} : ∀ {l : List (Nat × α)} {j : Nat} {v : α}, assoc l j = some v → (j, v) ∈ l
  | [], _, _, h => by cases h
  | (k, u) :: l, j, v, h => by
    unfold assoc at h
    rcases hb : Nat.beq j k with _ | _
    · rw [hb] at h; exact List.mem_cons_of_mem _ (assoc_mem h)
    · rw [hb] at h
      cases h
      rw [Nat.eq_of_beq_eq_true hb]
      exact List.mem_cons_self
def memB : List Nat → Nat → Bool
  | [], _ => false
  | k :: l, j => Nat.beq j k || memB l j
def keys {α : Type _} : List (Nat × α) → List Nat
  | [] => []
  | (k, _) :: l => k :: keys l
/-- A state of few slots and few objects. -/
def St.of (n : Nat) (fl : List (Nat × AV)) (hl : List (Nat × AObj)) : St := { F := assoc fl, H := assoc hl, D := memB (keys hl), n := n }
def AllF (σ : St) (ρ : Nat → Nat) (D : Nat → Bool) : List (Nat × AV) → Prop
  | [] => True
  | (t, av) :: l => (σ.F t = some (av.ren ρ) ∧ av.ok D = true) ∧ AllF σ ρ D l
def AllH (σ : St) (ρ : Nat → Nat) (D : Nat → Bool) : List (Nat × AObj) → Prop
  | [] => True
  | (t, o) :: l => (σ.H (ρ t) = some (o.ren ρ) ∧ o.ok D = true) ∧ AllH σ ρ D l
def injB (ρ : Nat → Nat) : List Nat → Bool
  | [] => true
  | k :: l => !memB (l.map ρ) (ρ k) && injB ρ l
theorem AllF.get {ρ : Nat → Nat} {D : Nat → Bool} : ∀ {l : List (Nat × AV)}, AllF σ ρ D l → ∀ {t : Nat} {av : AV}, (t, av) ∈ l → σ.F t = some (av.ren ρ) ∧ av.ok D = true
  | (t, av) :: l, h, t', av', hm => by
    rcases List.mem_cons.1 hm with e | hm
    · cases e; exact h.1
    · exact AllF.get h.2 hm
theorem AllH.get {ρ : Nat → Nat} {D : Nat → Bool} : ∀ {l : List (Nat × AObj)}, AllH σ ρ D l → ∀ {t : Nat} {o : AObj}, (t, o) ∈ l → σ.H (ρ t) = some (o.ren ρ) ∧ o.ok D = true
  | (t, av) :: l, h, t', av', hm => by
    rcases List.mem_cons.1 hm with e | hm
    · cases e; exact h.1
    · exact AllH.get h.2 hm
theorem memB_iff : ∀ {l : List Nat} {j : Nat}, memB l j = true ↔ j ∈ l
  | [], j => by simp [memB]
  | k :: l, j => by rw [memB, Bool.or_eq_true, memB_iff, List.mem_cons, Nat.beq_eq]
theorem keys_mem {α : Type _} : ∀ {l : List (Nat × α)} {k : Nat} {v : α}, (k, v) ∈ l → k ∈ keys l
  | (k, v) :: l, k', v', h => by
    rcases List.mem_cons.1 h with e | h
    · cases e; exact List.mem_cons_self
    · exact List.mem_cons_of_mem _ (keys_mem h)
theorem injB_spec {ρ : Nat → Nat} : ∀ {l : List Nat}, injB ρ l = true → ∀ i j, i ∈ l → j ∈ l → ρ i = ρ j → i = j
  | [], _, _, _, h, _, _ => by cases h
  | k :: l, h, i, j, hi, hj, e => by
    simp only [injB, Bool.and_eq_true, Bool.not_eq_true', ← Bool.not_eq_true, memB_iff] at h
    rcases List.mem_cons.1 hi with e1 | hi
    · rcases List.mem_cons.1 hj with e2 | hj
      · rw [e1, e2]
      · exact absurd (List.mem_map.2 ⟨j, hj, by rw [← e, e1]⟩) h.1
    · rcases List.mem_cons.1 hj with e2 | hj
      · exact absurd (List.mem_map.2 ⟨i, hi, by rw [e, e2]⟩) h.1
      · exact injB_spec h.2 i j hi hj e
/-- Names that have changed: (new, old). -/
def renL : List (Nat × Nat) → Nat → Nat
  | [], j => j
  | (k, v) :: l, j => bif Nat.beq j k then v else renL l j
theorem Sub.of {ρ : Nat → Nat} {n : Nat} {fl : List (Nat × AV)} {hl : List (Nat × AObj)} (hn : n = σ.n) (hF : AllF σ ρ (memB (keys hl)) fl) (hH : AllH σ ρ (memB (keys hl)) hl) (hi : injB ρ (keys hl) = true) : Sub σ (St.of n fl hl) ρ where
  n := hn
  F := fun t av h => hF.get (assoc_mem h)
  H := fun id o h => ⟨(hH.get (assoc_mem h)).1, (hH.get (assoc_mem h)).2, memB_iff.2 (keys_mem (assoc_mem h))⟩
  inj := fun i j oi oj h1 h2 e => injB_spec hi i j (keys_mem (assoc_mem h1)) (keys_mem (assoc_mem h2)) e
/-- A loop: what holds at its head is told by a state for each g. -/
theorem ax_loop {γ : Type} (I : γ → St) (p : γ → Prop) (m : γ → Nat) (g0 : γ) {ρ0 : Nat → Nat} (h0 : p g0) (hs0 : Sub σ (I g0) ρ0) (ha0 : ancB X (I g0).D ρ0 = true)
    (round : ∀ g, p g → AX P X c (I g) (Post.then_ (fun σ1 => ∃ g' ρ, p g' ∧ m g' < m g ∧ Sub σ1 (I g') ρ ∧ ancB X (I g').D ρ = true) Q)) : AX P X (.loop c) σ Q := fun μ ω a w hs => by
  refine wp_loop_ghost (fun n a w => ∃ g μ ω, p g ∧ m g = n ∧ Sat X (I g) μ ω a w) (m g0) ⟨g0, _, _, h0, rfl, hs.sub hs0 ha0⟩ ?_
  rintro n a1 w1 ⟨g, μ1, ω1, hp, rfl, hs1⟩
  refine wp_mono (round g hp μ1 ω1 a1 w1 hs1) (fun e a2 w2 hq => ?_)
  obtain ⟨μ2, ω2, σ2, hs2, hq2⟩ := hq
  cases e with
  | normal =>
    obtain ⟨g', ρ, hp', hm, hsub, ha'⟩ := hq2
    exact ⟨m g', hm, g', _, _, hp', rfl, hs2.sub hsub ha'⟩
  | exit id => exact ⟨μ2, ω2, σ2, hs2, hq2⟩
  | goto l => exact ⟨μ2, ω2, σ2, hs2, hq2⟩
  | ret => exact ⟨μ2, ω2, σ2, hs2, hq2⟩
  | panic ch => exact ⟨μ2, ω2, σ2, hs2, hq2⟩
  | outgrown => exact ⟨μ2, ω2, σ2, hs2, hq2⟩
/-! ### A call -/
def Ends (P : Program) (X : Cx) (fn : Func) (R : Ending → World → Prop) : Post
  | .normal, σ | .ret, σ => ∀ μ ω a w, Sat X σ μ ω a w → ∃ v, (results fn a.tmps).run P w = .ok v w ∧ R (.returned v) w
  | _, _ => False
theorem calls_of_ax {f : FuncId} {fn : Func} {args : Array Value} {w : World} {R : Ending → World → Prop} {S : Nat → Prop} {A : List (Nat × Value × (Nat → Prop))} {μ : Mu} {ω : Om} (hf : P.funcs[f]? = some fn) (hb : fn.body = some c) (hs : Sat ⟨w, S, A⟩ σ μ ω { tmps := args ++ Array.replicate (fn.ntmps - args.size) undef, defers := [] } w)
    (h : AX P ⟨w, S, A⟩ c σ (Ends P ⟨w, S, A⟩ fn R)) : Calls P f args w R := by
  refine calls_of_wp hf hb (wp_mono (h μ ω _ w hs) (fun e a1 w1 hq => ?_))
  obtain ⟨μ1, ω1, σ1, hs1, hq1⟩ := hq
  cases e with
  | normal => exact ⟨hs1.defers, hq1 μ1 ω1 a1 w1 hs1⟩
  | ret => exact ⟨hs1.defers, hq1 μ1 ω1 a1 w1 hs1⟩
  | exit id => exact hq1.elim
  | goto l => exact hq1.elim
  | panic ch => exact hq1.elim
  | outgrown => exact hq1.elim
theorem ends_normal {fn : Func} {R : Ending → World → Prop} (h : Ends P X fn R .ret σ) : Ends P X fn R .normal σ := h
end
/-! Operations on memory. -/
def plainT (P : Program) (t : Nat) : Bool := match P.underlying t with
  | some (.struct _) | some (.array _ _) | none => false
  | _ => true
def aggT (P : Program) (t n : Nat) : Bool := match P.underlying t, P.info? t with
  | some (.struct _), some i => Nat.beq i.size n
  | _, _ => false
def sizeT (P : Program) (t n : Nat) : Bool := match P.info? t with
  | some i => Nat.beq i.size n
  | _ => false
section
variable {P : Program} {w : World}
theorem run_plain {t : Nat} (h : plainT P t = true) (w : World) : (isAgg t).run P w = .ok false w := by
  unfold plainT at h
  cases hu : P.underlying t with
  | none => rw [hu] at h; cases h
  | some d => rw [hu] at h; cases d <;> first | (cases h; done) | simp [isAgg, run_underlying hu]
theorem aggT_parts {t n : Nat} (h : aggT P t n = true) : (∃ fs, P.underlying t = some (.struct fs)) ∧ ∃ i, P.info? t = some i ∧ i.size = n := by
  unfold aggT at h
  cases hu : P.underlying t with
  | none => rw [hu] at h; cases h
  | some d =>
    rw [hu] at h
    cases d <;> first
      | (cases h; done)
      | (cases hi : P.info? t with
         | none => rw [hi] at h; cases h
         | some i => rw [hi] at h; exact ⟨⟨_, rfl⟩, i, rfl, Nat.eq_of_beq_eq_true h⟩)
theorem run_agg {t n : Nat} (h : aggT P t n = true) (w : World) : (isAgg t).run P w = .ok true w := by
  obtain ⟨⟨fs, hu⟩, _⟩ := aggT_parts h
  simp [isAgg, run_underlying hu]
theorem sizeT_of_agg {t n : Nat} (h : aggT P t n = true) : sizeT P t n = true := by
  obtain ⟨_, i, hi, hs⟩ := aggT_parts h
  simp [sizeT, hi, hs]
theorem run_size {t n : Nat} (h : sizeT P t n = true) (w : World) : (sizeOf t).run P w = .ok n w := by
  unfold sizeT at h
  cases hi : P.info? t with
  | none => rw [hi] at h; cases h
  | some i => rw [hi] at h; simp [sizeOf, typeInfo, hi, Nat.eq_of_beq_eq_true h]
theorem load_one {t : Nat} {p : Addr} {v : Value} (h : plainT P t = true) (hc : w.cell? p = some v) : (Instr.loadAt t (.pointer (some p))).run P w = .ok v w := by
  simp [Instr.loadAt, Instr.sureAddr, loadVar, run_plain h, hc]
theorem load_agg {t : Nat} {p : Addr} {vs : List Value} (h : aggT P t vs.length = true) (hc : ∀ j v, vs[j]? = some v → w.cell? (p.add j) = some v) : (Instr.loadAt t (.pointer (some p))).run P w = .ok (.agg vs.toArray) w := by
  simp [Instr.loadAt, Instr.sureAddr, loadVar, run_agg h, run_size (sizeT_of_agg h), run_loadCells_list w p vs hc]
theorem add_plain (g o j : Nat) : (⟨g, o, none⟩ : Addr).add j = ⟨g, o + j, none⟩ := by
  unfold Addr.add
  by_cases h : j = 0
  · subst h; simp
  · simp [h]
theorem spot_of_cell {p : Addr} {v : Value} (h : w.cell? p = some v) : p = ⟨p.block, p.off, none⟩ := by
  obtain ⟨b, o, s⟩ := p
  cases s with
  | none => rfl
  | some s => simp [World.cell?] at h; split at h <;> simp_all
theorem cell_off {ad : Addr} {m j : Nat} {u : Value} (h : w.cell? (ad.add (m + j)) = some u) : w.cell? ⟨(ad.add m).block, (ad.add m).off + j, none⟩ = some u := by
  rcases Nat.eq_zero_or_pos j with e | e
  · subst e
    rw [Nat.add_zero] at h ⊢
    rw [← spot_of_cell h]
    exact h
  · rw [← add_field _ _ _ e]; exact h
end
section
variable {P : Program}
/-- A struct's field's address. -/
def fieldT (P : Program) (s f n : Nat) : Bool := match P.underlying s with
  | some (.struct fs) => (match fs[f]? with | some x => Nat.beq x.offset n && (match P.info? x.type with | some i => !Nat.beq i.size 0 | _ => false) | _ => false)
  | _ => false
theorem run_field {s f n : Nat} (h : fieldT P s f n = true) (g off : Nat) (w : World) : (Instr.fieldAt s (.pointer (some ⟨g, off, none⟩)) f).run P w = .ok (.pointer (some ⟨g, off + n, none⟩)) w := by
  unfold fieldT at h
  cases hu : P.underlying s with
  | none => rw [hu] at h; cases h
  | some dd =>
    rw [hu] at h
    cases dd <;> first | (cases h; done) | skip
    rename_i fs
    simp only at h
    cases hf : fs[f]? with
    | none => rw [hf] at h; cases h
    | some y =>
      rw [hf] at h
      simp only [Bool.and_eq_true] at h
      obtain ⟨h1, h2⟩ := h
      cases hi : P.info? y.type with
      | none => rw [hi] at h2; cases h2
      | some i =>
        rw [hi] at h2
        have h2' : (!Nat.beq i.size 0) = true := h2
        have h0 : i.size ≠ 0 := fun e => by rw [e] at h2'; cases h2'
        simp [Instr.fieldAt, run_underlying hu, hf, Instr.sureAddr, fieldPlace, sizeOf, typeInfo, hi, h0, add_plain, Nat.eq_of_beq_eq_true h1]
def sliceT (P : Program) (t e sz : Nat) : Bool := match P.underlying t, P.info? e with
  | some (.slice e'), some i => Nat.beq e' e && Nat.beq i.size sz
  | _, _ => false
theorem sliceT_parts {t e sz : Nat} (h : sliceT P t e sz = true) : P.underlying t = some (.slice e) ∧ sizeT P e sz = true := by
  unfold sliceT at h
  cases hu : P.underlying t with
  | none => rw [hu] at h; cases h
  | some dd =>
    rw [hu] at h
    cases dd <;> first | (cases h; done) | skip
    cases hi : P.info? e with
    | none => rw [hi] at h; cases h
    | some i =>
      rw [hi] at h
      simp only [Bool.and_eq_true] at h
      rw [Nat.eq_of_beq_eq_true h.1]
      exact ⟨rfl, by simp [sizeT, hi, Nat.eq_of_beq_eq_true h.2]⟩
end
/-! The cells of a value, told. -/
def SV.one : SV → Bool
  | .c v => v.oneCell'
  | _ => true
def AV.one : AV → Bool
  | .o s => s.one
  | .a l => l.all SV.one
  | _ => false
def cellsOf : AV → List SV
  | .o s => [s]
  | .a l => l
  | _ => []
theorem SV.con_one {μ : Mu} {s : SV} {v : Value} (h : s.con μ v) (h1 : s.one = true) : v.oneCell' = true := by
  cases s with
  | c u => rw [show v = u from h]; exact h1
  | i id => exact h.2
  | p id off => obtain ⟨g, _, rfl⟩ := h; rfl
  | e id sz ix off => obtain ⟨A, n, c, _, rfl⟩ := h; rfl
  | s id sz lo n => obtain ⟨A, N, c, _, _, A', rfl, _⟩ := h; rfl
  | f fn l => obtain ⟨vs, _, rfl⟩ := h; rfl
theorem conL_one {μ : Mu} : ∀ {l : List SV} {vs : List Value}, conL μ l vs → l.all SV.one = true → ∀ u ∈ vs, u.oneCell' = true
  | [], [], _, _, _, hu => by cases hu
  | _ :: _, _ :: _, h, h1, u, hu => by
    rw [List.all_cons, Bool.and_eq_true] at h1
    rcases List.mem_cons.1 hu with rfl | hu
    · exact SV.con_one h.1 h1.1
    · exact conL_one h.2 h1.2 u hu
  | [], _ :: _, h, _, _, _ => h.elim
  | _ :: _, [], h, _, _, _ => h.elim
theorem cells_con {μ : Mu} {av : AV} {v : Value} (hc : av.con μ v) (h1 : av.one = true) : conL μ (cellsOf av) v.cells.toList ∧ ∀ u ∈ v.cells.toList, u.oneCell' = true := by
  cases av with
  | o s =>
    have := SV.con_one hc h1
    have e : v.cells = #[v] := by cases v <;> first | rfl | (simp [Value.oneCell'] at this; done)
    rw [e]
    exact ⟨⟨hc, trivial⟩, fun u hu => by simp at hu; rw [hu]; exact this⟩
  | a l =>
    obtain ⟨vs, rfl, hc⟩ := hc
    exact ⟨by simpa [Value.cells, cellsOf] using hc, fun u hu => conL_one hc h1 u (by simpa [Value.cells] using hu)⟩
  | t l => cases h1
  | x => cases h1
def setL {β : Type _} (vs : List β) (k : Nat) : List β → List β
  | [] => vs
  | u :: us => setL (vs.set k u) (k + 1) us
theorem conL_setL {μ : Mu} : ∀ {m : List SV} {us : List Value} {l : List SV} {vs : List Value} (k : Nat), conL μ l vs → conL μ m us → conL μ (setL l k m) (setL vs k us)
  | [], [], _, _, _, h, _ => h
  | _ :: _, _ :: _, _, _, k, h, hm => conL_setL (k + 1) (conL_set h k hm.1) hm.2
  | [], _ :: _, _, _, _, _, hm => hm.elim
  | _ :: _, [], _, _, _, _, hm => hm.elim
theorem setL_one : ∀ {us vs : List Value} (k : Nat), (∀ u ∈ vs, u.oneCell' = true) → (∀ u ∈ us, u.oneCell' = true) → ∀ u ∈ setL vs k us, u.oneCell' = true
  | [], _, _, h, _, u, hu => h u hu
  | x :: us, vs, k, h, hs, u, hu => setL_one (k + 1) (fun y hy => (List.mem_or_eq_of_mem_set hy).elim (h y) (fun e => e ▸ hs x List.mem_cons_self)) (fun y hy => hs y (List.mem_cons_of_mem _ hy)) u hu
theorem setL_length {β : Type _} : ∀ (us vs : List β) (k : Nat), (setL vs k us).length = vs.length
  | [], _, _ => rfl
  | _ :: us, vs, k => by rw [setL, setL_length us, List.length_set]
theorem run_storeCells {P : Program} {g off T : Nat} : ∀ (us : List Value) (i : Nat) (vs : Array Value) (w : World), w.heap[g]? = some (.cells vs T (0, 0)) → off + i + us.length ≤ vs.size → (∀ u ∈ us, u.oneCell' = true) →
    ∃ w', (storeCells ⟨g, off, none⟩ us i).run P w = .ok () w' ∧ Kp w w' (fun k => k = g) ∧ w'.heap[g]? = some (.cells (setL vs.toList (off + i) us).toArray T (0, 0))
  | [], i, vs, w, hb, _, _ => ⟨w, by simp [storeCells], Kp.refl _ _, by simpa [setL] using hb⟩
  | u :: us, i, vs, w, hb, hl, h1 => by
    have hlt : off + i < vs.size := by simp at hl; omega
    have hc : w.cell? ⟨g, off + i, none⟩ = some (vs[off + i]) := (blk_cell hb _).trans (Array.getElem?_eq_getElem hlt)
    have hb1 : (w.setCell ⟨g, off + i, none⟩ u).heap[g]? = some (.cells (vs.setIfInBounds (off + i) u) T (0, 0)) := blk_put hb _ _ rfl
    obtain ⟨w', hr, hk, hb'⟩ := run_storeCells (P := P) (off := off) us (i + 1) (vs.setIfInBounds (off + i) u) _ hb1 (by simp at hl ⊢; omega) (fun x hx => h1 x (List.mem_cons_of_mem _ hx))
    refine ⟨w', ?_, (Kp.set w ⟨g, off + i, none⟩ u).then_ hk (fun k hk => .inl hk), ?_⟩
    · simp only [storeCells, Sem.run_bind, add_plain, run_store P w _ u .plain (h1 u List.mem_cons_self), hc, blk_frozen hb, Bool.false_eq_true, if_false, Result.andThen]
      exact hr
    · rw [hb', setL]
      simp [Nat.add_assoc]
theorem run_storeAt {P : Program} {t n g off T : Nat} {v : Value} {vs : Array Value} {w : World} (ht : sizeT P t n = true) (hv : v.cells.size = n) (h1 : ∀ u ∈ v.cells.toList, u.oneCell' = true) (hb : w.heap[g]? = some (.cells vs T (0, 0))) (hl : off + n ≤ vs.size) :
    ∃ w', (Instr.storeAt t (.pointer (some ⟨g, off, none⟩)) v).run P w = .ok () w' ∧ Kp w w' (fun k => k = g) ∧ w'.heap[g]? = some (.cells (setL vs.toList off v.cells.toList).toArray T (0, 0)) := by
  obtain ⟨w', hr, hk, hb'⟩ := run_storeCells (P := P) (off := off) v.cells.toList 0 vs w hb (by simp [hv]; omega) h1
  refine ⟨w', ?_, hk, by simpa using hb'⟩
  simp [Instr.storeAt, Instr.sureAddr, storeVar, run_size ht, hv, hr]
inductive Rdb {α : Type} (d : Kd α) (xs : List α) : AObj → Prop
  | row (t : Nat) : Rdb d xs (.row d t xs)
  | ro : Rdb d xs (.ro d xs)
/-- A kind whose elements are told by their cells alone. -/
def Flat {α : Type} (d : Kd α) (enc : α → List Value) : Prop := (∀ w x cs, d.K w x cs ↔ cs = enc x) ∧ (∀ w B ok x cs, d.M w B ok x cs ↔ cs = enc x)
theorem S_flat {α : Type} {d : Kd α} {enc : α → List Value} {e base : Nat} {w : World} {ok : Nat → Prop} {v : Value} {xs : List α} (hf : Flat d enc) (h : d.R e w base ok v xs) : d.S e w base ok v xs := by
  obtain ⟨h0, inner, ho, hr⟩ := h
  refine ⟨fun _ => 0, h0, inner, by rw [List.length_zipIdx]; exact ho, by rw [List.length_zipIdx]; exact hr.1, fun j p hj => ?_⟩
  rw [List.getElem?_zipIdx, Nat.zero_add] at hj
  obtain ⟨q, hq, rfl⟩ := Option.map_eq_some_iff.1 hj
  exact (hf.2 _ _ _ _ _).2 ((hf.2 _ _ _ _ _).1 (hr.2 j q hq))
theorem flat_flat {α : Type} {n : Nat} {enc : α → List Value} {h : ∀ x, (enc x).length = n} {h1 : ∀ x, ∀ u ∈ enc x, u.oneCell' = true} : Flat (flat n enc h h1) enc := ⟨fun _ _ _ => Iff.rfl, fun _ _ _ _ _ => Iff.rfl⟩
theorem flat_scalar {α : Type} {enc : α → Value} {h1 : ∀ x, (enc x).oneCell' = true} : Flat (Kd.scalar enc h1) (fun x => [enc x]) := ⟨fun _ _ _ => Iff.rfl, fun _ _ _ _ _ => Iff.rfl⟩
theorem Flat.len {α : Type} {d : Kd α} {enc : α → List Value} (h : Flat d enc) (x : α) : (enc x).length = d.sz := d.K_len ((h.1 default x _).2 rfl)
theorem Flat.one {α : Type} {d : Kd α} {enc : α → List Value} (h : Flat d enc) (x : α) : ∀ u ∈ enc x, u.oneCell' = true := d.K_one ((h.1 default x _).2 rfl)
section
variable {P : Program} {X : Cx} {ops : Array Oper} {Q : Exit → Act → World → Prop} {o : Oper} {l : List Oper} {σ : St} {K : List (Pre × Eff) → St → Prop} {lg : List (Nat × AV)} {μ : Mu} {ω : Om} {a : Act} {w : World} {α : Type} {d : Kd α} {enc : α → List Value} {xs : List α}
theorem Rdb.get {id : Nat} {b : AObj} (hr : Rdb d xs b) (h : Sat X σ μ ω a w) (hH : σ.H id = some b) : ∃ A c, μ id = some (.slice A xs.length c) ∧ xs.length ≤ c ∧ d.C w A xs.length xs := by
  obtain ⟨v, hv, hh⟩ := h.obj id b hH
  cases hr with
  | row t =>
    obtain ⟨B, hh⟩ := hh
    obtain ⟨A, c, rfl, hl, hC⟩ := Kd.R_reads (Kd.S_R hh)
    exact ⟨A, c, hv, hl, hC⟩
  | ro =>
    obtain ⟨_, A, c, rfl, hl, hC⟩ := hh
    exact ⟨A, c, hv, hl, hC w h.kept⟩
theorem row_cells {A : Option Addr} {n : Nat} (hC : d.C w A n xs) (hf : Flat d enc) {k : Nat} {x : α} (hx : xs[k]? = some x) : ∃ ad, A = some ad ∧ ∀ j u, (enc x)[j]? = some u → w.cell? (ad.add (k * d.sz + j)) = some u := by
  have hl : k < xs.length := (List.getElem?_eq_some_iff.1 hx).1
  obtain ⟨ad, e, hc⟩ := hC.2.2 (by have := hC.1; omega)
  obtain ⟨c, hs, hr, hcell⟩ := hc k _ hx
  rw [(hf.1 _ _ _).1 hr] at hcell
  exact ⟨ad, e, hcell⟩
/-- What the box holds. -/
theorem Sat.box (h : Sat X σ μ ω a w) {id t : Nat} {cs : List SV} (hH : σ.H id = some (.box t cs)) : ∃ g vs, μ id = some (.pointer (some ⟨g, 0, none⟩)) ∧ (∀ k, ω id k ↔ k = g) ∧ w.heap[g]? = some (.cells vs t (0, 0)) ∧ conL μ cs vs.toList ∧ ∀ u ∈ vs.toList, u.oneCell' = true := by
  obtain ⟨v, hv, g, vs, rfl, h1⟩ := h.obj id _ hH
  exact ⟨g, vs, hv, h1⟩
theorem Sat.ptr (h : Sat X σ μ ω a w) {x : Operand} {id off g : Nat} (hx : opnd σ.F x = some (.o (.p id off))) (hg : μ id = some (.pointer (some ⟨g, 0, none⟩))) : a.eval x = .pointer (some ⟨g, off, none⟩) := by
  obtain ⟨g', h1, h2⟩ := h.ev hx
  rw [hg] at h1
  cases h1
  exact h2
section
variable (hgo : GOn ops σ o lg) (hd : dstOk o.dst σ.n = true)
include hgo hd
theorem Lx.load1 {t : Nat} {x : Operand} {id off T : Nat} {cs : List SV} {s : SV} (ho : o.op = .load t x) (hx : opnd σ.F x = some (.o (.p id off))) (hH : σ.H id = some (.box T cs)) (hs : cs[off]? = some s) (ht : plainT P t = true)
    (h : LX P X ops l (σ.app o.dst ⟨.o s, [], []⟩) (fun C => K ((⟨lg ++ look x (.o (.p id off)), [(id, .box T cs)]⟩, ⟨.o s, [], []⟩) :: C))) : LX P X ops (o :: l) σ K :=
  Lx.val (h := h) hgo.1 hgo.2 hd (look_fits hx) (one_mem hH) (fun σ1 h1 h2 μ ω a w hs1 => by
    obtain ⟨g, vs, hm, _, hb, hc, _⟩ := hs1.box (h2 _ List.mem_cons_self)
    obtain ⟨v, hv, hcv⟩ := conL_get hc hs
    refine ⟨v, ?_, hcv⟩
    unfold execOp
    simp only [ho, hs1.ptr (opnd_of hx h1) hm]
    simp [load_one ht ((blk_cell hb off).trans (by simpa using hv))])
theorem Lx.loadA {t : Nat} {x : Operand} {id off n T : Nat} {cs : List SV} (ho : o.op = .load t x) (hx : opnd σ.F x = some (.o (.p id off))) (hH : σ.H id = some (.box T cs)) (ht : aggT P t n = true) (hn : off + n ≤ cs.length)
    (h : LX P X ops l (σ.app o.dst ⟨.a ((cs.drop off).take n), [], []⟩) (fun C => K ((⟨lg ++ look x (.o (.p id off)), [(id, .box T cs)]⟩, ⟨.a ((cs.drop off).take n), [], []⟩) :: C))) : LX P X ops (o :: l) σ K :=
  Lx.val (h := h) hgo.1 hgo.2 hd (look_fits hx) (one_mem hH) (fun σ1 h1 h2 μ ω a w hs1 => by
    obtain ⟨g, vs, hm, _, hb, hc, _⟩ := hs1.box (h2 _ List.mem_cons_self)
    have hl := conL_len hc
    have hlen : ((vs.toList.drop off).take n).length = n := by rw [List.length_take, List.length_drop, hl]; omega
    refine ⟨.agg ((vs.toList.drop off).take n).toArray, ?_, _, rfl, conL_take (conL_drop hc off) n⟩
    unfold execOp
    simp only [ho, hs1.ptr (opnd_of hx h1) hm]
    have := load_agg (P := P) (w := w) (t := t) (p := ⟨g, off, none⟩) (vs := (vs.toList.drop off).take n) (by rw [hlen]; exact ht) (fun j v hj => by
      rw [add_plain, blk_cell hb]
      have hjn : j < n := by have := (List.getElem?_eq_some_iff.1 hj).1; omega
      rw [List.getElem?_take_of_lt hjn, List.getElem?_drop] at hj
      simpa using hj)
    simp [this])
/-- An element's whole value. -/
theorem Lx.loadE {t : Nat} {x : Operand} {id ix : Nat} {b : AObj} {y : α} (ho : o.op = .load t x) (hx : opnd σ.F x = some (.o (.e id d.sz ix 0))) (hH : σ.H id = some b) (hr : Rdb d xs b) (hf : Flat d enc) (hy : xs[ix]? = some y) (ht : aggT P t d.sz = true)
    (h : LX P X ops l (σ.app o.dst ⟨.a ((enc y).map SV.c), [], []⟩) (fun C => K ((⟨lg ++ look x (.o (.e id d.sz ix 0)), [(id, b)]⟩, ⟨.a ((enc y).map SV.c), [], []⟩) :: C))) : LX P X ops (o :: l) σ K :=
  Lx.val (h := h) hgo.1 hgo.2 hd (look_fits hx) (one_mem hH) (fun σ1 h1 h2 μ ω a w hs1 => by
    obtain ⟨A, c, hm, _, hC⟩ := hr.get hs1 (h2 _ List.mem_cons_self)
    obtain ⟨ad, rfl, hcell⟩ := row_cells hC hf hy
    obtain ⟨A', n', c', hm', hv'⟩ := hs1.ev (opnd_of hx h1)
    rw [hm] at hm'
    cases hm'
    refine ⟨.agg (enc y).toArray, ?_, _, rfl, conL_consts μ _⟩
    unfold execOp
    simp only [ho, hv']
    have := load_agg (P := P) (w := w) (t := t) (p := ⟨(ad.add (ix * d.sz)).block, (ad.add (ix * d.sz)).off + 0, none⟩) (vs := enc y) (by rw [hf.len]; exact ht) (fun j v hj => by
      rw [add_plain, Nat.add_zero]
      exact cell_off (hcell j v hj))
    simp only [Nat.add_zero] at this
    simp [this])
/-- One cell of an element. -/
theorem Lx.loadF {t : Nat} {x : Operand} {id ix off : Nat} {b : AObj} {y : α} {u : Value} (ho : o.op = .load t x) (hx : opnd σ.F x = some (.o (.e id d.sz ix off))) (hH : σ.H id = some b) (hr : Rdb d xs b) (hf : Flat d enc) (hy : xs[ix]? = some y) (hu : (enc y)[off]? = some u) (ht : plainT P t = true)
    (h : LX P X ops l (σ.app o.dst ⟨.o (.c u), [], []⟩) (fun C => K ((⟨lg ++ look x (.o (.e id d.sz ix off)), [(id, b)]⟩, ⟨.o (.c u), [], []⟩) :: C))) : LX P X ops (o :: l) σ K :=
  Lx.val (h := h) hgo.1 hgo.2 hd (look_fits hx) (one_mem hH) (fun σ1 h1 h2 μ ω a w hs1 => by
    obtain ⟨A, c, hm, _, hC⟩ := hr.get hs1 (h2 _ List.mem_cons_self)
    obtain ⟨ad, rfl, hcell⟩ := row_cells hC hf hy
    obtain ⟨A', n', c', hm', hv'⟩ := hs1.ev (opnd_of hx h1)
    rw [hm] at hm'
    cases hm'
    refine ⟨u, ?_, rfl⟩
    unfold execOp
    simp only [ho, hv']
    simp [load_one ht (cell_off (hcell off u hu))])
theorem Lx.nilP {x : Operand} {id off : Nat} (ho : o.op = .nilCheck x) (hx : opnd σ.F x = some (.o (.p id off)))
    (h : LX P X ops l (σ.app o.dst ⟨.o (.p id off), [], []⟩) (fun C => K ((⟨lg ++ look x (.o (.p id off)), []⟩, ⟨.o (.p id off), [], []⟩) :: C))) : LX P X ops (o :: l) σ K :=
  Lx.val (h := h) hgo.1 hgo.2 hd (look_fits hx) no_mem (fun σ1 h1 h2 μ ω a w hs1 => by
    have hc := hs1.ev (opnd_of hx h1)
    refine ⟨a.eval x, ?_, hc⟩
    obtain ⟨g, _, e⟩ := hc
    unfold execOp
    simp [ho, e])
theorem Lx.nilE {x : Operand} {id sz ix off : Nat} (ho : o.op = .nilCheck x) (hx : opnd σ.F x = some (.o (.e id sz ix off)))
    (h : LX P X ops l (σ.app o.dst ⟨.o (.e id sz ix off), [], []⟩) (fun C => K ((⟨lg ++ look x (.o (.e id sz ix off)), []⟩, ⟨.o (.e id sz ix off), [], []⟩) :: C))) : LX P X ops (o :: l) σ K :=
  Lx.val (h := h) hgo.1 hgo.2 hd (look_fits hx) no_mem (fun σ1 h1 h2 μ ω a w hs1 => by
    have hc := hs1.ev (opnd_of hx h1)
    refine ⟨a.eval x, ?_, hc⟩
    obtain ⟨A, n, c, _, e⟩ := hc
    unfold execOp
    simp [ho, e])
theorem Lx.fieldP {s f n : Nat} {x : Operand} {id off : Nat} (ho : o.op = .fieldAddr s x f) (hx : opnd σ.F x = some (.o (.p id off))) (hf : fieldT P s f n = true)
    (h : LX P X ops l (σ.app o.dst ⟨.o (.p id (off + n)), [], []⟩) (fun C => K ((⟨lg ++ look x (.o (.p id off)), []⟩, ⟨.o (.p id (off + n)), [], []⟩) :: C))) : LX P X ops (o :: l) σ K :=
  Lx.val (h := h) hgo.1 hgo.2 hd (look_fits hx) no_mem (fun σ1 h1 h2 μ ω a w hs1 => by
    obtain ⟨g, hm, e⟩ := hs1.ev (opnd_of hx h1)
    refine ⟨_, ?_, g, hm, rfl⟩
    unfold execOp
    simp [ho, e, run_field hf])
theorem Lx.fieldE {s f n : Nat} {x : Operand} {id sz ix off : Nat} (ho : o.op = .fieldAddr s x f) (hx : opnd σ.F x = some (.o (.e id sz ix off))) (hf : fieldT P s f n = true)
    (h : LX P X ops l (σ.app o.dst ⟨.o (.e id sz ix (off + n)), [], []⟩) (fun C => K ((⟨lg ++ look x (.o (.e id sz ix off)), []⟩, ⟨.o (.e id sz ix (off + n)), [], []⟩) :: C))) : LX P X ops (o :: l) σ K :=
  Lx.val (h := h) hgo.1 hgo.2 hd (look_fits hx) no_mem (fun σ1 h1 h2 μ ω a w hs1 => by
    obtain ⟨A, m, c, hm, e⟩ := hs1.ev (opnd_of hx h1)
    refine ⟨_, ?_, A, m, c, hm, rfl⟩
    unfold execOp
    simp [ho, e, run_field hf, Nat.add_assoc])
theorem Lx.index {t e : Nat} {x y : Operand} {id ix : Nat} {b : AObj} {k : IntKind} {i : Int} (ho : o.op = .indexAddr t x y) (hx : opnd σ.F x = some (.o (.i id))) (hy : opnd σ.F y = some (.o (.c (.int k i)))) (hH : σ.H id = some b) (hr : Rdb d xs b) (ht : sliceT P t e d.sz = true) (hi : i = (ix : Int)) (hlt : ix < xs.length) (hz : 0 < d.sz)
    (h : LX P X ops l (σ.app o.dst ⟨.o (.e id d.sz ix 0), [], []⟩) (fun C => K ((⟨lg ++ (look x (.o (.i id)) ++ look y (.o (.c (.int k i)))), [(id, b)]⟩, ⟨.o (.e id d.sz ix 0), [], []⟩) :: C))) : LX P X ops (o :: l) σ K :=
  Lx.val (h := h) hgo.1 hgo.2 hd (mem_app (look_fits hx) (look_fits hy)) (one_mem hH) (fun σ1 h1 h2 μ ω a w hs1 => by
    obtain ⟨A, c, hm, hlc, hC⟩ := hr.get hs1 (h2 _ List.mem_cons_self)
    obtain ⟨ad, hA, hcells⟩ := hC.2.2 (by have := hC.1; omega)
    subst hA
    have e1 : μ id = some (a.eval x) := (hs1.ev (opnd_of hx (app_l h1))).1
    have e2 := hs1.val (opnd_of hy (app_r h1))
    rw [hm] at e1
    injection e1 with e1
    obtain ⟨hu, hsz⟩ := sliceT_parts ht
    obtain ⟨y0, hy0⟩ : ∃ y0, xs[ix]? = some y0 := ⟨xs[ix], List.getElem?_eq_getElem hlt⟩
    obtain ⟨cs, hlen, _, hcell⟩ := hcells ix y0 hy0
    have hc0 : w.cell? (ad.add (ix * d.sz)) = some (cs[0]'(by omega)) := hcell 0 _ (List.getElem?_eq_getElem (by omega))
    refine ⟨.pointer (some (ad.add (ix * d.sz))), ?_, ad, xs.length, c, hm, ?_⟩
    · unfold execOp
      simp only [ho, ← e1, e2, hi]
      simp [Instr.indexAt, asIntOf, run_underlying hu, run_size hsz, hlt]
    · rw [Nat.add_zero, ← spot_of_cell hc0])
theorem Lx.lenI {t : Nat} {x : Operand} {id : Nat} {b : AObj} {e sz : Nat} (ho : o.op = .call { callee := .builtin .len, args := #[x], argTypes := #[t] }) (hx : opnd σ.F x = some (.o (.i id))) (hH : σ.H id = some b) (hr : Rdb d xs b) (ht : sliceT P t e sz = true)
    (h : LX P X ops l (σ.app o.dst ⟨.o (.c (.int .i64 (xs.length : Int))), [], []⟩) (fun C => K ((⟨lg ++ look x (.o (.i id)), [(id, b)]⟩, ⟨.o (.c (.int .i64 (xs.length : Int))), [], []⟩) :: C))) : LX P X ops (o :: l) σ K :=
  Lx.val (h := h) hgo.1 hgo.2 hd (look_fits hx) (one_mem hH) (fun σ1 h1 h2 μ ω a w hs1 => by
    obtain ⟨A, c, hm, hlc, hC⟩ := hr.get hs1 (h2 _ List.mem_cons_self)
    have e1 : μ id = some (a.eval x) := (hs1.ev (opnd_of hx h1)).1
    rw [hm] at e1
    injection e1 with e1
    obtain ⟨hu, hsz⟩ := sliceT_parts ht
    refine ⟨_, ?_, rfl⟩
    unfold execOp
    simp [ho, resolve, invoke, builtin, ← e1, Builtin.len_, run_underlying hu, goInt])
theorem Lx.lenC {t : Nat} {x : Operand} {A : Option Addr} {n c e sz : Nat} (ho : o.op = .call { callee := .builtin .len, args := #[x], argTypes := #[t] }) (hx : opnd σ.F x = some (.o (.c (.slice A n c)))) (ht : sliceT P t e sz = true)
    (h : LX P X ops l (σ.app o.dst ⟨.o (.c (.int .i64 (n : Int))), [], []⟩) (fun C => K ((⟨lg ++ look x (.o (.c (.slice A n c))), []⟩, ⟨.o (.c (.int .i64 (n : Int))), [], []⟩) :: C))) : LX P X ops (o :: l) σ K :=
  Lx.val (h := h) hgo.1 hgo.2 hd (look_fits hx) no_mem (fun σ1 h1 h2 μ ω a w hs1 => by
    have e1 := hs1.val (opnd_of hx h1)
    obtain ⟨hu, hsz⟩ := sliceT_parts ht
    refine ⟨_, ?_, rfl⟩
    unfold execOp
    simp [ho, resolve, invoke, builtin, e1, Builtin.len_, run_underlying hu, goInt])
/-- A variable of its own. -/
def zeroT (P : Program) (t : Nat) (vs : List Value) : Prop := ∃ i, P.info? t = some i ∧ i.zero.map (fun z => z.cells.toList) = some vs
/-- A variable of its own. -/
theorem Lx.alloc {t : Nat} {z : Value} {id : Nat} (ho : o.op = .alloc t) (hz : (P.info? t).bind (·.zero) = some z) (h1 : (ofV z).one = true) (hid : σ.D id = false)
    (h : LX P X ops l (σ.app o.dst ⟨.o (.p id 0), [(id, some (.box t (cellsOf (ofV z))))], [(id, true)]⟩) (fun C => K ((⟨lg ++ [], []⟩, ⟨.o (.p id 0), [(id, some (.box t (cellsOf (ofV z))))], [(id, true)]⟩) :: C))) : LX P X ops (o :: l) σ K :=
  Lx.run (h := h) (p := []) (ph := []) (e := ⟨.o (.p id 0), [(id, some (.box t (cellsOf (ofV z))))], [(id, true)]⟩) hgo.1 hgo.2 no_mem no_mem (one_mem hid) (fun σ1 hn _ _ h3 μ ω a w hs1 K Q hK => by
    obtain ⟨i, hi, hz0⟩ := Option.bind_eq_some_iff.1 hz
    have hrun : (execOp a.eval o).run P w = .ok (.value (.pointer (some ⟨w.heap.size, 0, none⟩))) (w.alloc (.cells z.cells t)) := by
      unfold execOp
      simp [ho, Instr.alloc, zeroValue, typeInfo, hi, hz0, newVar, newRow]
    unfold Oper.wp
    rw [hrun]
    have hcc := fun ν : Mu => cells_con (μ := ν) (ofV_con ν z) h1
    refine hK _ _ _ _ ((hs1.new (id := id) (o := .box t (cellsOf (ofV z))) (v := .pointer (some ⟨w.heap.size, 0, none⟩)) (own := fun k => k = w.heap.size) (h3 _ List.mem_cons_self) (Kp.alloc w _) ⟨w.heap.size, z.cells, rfl, fun _ => Iff.rfl, blk_new _ _, (hcc _).1, (hcc μ).2⟩ (fun k hk => ?_)).put (av := .o (.p id 0)) (dstOk_spec (hn ▸ hd)) ⟨w.heap.size, upd_same _ _ _, rfl⟩)
    subst hk; simp)
theorem Lx.box {t : Nat} {x : Operand} {av : AV} {id : Nat} (ho : o.op = .box t x) (hx : opnd σ.F x = some av) (h1 : av.one = true) (hid : σ.D id = false)
    (h : LX P X ops l (σ.app o.dst ⟨.o (.p id 0), [(id, some (.box t (cellsOf av)))], [(id, true)]⟩) (fun C => K ((⟨lg ++ look x av, []⟩, ⟨.o (.p id 0), [(id, some (.box t (cellsOf av)))], [(id, true)]⟩) :: C))) : LX P X ops (o :: l) σ K :=
  Lx.run (h := h) (p := look x av) (ph := []) (e := ⟨.o (.p id 0), [(id, some (.box t (cellsOf av)))], [(id, true)]⟩) hgo.1 hgo.2 (look_fits hx) no_mem (one_mem hid) (fun σ1 hn h2 _ h3 μ ω a w hs1 K Q hK => by
    have hc := hs1.ev (opnd_of hx h2)
    have hrun : (execOp a.eval o).run P w = .ok (.value (.pointer (some ⟨w.heap.size, 0, none⟩))) (w.alloc (.cells (a.eval x).cells t)) := by
      unfold execOp
      simp [ho, Instr.box, newVar, newRow]
    unfold Oper.wp
    rw [hrun]
    have h0 := hs1.made id (h3 _ List.mem_cons_self)
    have hle : Le μ (upd μ id (some (.pointer (some ⟨w.heap.size, 0, none⟩)))) := fun j u hu => by rw [upd_ne _ (fun e => by rw [e, h0] at hu; cases hu)]; exact hu
    have hcc := cells_con (AV.con_mono hle hc) h1
    refine hK _ _ _ _ ((hs1.new (id := id) (o := .box t (cellsOf av)) (v := .pointer (some ⟨w.heap.size, 0, none⟩)) (own := fun k => k = w.heap.size) (h3 _ List.mem_cons_self) (Kp.alloc w _) ⟨w.heap.size, (a.eval x).cells, rfl, fun _ => Iff.rfl, blk_new _ _, hcc.1, hcc.2⟩ (fun k hk => ?_)).put (av := .o (.p id 0)) (dstOk_spec (hn ▸ hd)) ⟨w.heap.size, upd_same _ _ _, rfl⟩)
    subst hk; simp)
/-- A store into a box. -/
theorem Lx.store {t n T : Nat} {x y : Operand} {av : AV} {id off : Nat} {cs : List SV} (ho : o.op = .store t x y) (hx : opnd σ.F x = some (.o (.p id off))) (hy : opnd σ.F y = some av) (hH : σ.H id = some (.box T cs)) (h1 : av.one = true) (hn : (cellsOf av).length = n) (ht : sizeT P t n = true) (hl : off + n ≤ cs.length)
    (h : LX P X ops l (σ.app o.dst ⟨.o (.c undef), [(id, some (.box T (setL cs off (cellsOf av))))], []⟩) (fun C => K ((⟨lg ++ (look x (.o (.p id off)) ++ look y av), [(id, .box T cs)]⟩, ⟨.o (.c undef), [(id, some (.box T (setL cs off (cellsOf av))))], []⟩) :: C))) : LX P X ops (o :: l) σ K :=
  Lx.run (h := h) (e := ⟨.o (.c undef), [(id, some (.box T (setL cs off (cellsOf av))))], []⟩) hgo.1 hgo.2 (mem_app (look_fits hx) (look_fits hy)) (one_mem hH) no_mem (fun σ1 hn1 h2 h4 h3 μ ω a w hs1 K Q hK => by
    have hH1 := h4 _ List.mem_cons_self
    obtain ⟨g, vs, hm, hown, hb, hc, hone⟩ := hs1.box hH1
    have ep := hs1.ptr (opnd_of hx (app_l h2)) hm
    have hcc := cells_con (hs1.ev (opnd_of hy (app_r h2))) h1
    have hsz : (a.eval y).cells.size = n := by rw [← Array.length_toList, conL_len hcc.1, hn]
    obtain ⟨w', hr, hk, hb'⟩ := run_storeAt (P := P) (off := off) ht hsz hcc.2 hb (by rw [← Array.length_toList, conL_len hc]; exact hl)
    have hrun : (execOp a.eval o).run P w = .ok .skip w' := by
      unfold execOp
      simp [ho, ep, hr]
    unfold Oper.wp
    rw [hrun]
    exact hK _ _ _ _ ((hs1.set (id := id) (o1 := .box T (setL cs off (cellsOf av))) hH1 hm (hk.mono (fun k hk => (hown k).2 hk)) ⟨g, _, rfl, hown, hb', by simpa using conL_setL off hc hcc.1, fun u hu => setL_one off hone hcc.2 u (by simpa using hu)⟩).put (av := .o (.c undef)) (dstOk_spec (hn1 ▸ hd)) rfl))
end
end
/-! Rows of the call's own; values of several parts. -/
theorem Up_upd {μ : Mu} {id : Nat} {v : Value} (h0 : μ id = none) : Le μ (upd μ id (some v)) := fun j u hu => by
  rw [upd_ne _ (fun e => by rw [e, h0] at hu; cases hu)]
  exact hu
theorem two_mem {α : Type _} {p : α → Prop} {x y : α} (h : p x) (k : p y) : ∀ q ∈ [x, y], p q := fun q hq => by
  rcases List.mem_cons.1 hq with e | hq
  · rw [e]; exact h
  · rw [List.mem_singleton.1 hq]; exact k
section
variable {P : Program} {X : Cx} {ops : Array Oper} {o : Oper} {l : List Oper} {σ : St} {K : List (Pre × Eff) → St → Prop} {lg : List (Nat × AV)} {μ : Mu} {ω : Om} {a : Act} {w : World} {α : Type} {d : Kd α} {enc : α → List Value} {xs ys : List α}
def opndL (F : Nat → Option AV) : List (Nat × Operand) → Option (List (Nat × AV))
  | [] => some []
  | (i, x) :: l => match opnd F x, opndL F l with
    | some av, some r => some ((i, av) :: r)
    | _, _ => none
def lookL : List (Nat × Operand) → List (Nat × AV) → List (Nat × AV)
  | (_, x) :: l, (_, av) :: r => look x av ++ lookL l r
  | _, _ => []
theorem opndL_cons {F : Nat → Option AV} {i : Nat} {x : Operand} {l : List (Nat × Operand)} {r : List (Nat × AV)} (h : opndL F ((i, x) :: l) = some r) : ∃ av r', r = (i, av) :: r' ∧ opnd F x = some av ∧ opndL F l = some r' := by
  unfold opndL at h
  cases h1 : opnd F x with
  | none => rw [h1] at h; cases h
  | some av =>
    cases h2 : opndL F l with
    | none => rw [h1, h2] at h; cases h
    | some r' => rw [h1, h2] at h; cases h; exact ⟨av, r', rfl, rfl, rfl⟩
theorem lookL_fits {F : Nat → Option AV} : ∀ {l : List (Nat × Operand)} {r : List (Nat × AV)}, opndL F l = some r → ∀ q ∈ lookL l r, F q.1 = some q.2
  | [], r, h, q, hq => by cases h; cases hq
  | (i, x) :: l, r, h, q, hq => by
    obtain ⟨av, r', rfl, h1, h2⟩ := opndL_cons h
    rcases List.mem_append.1 hq with hq | hq
    · exact look_fits h1 q hq
    · exact lookL_fits h2 q hq
theorem opndL_of {F F1 : Nat → Option AV} : ∀ {l : List (Nat × Operand)} {r : List (Nat × AV)}, opndL F l = some r → (∀ q ∈ lookL l r, F1 q.1 = some q.2) → opndL F1 l = some r
  | [], r, h, _ => by cases h; rfl
  | (i, x) :: l, r, h, hq => by
    obtain ⟨av, r', rfl, h1, h2⟩ := opndL_cons h
    have e1 := opnd_of h1 (app_l hq)
    have e2 := opndL_of h2 (app_r hq)
    unfold opndL
    rw [e1, e2]
def conP (μ : Mu) : List (Nat × AV) → List (Nat × Value) → Prop
  | [], [] => True
  | (i, av) :: l, (j, v) :: r => i = j ∧ av.con μ v ∧ conP μ l r
  | _, _ => False
theorem Sat.evL (hs : Sat X σ μ ω a w) : ∀ {l : List (Nat × Operand)} {r : List (Nat × AV)}, opndL σ.F l = some r → conP μ r (l.map fun q => (q.1, a.eval q.2))
  | [], r, h => by cases h; trivial
  | (i, x) :: l, r, h => by
    obtain ⟨av, r', rfl, h1, h2⟩ := opndL_cons h
    exact ⟨rfl, hs.ev h1, hs.evL h2⟩
/-- The parts of a struct or a slice, laid at their places. -/
def fillA (place : Nat → Option (Nat × Nat)) (cells : List SV) : List (Nat × AV) → Option (List SV)
  | [] => some cells
  | (i, av) :: rest => match place i with
    | none => none
    | some (off, size) => bif av.one && Nat.beq (cellsOf av).length size && Nat.ble (off + size) cells.length then fillA place (setL cells off (cellsOf av)) rest else none
theorem foldl_setL : ∀ (us : List Value) (off j : Nat) (cells : Array Value), (us.zipIdx j).foldl (fun cs (c, k) => cs.setIfInBounds (off + k) c) cells = (setL cells.toList (off + j) us).toArray
  | [], _, _, _ => by simp [setL]
  | u :: us, off, j, cells => by
    rw [List.zipIdx_cons, List.foldl_cons, foldl_setL us off (j + 1), setL]
    simp [Nat.add_assoc]
theorem fill_con {place : Nat → Option (Nat × Nat)} : ∀ {ps : List (Nat × AV)} {vs : List (Nat × Value)} {cs out : List SV} {cells : Array Value}, conP μ ps vs → conL μ cs cells.toList → (∀ u ∈ cells.toList, u.oneCell' = true) → fillA place cs ps = some out →
    ∃ cells', Instr.fill place cells vs = some cells' ∧ conL μ out cells'.toList ∧ cells'.size = cells.size ∧ ∀ u ∈ cells'.toList, u.oneCell' = true
  | [], [], cs, out, cells, _, hc, h1, h => by cases h; exact ⟨cells, rfl, hc, rfl, h1⟩
  | (i, av) :: ps, (j, v) :: vs, cs, out, cells, hp, hc, h1, h => by
    obtain ⟨rfl, hav, hp⟩ := hp
    unfold fillA at h
    unfold Instr.fill
    cases hpl : place i with
    | none => rw [hpl] at h; cases h
    | some os =>
      obtain ⟨off, size⟩ := os
      rw [hpl] at h
      simp only at h ⊢
      cases hb : (av.one && Nat.beq (cellsOf av).length size && Nat.ble (off + size) cs.length) with
      | false => rw [hb] at h; cases h
      | true =>
        rw [hb] at h
        simp only [Bool.and_eq_true] at hb
        obtain ⟨⟨hb1, hb2⟩, hb3⟩ := hb
        have e2 := Nat.eq_of_beq_eq_true hb2
        have e3 := Nat.le_of_ble_eq_true hb3
        have hcc := cells_con hav hb1
        have hsz : v.cells.size = size := by rw [← Array.length_toList, conL_len hcc.1, e2]
        have hlen := conL_len hc
        have hlen' : cells.size = cs.length := by rw [← Array.length_toList, hlen]
        rw [if_neg (by simp [hsz]; omega)]
        have e := foldl_setL v.cells.toList off 0 cells
        have e' : v.cells.zipIdx.foldl (fun cs (x : Value × Nat) => cs.setIfInBounds (off + x.2) x.1) cells = (setL cells.toList off v.cells.toList).toArray := by
          rw [← Array.foldl_toList]
          simpa using e
        rw [e']
        obtain ⟨cells', hf, hcon, hs, hone⟩ := fill_con (cells := (setL cells.toList off v.cells.toList).toArray) hp (by simpa using conL_setL off hc hcc.1) (fun u hu => setL_one off h1 hcc.2 u (by simpa using hu)) h
        exact ⟨cells', hf, hcon, by rw [hs]; simp [setL_length], hone⟩
  | [], _ :: _, _, _, _, hp, _, _, _ => hp.elim
  | _ :: _, [], _, _, _, hp, _, _, _ => hp.elim
theorem flatMap_len {enc : α → List Value} {n : Nat} (h : ∀ x, (enc x).length = n) : ∀ xs : List α, (xs.flatMap enc).length = xs.length * n
  | [] => by simp
  | x :: xs => by rw [List.flatMap_cons, List.length_append, h, flatMap_len h xs, List.length_cons, Nat.succ_mul]; omega
theorem flatMap_at {enc : α → List Value} {n : Nat} (h : ∀ x, (enc x).length = n) : ∀ (xs : List α) (j : Nat) (x : α), xs[j]? = some x → ((xs.flatMap enc).drop (j * n)).take n = enc x
  | y :: xs, 0, x, hj => by
    simp at hj
    subst hj
    rw [Nat.zero_mul, List.drop_zero, List.flatMap_cons, List.take_left' (h y)]
  | y :: xs, j + 1, x, hj => by
    rw [List.flatMap_cons, Nat.succ_mul, Nat.add_comm, ← List.drop_drop, List.drop_left' (h y)]
    exact flatMap_at h xs j x (by simpa using hj)
  | [], _, _, hj => by simp at hj
theorem row_of_cells {g e base : Nat} {ok : Nat → Prop} (hf : Flat d enc) (hb : w.heap[g]? = some (.cells (xs.flatMap enc).toArray e (0, 0))) (hg : base ≤ g) (hok : ok g) (hm : xs.length ≤ 9223372036854775807) : d.R e w base ok (.slice (some ⟨g, 0, none⟩) xs.length xs.length) xs := by
  have hl := flatMap_len hf.len xs
  refine ⟨fun k hk => by cases hk; exact hok, xs.flatMap enc, ⟨hl, .inr ⟨g, xs.length, _, rfl, hg, hb, Nat.le_refl _, hm, by simpa using hl, ?_⟩⟩, hl, fun j x hj => (hf.2 _ _ _ _ _).2 (flatMap_at hf.len xs j x hj)⟩
  exact List.take_of_length_le (by simp [hl])
def zrep {β : Type} : Nat → List β → List β
  | 0, _ => []
  | n + 1, l => l ++ zrep n l
/-- A struct type's fields' places, and its zero cells. -/
def structT (P : Program) (t : Nat) (places : List (Nat × Nat)) (zs : List Value) : Prop := (∃ fs, P.underlying t = some (.struct fs) ∧ (fs.toList.map fun f => (P.info? f.type).map fun i => (f.offset, i.size)) = places.map some) ∧ (P.info? t).bind (·.zero) = some (.agg zs.toArray)
theorem run_mapL {β γ : Type} {w : World} (g : β → Sem γ) (r : β → Option γ) (hr : ∀ x y, r x = some y → (g x).run P w = .ok y w) : ∀ (l : List β) (ps : List γ), l.map r = ps.map some → (l.mapM g).run P w = .ok ps w
  | [], [], _ => rfl
  | x :: l, y :: ps, h => by
    simp only [List.map_cons, List.cons.injEq] at h
    simp [List.mapM_cons, hr x y h.1, run_mapL g r hr l ps h.2]
  | [], _ :: _, h => by simp at h
  | _ :: _, [], h => by simp at h
theorem run_mapA {β γ : Type} {w : World} (g : β → Sem γ) (r : β → Option γ) (hr : ∀ x y, r x = some y → (g x).run P w = .ok y w) (l : Array β) (ps : List γ) (h : l.toList.map r = ps.map some) : (l.mapM g).run P w = .ok ps.toArray w := by
  rw [Array.mapM_eq_mapM_toList]
  simp [run_mapL g r hr _ _ h]
section
variable (hgo : GOn ops σ o lg) (hd : dstOk o.dst σ.n = true)
include hgo hd
theorem Lx.build {t : Nat} {ps : List (Nat × Operand)} {avs : List (Nat × AV)} {places : List (Nat × Nat)} {zs : List Value} {out : List SV} (ho : o.op = .build t ps.toArray) (hx : opndL σ.F ps = some avs) (ht : structT P t places zs) (hz1 : zs.all Value.oneCell' = true) (hf : fillA (fun i => places[i]?) (zs.map SV.c) avs = some out)
    (h : LX P X ops l (σ.app o.dst ⟨.a out, [], []⟩) (fun C => K ((⟨lg ++ lookL ps avs, []⟩, ⟨.a out, [], []⟩) :: C))) : LX P X ops (o :: l) σ K :=
  Lx.val (h := h) hgo.1 hgo.2 hd (lookL_fits hx) no_mem (fun σ1 h1 h2 μ ω a w hs1 => by
    obtain ⟨⟨fs, hu, hpl⟩, hz⟩ := ht
    obtain ⟨i, hi, hz0⟩ := Option.bind_eq_some_iff.1 hz
    obtain ⟨cells', hfill, hcon, _, _⟩ := fill_con (cells := zs.toArray) (hs1.evL (opndL_of hx h1)) (by simpa using conL_consts μ zs) (fun u hu => List.all_eq_true.1 hz1 u (by simpa using hu)) hf
    refine ⟨.agg cells', ?_, cells'.toList, by simp, hcon⟩
    have hfill' : Instr.fill (fun i => places.toArray[i]?) zs.toArray (List.map (fun q => (q.1, a.eval q.2)) ps) = some cells' := by simpa using hfill
    have hm := run_mapA (P := P) (w := w) (fun f : Field => Prod.mk f.offset <$> sizeOf f.type) (fun f => (P.info? f.type).map fun i => (f.offset, i.size)) (fun f y hy => by
      obtain ⟨i, hi, rfl⟩ := Option.map_eq_some_iff.1 hy
      simp [sizeOf, typeInfo, hi]) fs places hpl
    unfold execOp
    simp only [ho]
    simp [Instr.build, zeroValue, typeInfo, hi, hz0, run_underlying hu, Value.cells, hm, hfill])
/-- append(s, x...). -/
theorem Lx.append {s x : Operand} {id id2 nid t e bytes : Nat} {z : Value} {b : AObj} (ho : o.op = .call { callee := .builtin .append, args := #[s, x], argTypes := #[t, t] }) (hsx : opnd σ.F s = some (.o (.i id))) (hx : opnd σ.F x = some (.o (.i id2))) (hH : σ.H id = some (.row d e xs)) (hH2 : σ.H id2 = some b) (hr : Rdb d ys b) (hf : Flat d enc)
    (ht : P.underlying t = some (.slice e)) (hinfo : (P.info? e).map (fun i => (i.zero, i.size, i.bytes)) = some (some z, d.sz, bytes)) (hz : z.cells.size = d.sz) (hs0 : 0 < d.sz) (hb0 : 0 < bytes) (hl : (xs.length + ys.length) * bytes ≤ 140737488355328) (hid : σ.D nid = false)
    (h : LX P X ops l (σ.app o.dst ⟨.o (.i nid), [(id, none), (nid, some (.row d e (xs ++ ys)))], [(nid, true)]⟩) (fun C => K ((⟨lg ++ (look s (.o (.i id)) ++ look x (.o (.i id2))), [(id, .row d e xs), (id2, b)]⟩, ⟨.o (.i nid), [(id, none), (nid, some (.row d e (xs ++ ys)))], [(nid, true)]⟩) :: C))) : LX P X ops (o :: l) σ K :=
  Lx.run (h := h) (e := ⟨.o (.i nid), [(id, none), (nid, some (.row d e (xs ++ ys)))], [(nid, true)]⟩) hgo.1 hgo.2 (mem_app (look_fits hsx) (look_fits hx)) (two_mem hH hH2) (one_mem hid) (fun σ1 hn1 h2 h4 h3 μ ω a w hs1 K Q hK => by
    have hH1 : σ1.H id = some (.row d e xs) := h4 _ List.mem_cons_self
    have hH3 : σ1.H id2 = some b := h4 (id2, b) (by simp)
    have hid1 : σ1.D nid = false := h3 _ List.mem_cons_self
    have es := hs1.ev (opnd_of hsx (app_l h2))
    have ex := hs1.ev (opnd_of hx (app_r h2))
    obtain ⟨v, hv, B, hR⟩ := hs1.obj id _ hH1
    obtain ⟨A, c, hm2, _, hC⟩ := hr.get hs1 hH3
    have ev : a.eval s = v := by have := es.1; rw [hv] at this; injection this with this; exact this.symm
    have ev2 : a.eval x = .slice A ys.length c := by have := ex.1; rw [hm2] at this; injection this with this; exact this.symm
    have hR2 : d.R e w (min B w.heap.size) (fun k => ω id k ∨ w.heap.size ≤ k) v xs := Kd.R_mono (Kd.R_lower (Kd.S_R hR) (Nat.min_le_left _ _)) (fun k hk => .inl hk)
    have hrow : ∀ k, v.ownBlock = some k → ω id k := (Kd.S_R hR).1
    have hgo := Kd.R_append_rows_step (P := P) (ops := #[]) (o := { o with guard := none }) (a := a) (Q := Q) (Kc := K) d (Rr := d.K w) (w0 := w) (W := w) (min B w.heap.size) (by simp [Region.wanted]) s x t e z bytes ho ht hinfo hz hs0 hb0 v xs ys A ys.length c (fun k => ω id k ∨ w.heap.size ≤ k) (fun _ => False) ev ev2 hR2 hC (fun y cs hy => (hf.2 _ _ _ _ _).2 ((hf.1 _ _ _).1 hy)) (fun _ hk => hk.elim) (fun k hk => .inr hk) (Below.refl _ _) (Nat.min_le_right _ _) hl (fun v1 w1 hR1 hb1 hg1 hat1 => by
      obtain ⟨A1, c1, e1⟩ := Kd.R_slice hR1
      refine hK _ _ _ _ ((hs1.turn (id := id) (id1 := nid) (o1 := .row d e (xs ++ ys)) (v := v1) (own := fun k => (ω id k ∨ w.heap.size ≤ k) ∧ k < w1.heap.size) hH1 hid1 ((Kp.of_grown hg1).mono hrow) ⟨_, S_flat hf (Kd.R_mono (Kd.R_bound hR1) (fun k hk => ⟨hk.1, hk.2.2.1⟩))⟩ (fun k hk => hk.1.imp (fun h5 => h5) (fun h5 => ⟨h5, hk.2⟩))).put (av := .o (.i nid)) (dstOk_spec (hn1 ▸ hd)) ⟨upd_same _ _ _, by rw [e1]; rfl⟩))
    rw [if_pos (by simp [Region.wanted])] at hgo
    exact hgo)
theorem Lx.buildS {t e len : Nat} {ps : List (Nat × Operand)} {avs : List (Nat × AV)} {z : Value} {nid : Nat} (ho : o.op = .buildSlice t len ps.toArray) (hx : opndL σ.F ps = some avs) (ht : P.underlying t = some (.slice e)) (hinfo : (P.info? e).map (fun i => (i.zero, i.size)) = some (some z, d.sz)) (hsm : len * d.sz ≤ 16777216)
    (hzs : ((Array.range (len * d.sz)).map (fun i => (if len * d.sz = 0 then #[] else z.cells)[i % (if len * d.sz = 0 then #[] else z.cells).size]!)).toList = zrep len z.cells.toList) (hz1 : (zrep len z.cells.toList).all Value.oneCell' = true) (hfl : fillA (fun i => some (i * d.sz, d.sz)) ((zrep len z.cells.toList).map SV.c) avs = some ((xs.flatMap enc).map SV.c)) (hlen : xs.length = len) (hlm : xs.length ≤ 9223372036854775807) (hf : Flat d enc) (hid : σ.D nid = false)
    (h : LX P X ops l (σ.app o.dst ⟨.o (.i nid), [(nid, some (.row d e xs))], [(nid, true)]⟩) (fun C => K ((⟨lg ++ lookL ps avs, []⟩, ⟨.o (.i nid), [(nid, some (.row d e xs))], [(nid, true)]⟩) :: C))) : LX P X ops (o :: l) σ K :=
  Lx.run (h := h) (ph := []) (e := ⟨.o (.i nid), [(nid, some (.row d e xs))], [(nid, true)]⟩) hgo.1 hgo.2 (lookL_fits hx) no_mem (one_mem hid) (fun σ1 hn1 h1 _ h3 μ ω a w hs1 K Q hK => by
    obtain ⟨i, hi, hzz⟩ := Option.map_eq_some_iff.1 hinfo
    simp only [Prod.mk.injEq] at hzz
    obtain ⟨hz0, hsz⟩ := hzz
    have hid1 : σ1.D nid = false := h3 _ List.mem_cons_self
    generalize zrep len z.cells.toList = zs at hzs hz1 hfl
    obtain ⟨cells', hfill, hcon, _, _⟩ := fill_con (cells := zs.toArray) (hs1.evL (opndL_of hx h1)) (by simpa using conL_consts μ zs) (fun u hu => List.all_eq_true.1 hz1 u (by simpa using hu)) hfl
    have hcells : cells' = (xs.flatMap enc).toArray := by
      have := conL_eq hcon
      rw [← this]
    have hrun : (execOp a.eval o).run P w = .ok (.value (.slice (some ⟨w.heap.size, 0, none⟩) len len)) (w.alloc (.cells cells' e)) := by
      have hgt : ¬ (16777216 < len * d.sz) := by omega
      have hzs' : (Array.range (len * d.sz)).map (fun i => (if len * d.sz = 0 then #[] else z.cells)[i % (if len * d.sz = 0 then #[] else z.cells).size]!) = zs.toArray := by rw [← hzs]
      unfold execOp
      simp only [ho]
      by_cases h0 : len * d.sz = 0
      · have hz' : zs = [] := by rw [h0] at hzs; simpa using hzs.symm
        subst hz'
        have hfill' : Instr.fill (fun i => some (i * d.sz, d.sz)) #[] (List.map (fun q => (q.1, a.eval q.2)) ps) = some cells' := hfill
        simp only [Instr.buildSlice, Sem.run_bind, run_underlying ht, Result.andThen_ok, sizeOf, typeInfo, run_program, hi, Sem.run_pure, hsz, h0, show ∀ f : Nat → Value, Array.map f (Array.range 0) = #[] from fun f => by simp]
        simp [hfill', newRow]
      · simp only [h0, if_false] at hzs'
        have hfill' : Instr.fill (fun i => some (i * d.sz, d.sz)) zs.toArray (List.map (fun q => (q.1, a.eval q.2)) ps) = some cells' := hfill
        simp only [Instr.buildSlice, Sem.run_bind, run_underlying ht, Result.andThen_ok, sizeOf, typeInfo, run_program, hi, Sem.run_pure, hsz]
        simp [zeroValue, typeInfo, hi, hz0, h0, hgt]
        simp only [hzs', hfill']
        simp [newRow]
    unfold Oper.wp
    rw [hrun]
    subst hlen
    refine hK _ _ _ _ ((hs1.new (id := nid) (o := .row d e xs) (v := .slice (some ⟨w.heap.size, 0, none⟩) xs.length xs.length) (own := fun k => k = w.heap.size) hid1 (Kp.alloc w _) ⟨w.heap.size, S_flat hf <| row_of_cells hf (by rw [hcells]; exact blk_new _ _) (Nat.le_refl _) rfl hlm⟩ (fun k hk => ?_)).put (av := .o (.i nid)) (dstOk_spec (hn1 ▸ hd)) ⟨upd_same _ _ _, rfl⟩)
    subst hk; simp)
end
end
end Go.Proofs.Ytplcjkgbjapbmaa.C

import Derived.Test.YtengkenhmnpbeaaUp
import Derived.Test.YtengkenhmnpbeaaUAxe
namespace Go.Proofs.Ytengkenhmnpbeaa.C
open Go.RowKit Go.Proofs.YtengkenhmnpbeaaW Go.Proofs.YtengkenhmnpbeaaW.PrintWords Go.Proofs.Ytengkenhmnpbeaa.U
set_option maxHeartbeats 1000000
set_option maxRecDepth 100000
set_option linter.unusedVariables false
set_option linter.unusedSimpArgs false
instance : DecidableEq Save := fun a b => decidable_of_iff (a.at_ = b.at_ ∧ a.aggs = b.aggs ∧ a.mark = b.mark ∧ a.late = b.late ∧ a.over = b.over) ⟨fun h => by cases a; cases b; simp_all, fun h => by subst h; simp⟩
theorem Save.eq_iff {a b : Save} : a = b ↔ a.at_ = b.at_ ∧ a.aggs = b.aggs ∧ a.mark = b.mark ∧ a.late = b.late ∧ a.over = b.over := ⟨fun h => by subst h; simp, fun h => by cases a; cases b; simp_all⟩
def aggSum (xs : List Save) : Nat := (xs.map (fun x => x.aggs.length)).sum
theorem aggSum_snoc {xs : List Save} {k : Nat} {x : Save} (h : xs[k]? = some x) : aggSum (xs.take (k + 1)) = aggSum (xs.take k) + x.aggs.length := by
  have e : xs.take (k + 1) = xs.take k ++ [x] := by rw [List.take_add_one, h]; rfl
  simp [aggSum, e]
theorem aggSum_take (xs : List Save) (k : Nat) : aggSum (xs.take k) ≤ aggSum xs := by
  have h : aggSum xs = aggSum (xs.take k) + aggSum (xs.drop k) := by
    conv => lhs; rw [← List.take_append_drop k xs]
    unfold aggSum
    rw [List.map_append, List.sum_append]
  omega
theorem aggSum_at {xs : List Save} {k : Nat} {x : Save} (h : xs[k]? = some x) : aggSum (xs.take k) + x.aggs.length ≤ aggSum xs := by
  rw [← aggSum_snoc h]
  exact aggSum_take _ _
theorem aggSum_mem {xs : List Save} {x : Save} (h : x ∈ xs) : x.aggs.length ≤ aggSum xs := by
  obtain ⟨k, hk⟩ := List.mem_iff_getElem?.1 h
  have := aggSum_at hk
  omega
def mkSave (al : Int → Nat → Agg) (k : Int) (x : Save) : Save := ⟨k, (List.range x.aggs.length).map (al (k + 1)), k + 1 + (x.aggs.length : Int) * 6, k + 1 + (x.aggs.length : Int) * 6 + 1, k + 1 + (x.aggs.length : Int) * 6 + 1 + 1⟩
def mkNext (k : Int) (x : Save) : Int := k + 1 + (x.aggs.length : Int) * 6 + 1 + 1 + 1
def mkEnd (k : Int) (xs : List Save) : Int := xs.foldl mkNext k
def mkSaves (al : Int → Nat → Agg) : Int → List Save → List Save
  | _, [] => []
  | k, x :: xs => mkSave al k x :: mkSaves al (mkNext k x) xs
theorem mkEnd_eq : ∀ (xs : List Save) (k : Int), mkEnd k xs = k + 4 * (xs.length : Int) + 6 * (aggSum xs : Int)
  | [], k => by simp [mkEnd, aggSum]
  | x :: xs, k => by
    have := mkEnd_eq xs (mkNext k x)
    unfold mkEnd at this ⊢
    rw [List.foldl_cons, this]
    simp [aggSum, mkNext]
    omega
theorem mkEnd_snoc {xs : List Save} {k : Nat} {x : Save} {k0 : Int} (h : xs[k]? = some x) : mkEnd k0 (xs.take (k + 1)) = mkNext (mkEnd k0 (xs.take k)) x := by
  have e : xs.take (k + 1) = xs.take k ++ [x] := by rw [List.take_add_one, h]; rfl
  rw [mkEnd, e, List.foldl_append]
  rfl
theorem mkSaves_len {al : Int → Nat → Agg} : ∀ (xs : List Save) (k : Int), (mkSaves al k xs).length = xs.length
  | [], _ => rfl
  | x :: xs, k => by rw [mkSaves, List.length_cons, mkSaves_len xs, List.length_cons]
theorem mkSaves_app {al : Int → Nat → Agg} : ∀ (xs ys : List Save) (k : Int), mkSaves al k (xs ++ ys) = mkSaves al k xs ++ mkSaves al (mkEnd k xs) ys
  | [], ys, k => rfl
  | x :: xs, ys, k => by
    rw [List.cons_append, mkSaves, mkSaves, mkSaves_app xs ys]
    rfl
theorem mkSaves_snoc {al : Int → Nat → Agg} {xs : List Save} {k : Nat} {x : Save} {k0 : Int} (h : xs[k]? = some x) : mkSaves al k0 (xs.take (k + 1)) = mkSaves al k0 (xs.take k) ++ [mkSave al (mkEnd k0 (xs.take k)) x] := by
  have e : xs.take (k + 1) = xs.take k ++ [x] := by rw [List.take_add_one, h]; rfl
  rw [e, mkSaves_app]
  rfl
theorem mkSaves_at {al : Int → Nat → Agg} {xs : List Save} {k : Nat} {x : Save} {k0 : Int} (h : xs[k]? = some x) : (mkSaves al k0 xs)[k]? = some (mkSave al (mkEnd k0 (xs.take k)) x) := by
  have hl := (List.getElem?_eq_some_iff.1 h).1
  have e : xs = xs.take (k + 1) ++ xs.drop (k + 1) := (List.take_append_drop _ _).symm
  have h2 := mkSaves_snoc (al := al) (k0 := k0) h
  conv => lhs; rw [e, mkSaves_app, h2]
  have hlen : (mkSaves al k0 (xs.take k)).length = k := by rw [mkSaves_len, List.length_take]; omega
  rw [List.append_assoc, List.getElem?_append_right (by omega), hlen]
  simp
theorem mark_at {al : Int → Nat → Agg} {xs : List Save} {k : Nat} {x : Save} {k0 : Int} (h : xs[k]? = some x) : (mkSaves al k0 (xs.take k) ++ xs.drop k)[k]? = some x := by
  have hl := (List.getElem?_eq_some_iff.1 h).1
  have hlen : (mkSaves al k0 (xs.take k)).length = k := by rw [mkSaves_len, List.length_take]; omega
  rw [List.getElem?_append_right (by omega), hlen]
  simpa using h
theorem mark_set {al : Int → Nat → Agg} {xs : List Save} {k : Nat} {x y : Save} {k0 : Int} (h : xs[k]? = some x) (e : y = mkSave al (mkEnd k0 (xs.take k)) x) : (mkSaves al k0 (xs.take k) ++ xs.drop k).set k y = mkSaves al k0 (xs.take (k + 1)) ++ xs.drop (k + 1) := by
  have hl := (List.getElem?_eq_some_iff.1 h).1
  have hlen : (mkSaves al k0 (xs.take k)).length = k := by rw [mkSaves_len, List.length_take]; omega
  rw [mkSaves_snoc h, List.set_append_right _ _ (by omega), hlen, Nat.sub_self, List.append_assoc, e]
  obtain ⟨_, rfl⟩ := List.getElem?_eq_some_iff.1 h
  rw [List.drop_eq_getElem_cons hl]
  rfl
theorem mark_len2 {al : Int → Nat → Agg} {xs : List Save} {k : Nat} {k0 : Int} (h : k ≤ xs.length) : (mkSaves al k0 (xs.take k) ++ xs.drop k).length = xs.length := by
  rw [List.length_append, mkSaves_len, List.length_take, List.length_drop]; omega
theorem anc_one {X : Cx} {nm : Nat} (h : ∀ D ρ, ([nm].all fun q => D q && Nat.beq (ρ q) q) = true → ancB X D ρ = true) : ∀ q ∈ X.A, q.1 = nm := fun q hq => by
  have h1 := h (fun k => Nat.beq k nm) id (by simp)
  have h2 := List.all_eq_true.1 h1 q hq
  rw [Bool.and_eq_true] at h2
  exact Nat.eq_of_beq_eq_true h2.1
end Go.Proofs.Ytengkenhmnpbeaa.C

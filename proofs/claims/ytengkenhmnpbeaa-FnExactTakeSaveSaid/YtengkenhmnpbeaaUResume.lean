import Derived.Test.YtengkenhmnpbeaaUp
import Derived.Test.YtengkenhmnpbeaaUShard
import Derived.Test.YtengkenhmnpbeaaUSaveb
namespace Go.Proofs.Ytengkenhmnpbeaa.C
open Go.RowKit Go.Proofs.YtengkenhmnpbeaaW Go.Proofs.YtengkenhmnpbeaaW.PrintWords Go.Proofs.Ytengkenhmnpbeaa.U
set_option maxHeartbeats 1000000
set_option maxRecDepth 100000
set_option linter.unusedVariables false
set_option linter.unusedSimpArgs false
def okSave (x : Save) : Bool := inB x.at_ 0 300 && okShard x.aggs x.mark x.late x.over
def lastIx (xs : List Save) (a : Int) : Nat → Int
  | 0 => -1
  | k + 1 => match xs[k]? with | some x => if x.at_ ≤ a then (k : Int) else lastIx xs a k | none => lastIx xs a k
theorem lastIx_hit {xs : List Save} {a : Int} {k : Nat} {x : Save} (hx : xs[k]? = some x) (h : x.at_ ≤ a) : lastIx xs a (k + 1) = (k : Int) := by rw [lastIx, hx]; exact if_pos h
theorem lastIx_miss {xs : List Save} {a : Int} {k : Nat} {x : Save} (hx : xs[k]? = some x) (h : ¬ x.at_ ≤ a) : lastIx xs a (k + 1) = lastIx xs a k := by rw [lastIx, hx]; exact if_neg h
theorem lastIx_lt (xs : List Save) (a : Int) : ∀ k, -1 ≤ lastIx xs a k ∧ lastIx xs a k < (k : Int)
  | 0 => ⟨Int.le_refl _, by simp [lastIx]⟩
  | k + 1 => by
    have := lastIx_lt xs a k
    rw [lastIx]
    split
    · split <;> omega
    · omega
def zSave : Save := ⟨0, [], 0, 0, 0⟩
def resumeOk (xs : List Save) (a : Int) : Bool := decide (xs.length ≤ 20) && xs.all okSave && decide (0 ≤ lastIx xs a xs.length)
def resumeL (xs : List Save) (a : Int) : Save := if resumeOk xs a then (xs[(lastIx xs a xs.length).toNat]?).getD zSave else zSave
theorem resume_bad {xs : List Save} {a : Int} (h : resumeOk xs a = false) : resumeL xs a = zSave := by rw [resumeL, h]; rfl
theorem resume_hit {xs : List Save} {a : Int} {k : Nat} {x : Save} (h1 : xs.length ≤ 20) (h2 : xs.all okSave = true) (h3 : lastIx xs a xs.length = (k : Int)) (hx : xs[k]? = some x) : resumeOk xs a = true ∧ resumeL xs a = x := by
  have h : resumeOk xs a = true := by rw [resumeOk, decide_eq_true h1, h2, h3]; simp
  refine ⟨h, ?_⟩
  rw [resumeL, h, h3, Int.toNat_natCast, hx]
  rfl
theorem resume_many {xs : List Save} {a : Int} (h : ¬ xs.length ≤ 20) : resumeOk xs a = false := by rw [resumeOk, decide_eq_false h]; rfl
theorem resume_wrong {xs : List Save} {a : Int} (h : xs.all okSave = false) : resumeOk xs a = false := by rw [resumeOk, h]; simp
theorem resume_none {xs : List Save} {a : Int} (h : lastIx xs a xs.length < 0) : resumeOk xs a = false := by rw [resumeOk, decide_eq_false (p := 0 ≤ lastIx xs a xs.length) (by omega)]; simp
theorem all_bad {xs : List Save} {k : Nat} {x : Save} (hx : xs[k]? = some x) (h : okSave x = false) : xs.all okSave = false := by
  rw [← Bool.not_eq_true]
  intro e
  rw [List.all_eq_true.1 e x (List.mem_of_getElem? hx)] at h
  cases h
theorem all_to {xs : List Save} (h : noneTo (fun x => !okSave x) xs xs.length) : xs.all okSave = true := List.all_eq_true.2 (fun x hx => by
  obtain ⟨k, hk⟩ := List.mem_iff_getElem?.1 hx
  have := h k (List.getElem?_eq_some_iff.1 hk).1 x hk
  simpa using this)
theorem resume_len (xs : List Save) (a : Int) : (resumeL xs a).aggs.length ≤ aggSum xs := by
  rw [resumeL]
  split
  · cases h : xs[(lastIx xs a xs.length).toNat]? with
    | none => exact Nat.zero_le _
    | some x => exact aggSum_mem (List.mem_of_getElem? h)
  · exact Nat.zero_le _
end Go.Proofs.Ytengkenhmnpbeaa.C

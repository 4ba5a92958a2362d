import Derived.Test.YtengkenhmnpbeaaUp
import Derived.Test.YtengkenhmnpbeaaUInsg
namespace Go.Proofs.Ytengkenhmnpbeaa.C
open Go.RowKit Go.Proofs.YtengkenhmnpbeaaW Go.Proofs.YtengkenhmnpbeaaW.PrintWords Go.Proofs.Ytengkenhmnpbeaa.U
set_option maxHeartbeats 1000000
set_option maxRecDepth 100000
set_option linter.unusedVariables false
set_option linter.unusedSimpArgs false
/-! The order of pairs. -/
def cmpJ (a b : Int) : Int := if a < b then -1 else if b < a then 1 else 0
def orJ : List Int → Int
  | [] => 0
  | v :: l => if v = 0 then orJ l else v
theorem cmpJ_zero {a b : Int} : cmpJ a b = 0 ↔ a = b := by unfold cmpJ; split <;> (try split) <;> omega
theorem cmpJ_neg {a b : Int} : cmpJ a b < 0 ↔ a < b := by unfold cmpJ; split <;> (try split) <;> omega
/-- Lexicographic: the first that parts decides. -/
def lexLt : List Int → List Int → Bool
  | a :: l, b :: m => if a = b then lexLt l m else decide (a < b)
  | _, _ => false
def cmps : List Int → List Int → List Int
  | a :: l, b :: m => cmpJ a b :: cmps l m
  | _, _ => []
theorem orJ_cmps : ∀ l m : List Int, decide (orJ (cmps l m) < 0) = lexLt l m
  | [], _ => by simp [cmps, orJ, lexLt]
  | _ :: _, [] => by simp [cmps, orJ, lexLt]
  | a :: l, b :: m => by
    rw [cmps, orJ, lexLt]
    by_cases h : a = b
    · rw [if_pos (cmpJ_zero.2 h), if_pos h, orJ_cmps l m]
    · rw [if_neg (fun e => h (cmpJ_zero.1 e)), if_neg h]
      simp [cmpJ_neg]
theorem lexLt_asym : ∀ l m : List Int, lexLt l m = true → lexLt m l = false
  | [], _, h => by simp [lexLt] at h
  | _ :: _, [], h => by simp [lexLt] at h
  | a :: l, b :: m, h => by
    rw [lexLt] at h ⊢
    by_cases e : a = b
    · rw [if_pos e] at h
      rw [if_pos e.symm]
      exact lexLt_asym l m h
    · rw [if_neg e] at h
      rw [if_neg (fun h => e h.symm)]
      simp at h ⊢
      omega
theorem lexLt_ntrans : ∀ l m n : List Int, l.length = m.length → m.length = n.length → lexLt l m = false → lexLt m n = false → lexLt l n = false
  | [], _, _, _, _, _, _ => by simp [lexLt]
  | a :: l, b :: m, c :: n, h1, h2, h, k => by
    simp only [List.length_cons, Nat.add_right_cancel_iff] at h1 h2
    rw [lexLt] at h k ⊢
    by_cases e : a = b
    · subst e
      rw [if_pos rfl] at h
      by_cases e2 : a = c
      · subst e2
        rw [if_pos rfl] at k ⊢
        exact lexLt_ntrans l m n h1 h2 h k
      · rw [if_neg e2] at k ⊢
        exact k
    · rw [if_neg e] at h
      simp at h
      by_cases e2 : b = c
      · subst e2
        rw [if_neg e]
        simp
        omega
      · rw [if_neg e2] at k
        simp at k
        rw [if_neg (by omega)]
        simp
        omega
  | _ :: _, [], _, h, _, _, _ => by simp at h
  | _ :: _, _ :: _, [], _, h, _, _ => by simp at h
theorem lexLt_total : ∀ l m : List Int, l.length = m.length → lexLt l m = false → lexLt m l = false → l = m
  | [], [], _, _, _ => rfl
  | a :: l, b :: m, hl, h, k => by
    simp only [List.length_cons, Nat.add_right_cancel_iff] at hl
    rw [lexLt] at h k
    by_cases e : a = b
    · subst e
      rw [if_pos rfl] at h k
      rw [lexLt_total l m hl h k]
    · rw [if_neg e] at h
      rw [if_neg (fun x => e x.symm)] at k
      simp at h k
      omega
  | [], _ :: _, h, _, _ => by simp at h
  | _ :: _, [], h, _, _ => by simp at h
def Pair.key5 (p : Pair) : List Int := [p.key, p.lt, p.rt, p.left, p.right]
def pairC (a b : Pair) : Int := orJ (cmps a.key5 b.key5)
def pairLt (a b : Pair) : Bool := lexLt a.key5 b.key5
theorem pairC_lt (a b : Pair) : decide (pairC a b < 0) = pairLt a b := orJ_cmps _ _
theorem pairLt_wo : Wo pairLt := ⟨fun x y h => lexLt_asym _ _ h, fun x y z h k => lexLt_ntrans x.key5 y.key5 z.key5 rfl rfl h k⟩
theorem pairLt_total (x y : Pair) (h : pairLt x y = false) (k : pairLt y x = false) : x = y := by
  have := lexLt_total x.key5 y.key5 rfl h k
  simp only [Pair.key5, List.cons.injEq] at this
  exact Pair.ext' ⟨this.1, this.2.1, this.2.2.1, this.2.2.2.1, this.2.2.2.2.1⟩
theorem sortP_merge (L : List Pair) : (L.mergeSort fun x y => !pairLt y x) = sortL pairLt L := sortL_merge pairLt_wo pairLt_total L
def samePairs (a b : List Pair) : Bool := decide (a.length ≤ 1600) && (decide (b.length ≤ 1600) && decide (sortL pairLt a = sortL pairLt b))
end Go.Proofs.Ytengkenhmnpbeaa.C

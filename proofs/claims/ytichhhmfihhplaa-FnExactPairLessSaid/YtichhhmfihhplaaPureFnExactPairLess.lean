/- FnExactPairLess: the program's PairLess orders two pairs as the reference does: for all pairs. -/
import Derived.Test.YtichhhmfihhplaaPFnExactPairLessx2
import Derived.Test.YtichhhmfihhplaaKit
namespace Go.Proofs.Ytichhhmfihhplaa.Pure
open Go.RowKit Go.Proofs.Ytichhhmfihhplaa.PFnExactPairLess Go.Proofs.YtichhhmfihhplaaW.PrintWords Go.Proofs.YtichhhmfihhplaaW.PrintLast Go.Proofs.Ytichhhmfihhplaa.Kit
set_option linter.unusedVariables false
set_option linter.unusedSimpArgs false

/-- cmp.Compare of two ints. -/
def cmpI (a b : Int) : Int := if a < b then -1 else if b < a then 1 else 0
theorem cmp_eq (a b : Int) : cmp_Compare_int.f a b = some (cmpI a b) := by
  unfold cmp_Compare_int.f cmp_isNaN_int.f cmpI
  by_cases h : a < b <;> by_cases h' : b < a <;> simp [h, h']
theorem cmpI_zero {a b : Int} : cmpI a b = 0 ↔ a = b := by
  unfold cmpI
  split
  · constructor <;> intro h <;> omega
  · split
    · constructor <;> intro h <;> omega
    · constructor <;> intro h <;> omega
theorem cmpI_neg {a b : Int} : cmpI a b < 0 ↔ a < b := by
  unfold cmpI
  split
  · constructor <;> intro h <;> omega
  · split
    · constructor <;> intro h <;> omega
    · constructor <;> intro h <;> omega
/-- cmp.Or: the first that is not 0. -/
def orOf : List Int → Int
  | [] => 0
  | x :: r => if x = 0 then orOf r else x
theorem or_l0 (l : List Int) (hl : l.length ≤ 1000) : ∀ (d i : Nat), i + d = l.length → Evt fun k => cmp_Or_int.l0 k 0 l (l.length : Int) (i : Int) = some (orOf (l.drop i)) := by
  intro d
  induction d with
  | zero =>
    intro i h
    refine Evt.step0 fun k => ?_
    rw [cmp_Or_int.l0, if_neg (by omega), List.drop_of_length_le (by omega)]
    rfl
  | succ d ih =>
    intro i h
    have hi : i < l.length := by omega
    refine (ih (i + 1) (by omega)).step fun k hk => ?_
    rw [cmp_Or_int.l0, if_pos (ilt hi), if_pos (i0 i), if_pos (ilt hi), rd_at hi, wrap_nat hi (by omega), hk, drop_at hi]
    rw [show orOf (l[i] :: l.drop (i + 1)) = if l[i] = 0 then orOf (l.drop (i + 1)) else l[i] from rfl]
    split <;> rfl
theorem or_ev (l : List Int) (hl : l.length ≤ 1000) : Evt fun k => cmp_Or_int.f k l = some (orOf l) := or_l0 l hl l.length 0 (by omega)

def ord5 (a0 a1 a2 a3 a4 b0 b1 b2 b3 b4 : Int) : Int := orOf [cmpI a0 b0, cmpI a1 b1, cmpI a2 b2, cmpI a3 b3, cmpI a4 b4]
theorem impl_pairOrder_ev (a0 a1 a2 a3 a4 b0 b1 b2 b3 b4 : Int) : Evt fun k => impl_pairOrder.f k a0 a1 a2 a3 a4 b0 b1 b2 b3 b4 = some (ord5 a0 a1 a2 a3 a4 b0 b1 b2 b3 b4) :=
  (or_ev [cmpI a0 b0, cmpI a1 b1, cmpI a2 b2, cmpI a3 b3, cmpI a4 b4] (by simp)).map fun k hk => by
    simp only [impl_pairOrder.f, cmp_eq, Option.bind_some, hk]
    rfl
theorem spec_PairLess_ev (a0 a1 a2 a3 a4 b0 b1 b2 b3 b4 : Int) : Evt fun k => spec_PairLess.f k a0 a1 a2 a3 a4 b0 b1 b2 b3 b4 = some (decide (ord5 a0 a1 a2 a3 a4 b0 b1 b2 b3 b4 < 0)) := by
  refine Evt.step (Evt.step (Evt.step (Evt.step (Evt.step (Evt.step (Evt.of (p := fun _ => True) fun _ => trivial) (q := fun k => ∃ m, k = m + 1) fun k _ => ⟨k, rfl⟩) (q := fun k => ∃ m, k = m + 2) fun k ⟨m, hm⟩ => ⟨m, by omega⟩) (q := fun k => ∃ m, k = m + 3) fun k ⟨m, hm⟩ => ⟨m, by omega⟩) (q := fun k => ∃ m, k = m + 4) fun k ⟨m, hm⟩ => ⟨m, by omega⟩) (q := fun k => ∃ m, k = m + 5) fun k ⟨m, hm⟩ => ⟨m, by omega⟩) fun k ⟨m, hm⟩ => ?_
  subst hm
  have w1 : wrap64 1 = 1 := wrap_in (by omega) (by omega)
  have w2 : wrap64 2 = 2 := wrap_in (by omega) (by omega)
  have w3 : wrap64 3 = 3 := wrap_in (by omega) (by omega)
  have w4 : wrap64 4 = 4 := wrap_in (by omega) (by omega)
  have w5 : wrap64 5 = 5 := wrap_in (by omega) (by omega)
  unfold spec_PairLess.f ord5
  by_cases h0 : a0 = b0
  · by_cases h1 : a1 = b1
    · by_cases h2 : a2 = b2
      · by_cases h3 : a3 = b3
        · by_cases h4 : a4 = b4
          · simp [spec_PairLess.l0, rd, w1, w2, w3, w4, w5, orOf, cmpI_zero, h0, h1, h2, h3, h4]
          · simp [spec_PairLess.l0, rd, w1, w2, w3, w4, w5, orOf, cmpI_zero, cmpI_neg, h0, h1, h2, h3, h4]
        · simp [spec_PairLess.l0, rd, w1, w2, w3, w4, w5, orOf, cmpI_zero, cmpI_neg, h0, h1, h2, h3]
      · simp [spec_PairLess.l0, rd, w1, w2, w3, w4, w5, orOf, cmpI_zero, cmpI_neg, h0, h1, h2]
    · simp [spec_PairLess.l0, rd, w1, w2, w3, w4, w5, orOf, cmpI_zero, cmpI_neg, h0, h1]
  · simp [spec_PairLess.l0, rd, w1, w2, w3, w4, w5, orOf, cmpI_zero, cmpI_neg, h0]

theorem FnExactPairLess (x0 x1 : Int × Int × Int × Int × Int) (_ : I64 x0.1 ∧ I64 x0.2.1 ∧ I64 x0.2.2.1 ∧ I64 x0.2.2.2.1 ∧ I64 x0.2.2.2.2) (_ : I64 x1.1 ∧ I64 x1.2.1 ∧ I64 x1.2.2.1 ∧ I64 x1.2.2.2.1 ∧ I64 x1.2.2.2.2) :
    ∃ k, laws_FnExactPairLess.f k x0.1 x0.2.1 x0.2.2.1 x0.2.2.2.1 x0.2.2.2.2 x1.1 x1.2.1 x1.2.2.1 x1.2.2.2.1 x1.2.2.2.2 = some true := by
  obtain ⟨a0, a1, a2, a3, a4⟩ := x0
  obtain ⟨b0, b1, b2, b3, b4⟩ := x1
  obtain ⟨k, h1, h2⟩ := ((spec_PairLess_ev a0 a1 a2 a3 a4 b0 b1 b2 b3 b4).and (impl_pairOrder_ev a0 a1 a2 a3 a4 b0 b1 b2 b3 b4)).ex
  refine ⟨k, ?_⟩
  have h3 : impl_PairLess.f k a0 a1 a2 a3 a4 b0 b1 b2 b3 b4 = some (decide (ord5 a0 a1 a2 a3 a4 b0 b1 b2 b3 b4 < 0)) := by
    rw [impl_PairLess.f, h2]
    rfl
  simp only [laws_FnExactPairLess.f, laws_toPair.f, Option.bind_some, h1, h3]
  simp
end Go.Proofs.Ytichhhmfihhplaa.Pure

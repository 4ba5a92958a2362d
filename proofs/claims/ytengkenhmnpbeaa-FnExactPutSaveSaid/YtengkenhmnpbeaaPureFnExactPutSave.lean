/- FnExactPutSave: the program's PutSave makes of a save the bytes that the reference's makes, in new memory, and leaves it alone: for all saves. -/
import Derived.Test.YtengkenhmnpbeaaPFnExactPutSavex
import Derived.Test.YtengkenhmnpbeaaKit
import Derived.Laws.BitsLemmas
namespace Go.Proofs.Ytengkenhmnpbeaa.Pure
open Go Go.RowKit Go.Proofs.Ytengkenhmnpbeaa.PFnExactPutSave Go.Proofs.YtengkenhmnpbeaaW.PrintWords Go.Proofs.YtengkenhmnpbeaaW.PrintLast Go.Proofs.YtengkenhmnpbeaaW.PrintMore Go.Proofs.Ytengkenhmnpbeaa.Kit
set_option linter.unusedVariables false
set_option linter.unusedSimpArgs false

theorem rdAgg_at {xs : List S84} {i : Nat} (h : i < xs.length) : rd_T84 xs (i : Int) = xs[i] := by
  simp [rd_T84, List.getD_eq_getElem?_getD, List.getElem?_eq_getElem h]
theorem rdAgg_set {xs : List S84} {i : Nat} (h : i < xs.length) (v : S84) : rd_T84 (xs.set i v) (i : Int) = v := by
  rw [rdAgg_at (by simpa using h)]
  simp

theorem rdLAgg_at {xs : List S116} {i : Nat} (h : i < xs.length) : rd_T116 xs (i : Int) = xs[i] := by
  simp [rd_T116, List.getD_eq_getElem?_getD, List.getElem?_eq_getElem h]
def cvAgg (x : S116) : S84 := ⟨x.f0, x.f1, x.f2, x.f3, x.f4, x.f5⟩
theorem toAggS_l0 (l : List S116) (hl : l.length ≤ 9223372036854775807) : ∀ (d i : Nat) (x : List S84), i + d = l.length → x.length = (l.map cvAgg).length → x.take i = (l.map cvAgg).take i →
    Evt fun k => laws_toAggS.l0 k l x (i : Int) = some (l.map cvAgg) := by
  intro d
  induction d with
  | zero =>
    intro i x h hx ht
    refine Evt.step0 fun k => ?_
    rw [laws_toAggS.l0, if_neg (by omega), fill_end hx (by simp; omega) ht]
  | succ d ih =>
    intro i x h hx ht
    have hi : i < l.length := by omega
    obtain ⟨h1, h2⟩ := fill_step (v := cvAgg l[i]) hx (by simpa using hi) ht (by simp)
    have hxl : (i : Int) < (x.length : Int) := by rw [hx, List.length_map]; omega
    refine (ih (i + 1) (x.set i (cvAgg l[i])) (by omega) h1 h2).step fun k hk => ?_
    rw [laws_toAggS.l0, if_pos (ilt hi), if_pos (i0 i), rdLAgg_at hi]
    simp only [laws_toAgg.f, Option.bind_some, Int.toNat_natCast]
    rw [if_pos hxl, wrap_nat hi hl]
    exact hk
theorem toAggS_ev (l : List S116) (hl : l.length ≤ 1048576) : Evt fun k => laws_toAggS.f k l = some (l.map cvAgg) := by
  refine (toAggS_l0 l (by omega) l.length 0 (List.replicate l.length z84) (by omega) (by simp) (by simp)).map fun k hk => ?_
  rw [laws_toAggS.f, if_pos (by omega), if_pos (by omega)]
  exact hk

theorem eqAgg_refl (x : S84) : laws_eqAgg.f x.f0 x.f1 x.f2 x.f3 x.f4 x.f5 x.f0 x.f1 x.f2 x.f3 x.f4 x.f5 = some true := by simp [laws_eqAgg.f]
theorem eqAggS_l0 (l : List S84) (hl : l.length ≤ 9223372036854775807) : ∀ (d i : Nat), i + d = l.length → Evt fun k => laws_eqAggS.l0 k l l (i : Int) = some true := by
  intro d
  induction d with
  | zero =>
    intro i h
    refine Evt.step0 fun k => ?_
    rw [laws_eqAggS.l0, if_neg (by omega)]
  | succ d ih =>
    intro i h
    have hi : i < l.length := by omega
    refine (ih (i + 1) (by omega)).step fun k hk => ?_
    rw [laws_eqAggS.l0, if_pos (ilt hi), if_pos (i0 i), if_pos (ilt hi), eqAgg_refl]
    simp only [Option.bind_some, if_true]
    rw [wrap_nat hi hl]
    exact hk
theorem eqAggS_ev (l : List S84) (hl : l.length ≤ 9223372036854775807) : Evt fun k => laws_eqAggS.f k l l = some true :=
  (eqAggS_l0 l hl l.length 0 (by omega)).map fun k hk => by rw [laws_eqAggS.f, if_pos rfl]; exact hk

theorem l01In_eq (a b c : Int) : spec_l01In.f a b c = some (decide (b ≤ a ∧ a ≤ c)) := by
  unfold spec_l01In.f
  by_cases h : b ≤ a <;> simp [h]
theorem within_eq (a b c : Int) : impl_within.f a b c = some (decide (b ≤ a ∧ a ≤ c)) := by
  unfold impl_within.f
  by_cases h : b ≤ a <;> simp [h]
theorem impl_isTime_eq (t : Int) : impl_isTime.f t = some (decide (0 ≤ t ∧ t ≤ 1000000)) := by
  unfold impl_isTime.f
  simp only [within_eq, Option.bind_some]
theorem impl_isKey_eq (t : Int) : impl_isKey.f t = some (decide (0 ≤ t ∧ t ≤ 65535)) := by
  unfold impl_isKey.f
  simp only [within_eq, Option.bind_some]
theorem impl_isValue_eq (t : Int) : impl_isValue.f t = some (decide (-1000000 ≤ t ∧ t ≤ 1000000)) := by
  unfold impl_isValue.f
  simp only [within_eq, Option.bind_some]
theorem impl_isSum_eq (t : Int) : impl_isSum.f t = some (decide (-1000000000 ≤ t ∧ t ≤ 1000000000)) := by
  unfold impl_isSum.f
  simp only [within_eq, Option.bind_some]
/-- A right aggregate. -/
def aggB (a b c d e f : Int) : Bool := decide ((0 ≤ a ∧ a ≤ 1000000) ∧ (0 ≤ b ∧ b ≤ 65535) ∧ (1 ≤ c ∧ c ≤ 1000000000) ∧ (-1000000000 ≤ d ∧ d ≤ 1000000000) ∧ (-1000000 ≤ e ∧ e ≤ 1000000) ∧ (-1000000 ≤ f ∧ f ≤ 1000000) ∧ e ≤ f)
theorem spec_AggOk_eq (a b c d e f : Int) : spec_AggOk.f a b c d e f = some (aggB a b c d e f) := by
  unfold spec_AggOk.f aggB spec_l05Value.f
  simp only [l01In_eq, Option.bind_some]
  by_cases h1 : 0 ≤ a ∧ a ≤ 1000000 <;> simp only [h1, decide_true, decide_false, if_true, Bool.false_eq_true, if_false, true_and, false_and, and_self]
  by_cases h2 : 0 ≤ b ∧ b ≤ 65535 <;> simp only [h2, decide_true, decide_false, if_true, Bool.false_eq_true, if_false, true_and, false_and, and_self]
  by_cases h3 : 1 ≤ c ∧ c ≤ 1000000000 <;> simp only [h3, decide_true, decide_false, if_true, Bool.false_eq_true, if_false, true_and, false_and, and_self]
  by_cases h4 : -1000000000 ≤ d ∧ d ≤ 1000000000 <;> simp only [h4, decide_true, decide_false, if_true, Bool.false_eq_true, if_false, true_and, false_and, and_self]
  by_cases h5 : -1000000 ≤ e ∧ e ≤ 1000000 <;> simp only [h5, decide_true, decide_false, if_true, Bool.false_eq_true, if_false, true_and, false_and, and_self]
  by_cases h6 : -1000000 ≤ f ∧ f ≤ 1000000 <;> simp only [h6, decide_true, decide_false, if_true, Bool.false_eq_true, if_false, true_and, false_and, and_self]
theorem impl_AggOk_eq (a b c d e f : Int) : impl_AggOk.f a b c d e f = some (aggB a b c d e f) := by
  unfold impl_AggOk.f aggB
  simp only [within_eq, impl_isTime_eq, impl_isKey_eq, impl_isValue_eq, impl_isSum_eq, Option.bind_some]
  by_cases h1 : 0 ≤ a ∧ a ≤ 1000000 <;> simp only [h1, decide_true, decide_false, if_true, Bool.false_eq_true, if_false, true_and, false_and, and_self]
  by_cases h2 : 0 ≤ b ∧ b ≤ 65535 <;> simp only [h2, decide_true, decide_false, if_true, Bool.false_eq_true, if_false, true_and, false_and, and_self]
  by_cases h3 : 1 ≤ c ∧ c ≤ 1000000000 <;> simp only [h3, decide_true, decide_false, if_true, Bool.false_eq_true, if_false, true_and, false_and, and_self]
  by_cases h4 : -1000000000 ≤ d ∧ d ≤ 1000000000 <;> simp only [h4, decide_true, decide_false, if_true, Bool.false_eq_true, if_false, true_and, false_and, and_self]
  by_cases h5 : -1000000 ≤ e ∧ e ≤ 1000000 <;> simp only [h5, decide_true, decide_false, if_true, Bool.false_eq_true, if_false, true_and, false_and, and_self]
  by_cases h6 : -1000000 ≤ f ∧ f ≤ 1000000 <;> simp only [h6, decide_true, decide_false, if_true, Bool.false_eq_true, if_false, true_and, false_and, and_self]
/-- A right aggregate, as a struct. -/
def aggOf (s : S84) : Bool := aggB s.f0 s.f1 s.f2 s.f3 s.f4 s.f5
theorem impl_areAggs_1_eq (s : S84) : impl_areAggs_1.f s.f0 s.f1 s.f2 s.f3 s.f4 s.f5 = some (!aggOf s) := by
  unfold impl_areAggs_1.f
  rw [impl_AggOk_eq]
  rfl
theorem index_areAggs_l0 (l : List S84) (hl : l.length ≤ 1048576) : ∀ (d i : Nat), i + d = l.length →
    ∃ r : Int, (Evt fun k => slices_IndexFunc_impl_Agg_impl_Agg_impl_areAggs_1.l0 k l (l.length : Int) (i : Int) = some r) ∧ decide (r ≥ 0) = !(l.drop i).all aggOf := by
  intro d
  induction d with
  | zero =>
    intro i h
    refine ⟨-1, Evt.step0 fun k => ?_, ?_⟩
    · rw [slices_IndexFunc_impl_Agg_impl_Agg_impl_areAggs_1.l0, if_neg (by omega)]
    · rw [List.drop_of_length_le (by omega)]; rfl
  | succ d ih =>
    intro i h
    have hi : i < l.length := by omega
    by_cases h1 : aggOf l[i] = true
    · obtain ⟨r, hr, hb⟩ := ih (i + 1) (by omega)
      refine ⟨r, hr.step fun k hk => ?_, ?_⟩
      · rw [slices_IndexFunc_impl_Agg_impl_Agg_impl_areAggs_1.l0, if_pos (ilt hi), if_pos (i0 i), if_pos (ilt hi), rdAgg_at hi, impl_areAggs_1_eq]
        simp only [Option.bind_some, h1]
        rw [if_neg (by simp), wrap_nat hi (by omega), hk]
      · rw [drop_at hi, List.all_cons, h1, hb]; simp
    · refine ⟨(i : Int), Evt.step0 fun k => ?_, ?_⟩
      · rw [slices_IndexFunc_impl_Agg_impl_Agg_impl_areAggs_1.l0, if_pos (ilt hi), if_pos (i0 i), if_pos (ilt hi), rdAgg_at hi, impl_areAggs_1_eq]
        simp [h1]
      · rw [drop_at hi, List.all_cons]; simp [h1]
theorem impl_areAggs_ev (l : List S84) (hl : l.length ≤ 1048576) : Evt fun k => impl_areAggs.f k l = some (l.all aggOf) := by
  obtain ⟨r, hr, hb⟩ := index_areAggs_l0 l hl l.length 0 (by omega)
  refine hr.map fun k hk => ?_
  have hk' : slices_IndexFunc_impl_Agg_impl_Agg_impl_areAggs_1.f k l () = some r := hk
  unfold impl_areAggs.f slices_ContainsFunc_impl_Agg_impl_Agg_impl_areAggs_1.f
  rw [hk']
  simp only [Option.bind_some, hb]
  simp

/-- cmp.Compare of two ints. -/
def cmpI (a b : Int) : Int := if a < b then -1 else if b < a then 1 else 0
theorem cmp_eq (a b : Int) : cmp_Compare_int.f a b = some (cmpI a b) := by
  unfold cmp_Compare_int.f cmp_isNaN_int.f cmpI
  by_cases h : a < b <;> by_cases h' : b < a <;> simp [h, h']
theorem cmpI_zero {a b : Int} : cmpI a b = 0 ↔ a = b := by
  unfold cmpI
  split
  · constructor <;> intro h <;> omega
  · split
    · constructor <;> intro h <;> omega
    · constructor <;> intro h <;> omega
theorem cmpI_neg {a b : Int} : cmpI a b < 0 ↔ a < b := by
  unfold cmpI
  split
  · constructor <;> intro h <;> omega
  · split
    · constructor <;> intro h <;> omega
    · constructor <;> intro h <;> omega
/-- cmp.Or: the first that is not 0. -/
def orOf : List Int → Int
  | [] => 0
  | x :: r => if x = 0 then orOf r else x
theorem or_l0 (l : List Int) (hl : l.length ≤ 1000) : ∀ (d i : Nat), i + d = l.length → Evt fun k => cmp_Or_int.l0 k 0 l (l.length : Int) (i : Int) = some (orOf (l.drop i)) := by
  intro d
  induction d with
  | zero =>
    intro i h
    refine Evt.step0 fun k => ?_
    rw [cmp_Or_int.l0, if_neg (by omega), List.drop_of_length_le (by omega)]
    rfl
  | succ d ih =>
    intro i h
    have hi : i < l.length := by omega
    refine (ih (i + 1) (by omega)).step fun k hk => ?_
    rw [cmp_Or_int.l0, if_pos (ilt hi), if_pos (i0 i), if_pos (ilt hi), rd_at hi, wrap_nat hi (by omega), hk, drop_at hi]
    rw [show orOf (l[i] :: l.drop (i + 1)) = if l[i] = 0 then orOf (l.drop (i + 1)) else l[i] from rfl]
    split <;> rfl
theorem or_ev (l : List Int) (hl : l.length ≤ 1000) : Evt fun k => cmp_Or_int.f k l = some (orOf l) := or_l0 l hl l.length 0 (by omega)
theorem impl_isMark_eq (t : Int) : impl_isMark.f t = some (decide (-1 ≤ t ∧ t ≤ 1000000)) := by
  unfold impl_isMark.f
  simp only [within_eq, Option.bind_some]
theorem impl_isMany_eq (t : Int) : impl_isMany.f t = some (decide (0 ≤ t ∧ t ≤ 1000000000)) := by
  unfold impl_isMany.f
  simp only [within_eq, Option.bind_some]
theorem spec_l04Mark_eq (t : Int) : spec_l04Mark.f t = some (decide (-1 ≤ t ∧ t ≤ 1000000)) := by
  unfold spec_l04Mark.f
  simp only [l01In_eq, Option.bind_some]
/-- One aggregate lies ahead of the other in their order. -/
def aheadB (x y : S84) : Bool := decide (x.f0 < y.f0) || (decide (x.f0 = y.f0) && decide (x.f1 < y.f1))
theorem spec_l05Ahead_eq (x y : S84) : spec_l05Ahead.f x.f0 x.f1 x.f2 x.f3 x.f4 x.f5 y.f0 y.f1 y.f2 y.f3 y.f4 y.f5 = some (aheadB x y) := by
  unfold spec_l05Ahead.f aheadB
  by_cases h : x.f0 < y.f0
  · simp [h]
  · by_cases h' : x.f0 = y.f0 <;> simp [h']
    simp [h]
theorem impl_aggOrder_ev (x y : S84) : ∃ r, (Evt fun k => impl_aggOrder.f k x.f0 x.f1 x.f2 x.f3 x.f4 x.f5 y.f0 y.f1 y.f2 y.f3 y.f4 y.f5 = some r) ∧ (r ≥ 0 ↔ aheadB x y = false) := by
  refine ⟨orOf [cmpI x.f0 y.f0, cmpI x.f1 y.f1], (or_ev [cmpI x.f0 y.f0, cmpI x.f1 y.f1] (by simp)).map fun k hk => ?_, ?_⟩
  · unfold impl_aggOrder.f
    simp only [cmp_eq, Option.bind_some, hk]
  · rw [show orOf [cmpI x.f0 y.f0, cmpI x.f1 y.f1] = if cmpI x.f0 y.f0 = 0 then (if cmpI x.f1 y.f1 = 0 then 0 else cmpI x.f1 y.f1) else cmpI x.f0 y.f0 from rfl]
    unfold aheadB
    by_cases h : x.f0 = y.f0
    · rw [if_pos (cmpI_zero.mpr h)]
      by_cases h2 : x.f1 = y.f1
      · rw [if_pos (cmpI_zero.mpr h2)]
        simp [h, h2]
      · rw [if_neg (fun c => h2 (cmpI_zero.mp c))]
        have := @cmpI_neg x.f1 y.f1
        by_cases h3 : x.f1 < y.f1
        · have := this.mpr h3
          simp [h, h3]; omega
        · have h4 : ¬ cmpI x.f1 y.f1 < 0 := fun c => h3 (this.mp c)
          simp [h, h3]; omega
    · rw [if_neg (fun c => h (cmpI_zero.mp c))]
      have := @cmpI_neg x.f0 y.f0
      by_cases h3 : x.f0 < y.f0
      · have := this.mpr h3
        simp [h3]; omega
      · have h4 : ¬ cmpI x.f0 y.f0 < 0 := fun c => h3 (this.mp c)
        simp [h, h3]; omega
/-- Rising behind an aggregate. -/
def risesB : S84 → List S84 → Bool
  | _, [] => true
  | p, x :: r => aheadB p x && risesB x r
/-- A list of aggregates that rises. -/
def sortedB : List S84 → Bool
  | [] => true
  | x :: r => risesB x r
/-- Right and rising behind an aggregate. -/
def goodB : S84 → List S84 → Bool
  | _, [] => true
  | p, x :: r => aggOf x && (aheadB p x && goodB x r)
theorem goodB_eq : ∀ (l : List S84) (p : S84), goodB p l = (l.all aggOf && risesB p l)
  | [], _ => rfl
  | x :: r, p => by
    rw [show goodB p (x :: r) = (aggOf x && (aheadB p x && goodB x r)) from rfl, goodB_eq r x, List.all_cons, show risesB p (x :: r) = (aheadB p x && risesB x r) from rfl]
    cases aggOf x <;> cases aheadB p x <;> simp
theorem impl_areSorted_l0 (l : List S84) (hl : l.length ≤ 1048576) : ∀ (d j : Nat) (hj : j < l.length), j + 1 + d = l.length → Evt fun k => impl_areSorted.l0 k l ((j + 1 : Nat) : Int) = some (risesB l[j] (l.drop (j + 1))) := by
  intro d
  induction d with
  | zero =>
    intro j hj h
    refine Evt.step0 fun k => ?_
    rw [impl_areSorted.l0, if_neg (by omega), List.drop_of_length_le (by omega)]
    rfl
  | succ d ih =>
    intro j hj h
    have hi : j + 1 < l.length := by omega
    have hw : wrap64 (((j + 1 : Nat) : Int) - 1) = (j : Int) := by rw [wrap_in (by omega) (by omega)]; omega
    obtain ⟨r, hr, hb⟩ := impl_aggOrder_ev l[j] l[j + 1]
    refine ((ih (j + 1) hi (by omega)).and hr).step fun k ⟨hk, hr⟩ => ?_
    rw [impl_areSorted.l0, if_pos (ilt hi), hw, if_pos (i0 j), if_pos (ilt hj), if_pos (i0 _), rdAgg_at hj, rdAgg_at hi, hr]
    simp only [Option.bind_some]
    rw [wrap_nat hi (by omega), hk, drop_at hi, show risesB l[j] (l[j + 1] :: l.drop (j + 1 + 1)) = (aheadB l[j] l[j + 1] && risesB l[j + 1] (l.drop (j + 1 + 1))) from rfl]
    by_cases h1 : r ≥ 0
    · rw [if_pos h1, hb.mp h1]; rfl
    · have h2 : aheadB l[j] l[j + 1] = true := by
        cases h3 : aheadB l[j] l[j + 1] with
        | true => rfl
        | false => exact absurd (hb.mpr h3) h1
      rw [if_neg h1, h2]; rfl
theorem impl_areSorted_ev (l : List S84) (hl : l.length ≤ 1048576) : Evt fun k => impl_areSorted.f k l = some (sortedB l) := by
  cases hl0 : l with
  | nil =>
    refine Evt.step0 fun k => ?_
    rfl
  | cons x r =>
    have hj : 0 < l.length := by rw [hl0]; simp
    have h := impl_areSorted_l0 l hl (l.length - 1) 0 hj (by omega)
    subst hl0
    exact h
theorem spec_ShardOk_l0 (l : List S84) (a b c : Int) (hl : l.length ≤ 1048576) : ∀ (d j : Nat) (hj : j < l.length), j + 1 + d = l.length → Evt fun k => spec_ShardOk.l0 k ((j + 1 : Nat) : Int) l a b c = some (goodB l[j] (l.drop (j + 1))) := by
  intro d
  induction d with
  | zero =>
    intro j hj h
    refine Evt.step0 fun k => ?_
    rw [spec_ShardOk.l0, if_neg (by omega), List.drop_of_length_le (by omega)]
    rfl
  | succ d ih =>
    intro j hj h
    have hi : j + 1 < l.length := by omega
    have hw : wrap64 (((j + 1 : Nat) : Int) - 1) = (j : Int) := by rw [wrap_in (by omega) (by omega)]; omega
    refine (ih (j + 1) hi (by omega)).step fun k hk => ?_
    rw [spec_ShardOk.l0, if_pos (ilt hi), if_pos (i0 _), hw, if_pos (show ((j + 1 : Nat) : Int) > 0 by omega), if_pos (i0 j), if_pos (ilt hj), rdAgg_at hj, rdAgg_at hi, spec_AggOk_eq, spec_l05Ahead_eq]
    simp only [Option.bind_some]
    rw [wrap_nat hi (by omega), hk, drop_at hi, show goodB l[j] (l[j + 1] :: l.drop (j + 1 + 1)) = (aggOf l[j + 1] && (aheadB l[j] l[j + 1] && goodB l[j + 1] (l.drop (j + 1 + 1)))) from rfl]
    rw [show aggB l[j + 1].f0 l[j + 1].f1 l[j + 1].f2 l[j + 1].f3 l[j + 1].f4 l[j + 1].f5 = aggOf l[j + 1] from rfl]
    cases aggOf l[j + 1] <;> cases aheadB l[j] l[j + 1] <;> rfl
theorem spec_ShardOk_l00 (l : List S84) (a b c : Int) (hl : l.length ≤ 1048576) : Evt fun k => spec_ShardOk.l0 k 0 l a b c = some (l.all aggOf && sortedB l) := by
  cases hl0 : l with
  | nil =>
    refine Evt.step0 fun k => ?_
    rfl
  | cons x r =>
    have hj : 0 < l.length := by rw [hl0]; simp
    have h := spec_ShardOk_l0 l a b c hl (l.length - 1) 0 hj (by omega)
    subst hl0
    refine h.step fun k hk => ?_
    rw [spec_ShardOk.l0, if_pos (show (0 : Int) < ((x :: r).length : Int) by omega), if_pos (by omega), if_neg (by omega)]
    have h0 := rdAgg_at hj
    have hw1 : wrap64 (0 + 1) = (((0 + 1 : Nat)) : Int) := by unfold wrap64; omega
    rw [show rd_T84 (x :: r) 0 = x from h0, spec_AggOk_eq, hw1, hk]
    simp only [Option.bind_some]
    rw [show goodB (x :: r)[0] ((x :: r).drop (0 + 1)) = goodB x r from rfl, goodB_eq, List.all_cons, show sortedB (x :: r) = risesB x r from rfl, show aggB x.f0 x.f1 x.f2 x.f3 x.f4 x.f5 = aggOf x from rfl]
    cases aggOf x <;> simp
/-- A right shard. -/
def shardB (l : List S84) (a b c : Int) : Bool := decide (l.length ≤ 40) && ((l.all aggOf && sortedB l) && (decide (-1 ≤ a ∧ a ≤ 1000000) && (decide (0 ≤ b ∧ b ≤ 1000000000) && decide (0 ≤ c ∧ c ≤ 1000000000))))
theorem spec_ShardOk_ev (l : List S84) (a b c : Int) (hl : l.length ≤ 1048576) : Evt fun k => spec_ShardOk.f k l a b c = some (shardB l a b c) := by
  have hf : ∀ k, spec_ShardOk.j0 (k + 1) true l a b c = some false := fun k => by rw [spec_ShardOk.j0, if_pos rfl]
  refine (spec_ShardOk_l00 l a b c hl).step fun k hk => ?_
  have ht : spec_ShardOk.j0 (k + 1) false l a b c = some (l.all aggOf && sortedB l) := by rw [spec_ShardOk.j0, if_neg (by simp), hk]
  unfold spec_ShardOk.f shardB
  simp only [spec_l04Mark_eq, l01In_eq, Option.bind_some, hf]
  by_cases h : l.length ≤ 40
  · rw [if_neg (by omega)]
    by_cases ha : -1 ≤ a ∧ a ≤ 1000000 <;> by_cases hb : 0 ≤ b ∧ b ≤ 1000000000 <;> by_cases hc : 0 ≤ c ∧ c ≤ 1000000000 <;> simp [h, ha, hb, hc, ht, hf]
  · rw [if_pos (by omega)]
    simp [h]
theorem impl_ShardOk_ev (l : List S84) (a b c : Int) (hl : l.length ≤ 1048576) : Evt fun k => impl_ShardOk.f k l a b c = some (shardB l a b c) := by
  refine ((impl_areAggs_ev l hl).and (impl_areSorted_ev l hl)).map fun k ⟨h1, h2⟩ => ?_
  unfold impl_ShardOk.f shardB
  simp only [impl_isMark_eq, impl_isMany_eq, h1, h2, Option.bind_some]
  by_cases h : l.length ≤ 40
  · rw [if_pos (by omega)]
    by_cases h3 : l.all aggOf = true <;> by_cases h4 : sortedB l = true <;> by_cases ha : -1 ≤ a ∧ a ≤ 1000000 <;> by_cases hb : 0 ≤ b ∧ b ≤ 1000000000 <;> simp only [h, h3, h4, ha, hb, decide_true, decide_false, if_true, Bool.false_eq_true, if_false, Bool.true_and, Bool.false_and, Bool.and_self, true_and, and_self, Bool.and_false, Bool.not_eq_true] <;> simp_all
  · rw [if_neg (by omega)]
    simp [h]
theorem szAggS_eq (l : List S116) (n : Int) (hn : 0 ≤ n ∧ n ≤ 1048576) (hl : l.length ≤ 9223372036854775807) : laws_szAggS.f l n = some (if n - (l.length : Int) < 0 then -1 else n - (l.length : Int)) := by
  have hw : wrap64 (n - (l.length : Int)) = n - (l.length : Int) := wrap_in (by omega) (by omega)
  unfold laws_szAggS.f
  rw [hw]
  by_cases h : n - (l.length : Int) < 0 <;> simp [h]
theorem szShard_eq (l : List S116) (a b c n : Int) (hn : 0 ≤ n ∧ n ≤ 1048576) (hl : l.length ≤ 9223372036854775807) : laws_szShard.f l a b c n = some (if n - (l.length : Int) < 0 then -1 else n - (l.length : Int)) := by
  unfold laws_szShard.f
  rw [szAggS_eq l n hn hl]
  by_cases h : n - (l.length : Int) < 0 <;> simp [h]
theorem szSave_eq (at_ : Int) (l : List S116) (a b c n : Int) (hn : 0 ≤ n ∧ n ≤ 1048576) (hl : l.length ≤ 9223372036854775807) : laws_szSave.f at_ l a b c n = some (if n - (l.length : Int) < 0 then -1 else n - (l.length : Int)) := by
  unfold laws_szSave.f
  rw [szShard_eq l a b c n hn hl]
  by_cases h : n - (l.length : Int) < 0 <;> simp [h]
theorem toSave_ev (at_ : Int) (l : List S116) (a b c : Int) (hl : l.length ≤ 1048576) : Evt fun k => laws_toSave.f k at_ l a b c = some (at_, l.map cvAgg, a, b, c) :=
  (toAggS_ev l hl).map fun k h => by simp only [laws_toSave.f, laws_toShard.f, h, Option.bind_some]
theorem eqSave_ev (at_ : Int) (l : List S84) (a b c : Int) (hl : l.length ≤ 1048576) : Evt fun k => laws_eqSave.f k at_ l a b c at_ l a b c = some true :=
  (eqAggS_ev l (by omega)).map fun k h => by simp [laws_eqSave.f, laws_eqShard.f, h]

/-- A right save. -/
def saveB (at_ : Int) (l : List S84) (a b c : Int) : Bool := decide (0 ≤ at_ ∧ at_ ≤ 300) && shardB l a b c
theorem saveB_len {at_ : Int} {l : List S84} {a b c : Int} (h : saveB at_ l a b c = true) : l.length ≤ 40 := by
  unfold saveB shardB at h
  simp only [Bool.and_eq_true, decide_eq_true_eq] at h
  exact h.2.1
theorem spec_SaveOk_ev (at_ : Int) (l : List S84) (a b c : Int) (hl : l.length ≤ 1048576) : Evt fun k => spec_SaveOk.f k at_ l a b c = some (saveB at_ l a b c) :=
  (spec_ShardOk_ev l a b c hl).map fun k h1 => by
    unfold spec_SaveOk.f saveB
    simp only [l01In_eq, h1, Option.bind_some]
    by_cases h : 0 ≤ at_ ∧ at_ ≤ 300 <;> simp [h]
theorem impl_SaveOk_ev (at_ : Int) (l : List S84) (a b c : Int) (hl : l.length ≤ 1048576) : Evt fun k => impl_SaveOk.f k at_ l a b c = some (saveB at_ l a b c) :=
  (impl_ShardOk_ev l a b c hl).map fun k h1 => by
    unfold impl_SaveOk.f saveB
    simp only [within_eq, h1, Option.bind_some]
    by_cases h : 0 ≤ at_ ∧ at_ ≤ 300 <;> simp [h]

def mkAgg (b : Int) : S84 := ⟨b, b + 1, b + 1 + 1, b + 1 + 1 + 1, b + 1 + 1 + 1 + 1, b + 1 + 1 + 1 + 1 + 1⟩
theorem markAggS_l0 (a : Int) (y : List S84) (ha : 0 ≤ a) (hl : a + 6 * y.length ≤ 9223372036854775807) (hy : ∀ (i : Nat) (h : i < y.length), y[i] = mkAgg (a + 6 * (i : Int))) :
    ∀ (d i : Nat) (x : List S84) (b : Int), i + d = y.length → b = a + 6 * (i : Int) → x.length = y.length → x.take i = y.take i →
    Evt fun k => laws_markAggS.l0 k x b (i : Int) = some (a + 6 * y.length, y) := by
  intro d
  induction d with
  | zero =>
    intro i x b h hb hx ht
    refine Evt.step0 fun k => ?_
    rw [laws_markAggS.l0, if_neg (by omega), fill_end hx (by omega) ht]
    simp
    omega
  | succ d ih =>
    intro i x b h hb hx ht
    have hi : i < y.length := by omega
    have hxi : i < x.length := by omega
    obtain ⟨h1, h2⟩ := fill_step (v := mkAgg b) hx hi ht (by rw [hy i hi, hb])
    have e1 : wrap64 (b + 1) = b + 1 := wrap_in (by omega) (by omega)
    have e2 : wrap64 (b + 1 + 1) = b + 1 + 1 := wrap_in (by omega) (by omega)
    have e3 : wrap64 (b + 1 + 1 + 1) = b + 1 + 1 + 1 := wrap_in (by omega) (by omega)
    have e4 : wrap64 (b + 1 + 1 + 1 + 1) = b + 1 + 1 + 1 + 1 := wrap_in (by omega) (by omega)
    have e5 : wrap64 (b + 1 + 1 + 1 + 1 + 1) = b + 1 + 1 + 1 + 1 + 1 := wrap_in (by omega) (by omega)
    have e6 : wrap64 (b + 1 + 1 + 1 + 1 + 1 + 1) = b + 1 + 1 + 1 + 1 + 1 + 1 := wrap_in (by omega) (by omega)
    refine (ih (i + 1) (x.set i (mkAgg b)) (b + 1 + 1 + 1 + 1 + 1 + 1) (by omega) (by omega) h1 h2).step fun k hk => ?_
    rw [laws_markAggS.l0, if_pos (ilt hxi), if_pos (i0 i), wrap_nat hxi (by omega)]
    simp only [Option.bind_some, Int.toNat_natCast, List.set_set, rdAgg_set hxi, e1, e2, e3, e4, e5, e6]
    exact hk
theorem markxAggS_ev (a : Int) (l : List S84) (ha : 0 ≤ a) (hl : a + 6 * l.length ≤ 9223372036854775807) :
    ∃ y : List S84, y.length = l.length ∧ Evt fun k => laws_markAggS.f k l a = some (a + 6 * l.length, y) := by
  have hy : ∀ (i : Nat) (h : i < ((List.range l.length).map fun (j : Nat) => mkAgg (a + 6 * (j : Int))).length), ((List.range l.length).map fun (j : Nat) => mkAgg (a + 6 * (j : Int)))[i] = mkAgg (a + 6 * (i : Int)) := fun i h => by simp
  have hn : ((List.range l.length).map fun (j : Nat) => mkAgg (a + 6 * (j : Int))).length = l.length := by simp
  refine ⟨(List.range l.length).map fun (j : Nat) => mkAgg (a + 6 * (j : Int)), hn, ?_⟩
  have := markAggS_l0 a _ ha (by rw [hn]; exact hl) hy l.length 0 l a (by rw [hn]; omega) (by omega) hn.symm (by simp)
  simpa [laws_markAggS.f] using this

theorem eqByteS_l0 (l : List Int) (hl : l.length ≤ 9223372036854775807) : ∀ (d i : Nat), i + d = l.length → Evt fun k => laws_eqByteS.l0 k l l (i : Int) = some true := by
  intro d
  induction d with
  | zero =>
    intro i h
    refine Evt.step0 fun k => ?_
    rw [laws_eqByteS.l0, if_neg (by omega)]
  | succ d ih =>
    intro i h
    have hi : i < l.length := by omega
    refine (ih (i + 1) (by omega)).step fun k hk => ?_
    rw [laws_eqByteS.l0, if_pos (ilt hi), if_pos (i0 i), if_pos (ilt hi), if_pos rfl, wrap_nat hi hl]
    exact hk
theorem eqByteS_ev (l : List Int) (hl : l.length ≤ 9223372036854775807) : Evt fun k => laws_eqByteS.f k l l = some true :=
  (eqByteS_l0 l hl l.length 0 (by omega)).map fun k hk => by rw [laws_eqByteS.f, if_pos rfl]; exact hk

theorem markByteS_l0 (a : Int) (y : List Int) (ha : 0 ≤ a) (hl : a + y.length ≤ 9223372036854775807) (hy : ∀ (i : Nat) (h : i < y.length), y[i] = (a + (i : Int)) % 256) : ∀ (d i : Nat) (x : List Int), i + d = y.length → x.length = y.length → x.take i = y.take i →
    Evt fun k => laws_markByteS.l0 k x (a + i) (i : Int) = some (a + y.length, y) := by
  intro d
  induction d with
  | zero =>
    intro i x h hx ht
    refine Evt.step0 fun k => ?_
    rw [laws_markByteS.l0, if_neg (by omega), fill_end hx (by omega) ht]
    simp
    omega
  | succ d ih =>
    intro i x h hx ht
    have hi : i < y.length := by omega
    obtain ⟨h1, h2⟩ := fill_step (v := (a + (i : Int)) % 256) hx hi ht (hy i hi)
    refine (ih (i + 1) (x.set i ((a + (i : Int)) % 256)) (by omega) h1 h2).step fun k hk => ?_
    rw [laws_markByteS.l0, if_pos (by omega), if_pos (i0 i), wrap_nat hi (by omega), wrap_in (by omega) (by omega)]
    simp only [Int.toNat_natCast]
    rw [show a + (i : Int) + 1 = a + ((i + 1 : Nat) : Int) by omega]
    exact hk
theorem heldByteS_l0 (a : Int) (y : List Int) (ha : 0 ≤ a) (hl : a + y.length ≤ 9223372036854775807) (hy : ∀ (i : Nat) (h : i < y.length), y[i] = (a + (i : Int)) % 256) : ∀ (d i : Nat), i + d = y.length →
    Evt fun k => laws_heldByteS.l0 k y (a + i) (i : Int) = some (a + y.length) := by
  intro d
  induction d with
  | zero =>
    intro i h
    refine Evt.step0 fun k => ?_
    rw [laws_heldByteS.l0, if_neg (by omega)]
    simp
    omega
  | succ d ih =>
    intro i h
    have hi : i < y.length := by omega
    refine (ih (i + 1) (by omega)).step fun k hk => ?_
    rw [laws_heldByteS.l0, if_pos (ilt hi), if_pos (i0 i), rd_at hi, if_pos (hy i hi), wrap_nat hi (by omega), wrap_in (by omega) (by omega)]
    rw [show a + (i : Int) + 1 = a + ((i + 1 : Nat) : Int) by omega]
    exact hk
theorem markByteS_ev (a : Int) (l : List Int) (ha : 0 ≤ a) (hl : a + l.length ≤ 9223372036854775807) :
    ∃ y : List Int, (Evt fun k => laws_markByteS.f k l a = some (a + l.length, y)) ∧ (Evt fun k => laws_heldByteS.f k y a = some (a + l.length)) := by
  have hy : ∀ (i : Nat) (h : i < ((List.range l.length).map fun (j : Nat) => (a + (j : Int)) % 256).length), ((List.range l.length).map fun (j : Nat) => (a + (j : Int)) % 256)[i] = (a + (i : Int)) % 256 := fun i h => by simp
  have hn : ((List.range l.length).map fun (j : Nat) => (a + (j : Int)) % 256).length = l.length := by simp
  refine ⟨(List.range l.length).map fun (j : Nat) => (a + (j : Int)) % 256, ?_, ?_⟩
  · have := markByteS_l0 a _ ha (by rw [hn]; exact hl) hy l.length 0 l (by rw [hn]; omega) hn.symm (by simp)
    simpa [laws_markByteS.f] using this
  · have := heldByteS_l0 a _ ha (by rw [hn]; exact hl) hy l.length 0 (by rw [hn]; omega)
    simpa [laws_heldByteS.f] using this
/-- Exclusive or of two numbers that are not negative. -/
def xr (a b : Int) : Int := ((a.toNat ^^^ b.toNat : Nat) : Int)
theorem xr_range {a b : Int} (ha : 0 ≤ a ∧ a < 4294967296) (hb : 0 ≤ b ∧ b < 4294967296) : 0 ≤ xr a b ∧ xr a b < 4294967296 := by
  have := Nat.xor_lt_two_pow (x := a.toNat) (y := b.toNat) (n := 32) (by omega) (by omega)
  unfold xr
  omega
theorem xor_nat (k : IntKind) (hj : 32 ≤ k.bits) (hk : ∀ n : Int, 0 ≤ n → n < 4294967296 → k.wrap n = n) (a b : Nat) (ha : a < 2 ^ 32) (hb : b < 2 ^ 32) : Go.bits .xor k a b = ((a ^^^ b : Nat) : Int) := by
  have hp : 2 ^ 32 ≤ 2 ^ k.bits := Nat.pow_le_pow_right (by decide) hj
  have ha' : a % 2 ^ k.bits = a := Nat.mod_eq_of_lt (Nat.lt_of_lt_of_le ha hp)
  have hb' : b % 2 ^ k.bits = b := Nat.mod_eq_of_lt (Nat.lt_of_lt_of_le hb hp)
  simp only [Go.bits, BitVec.ofInt_natCast, BitVec.toNat_xor, BitVec.toNat_ofNat, ha', hb']
  have := Nat.xor_lt_two_pow ha hb
  exact hk _ (Int.natCast_nonneg _) (by omega)
theorem xor_u32 {a b : Int} (ha : 0 ≤ a ∧ a < 4294967296) (hb : 0 ≤ b ∧ b < 4294967296) : Go.bits .xor .u32 a b = xr a b := by
  have h := xor_nat .u32 (by decide) (fun n h0 h1 => by rw [IntKind.wrap_u32]; omega) a.toNat b.toNat (by omega) (by omega)
  rw [Int.toNat_of_nonneg ha.1, Int.toNat_of_nonneg hb.1] at h
  exact h
theorem xor_i64 {a b : Int} (ha : 0 ≤ a ∧ a < 4294967296) (hb : 0 ≤ b ∧ b < 4294967296) : Go.bits .xor .i64 a b = xr a b := by
  have h := xor_nat .i64 (by decide) (fun n h0 h1 => by rw [IntKind.wrap_i64]; omega) a.toNat b.toNat (by omega) (by omega)
  rw [Int.toNat_of_nonneg ha.1, Int.toNat_of_nonneg hb.1] at h
  exact h
theorem not_u32 {c : Int} (h : 0 ≤ c ∧ c < 4294967296) : Go.bits .xor .u32 4294967295 c = 4294967295 - c := by
  obtain ⟨n, rfl⟩ := Int.eq_ofNat_of_zero_le h.1
  have hn : n < 4294967296 := by omega
  have e : (BitVec.ofInt 32 4294967295 ^^^ BitVec.ofInt 32 (n : Int)) = ~~~ BitVec.ofNat 32 n := by
    rw [show BitVec.ofInt 32 4294967295 = BitVec.allOnes 32 from by decide, BitVec.ofInt_natCast, BitVec.allOnes_xor]
  show IntKind.u32.wrap ((BitVec.ofInt 32 4294967295 ^^^ BitVec.ofInt 32 (n : Int)).toNat : Int) = _
  rw [e, BitVec.toNat_not, BitVec.toNat_ofNat, Nat.mod_eq_of_lt (show n < 2 ^ 32 from hn), IntKind.wrap_u32]
  omega
theorem and_one {x : Int} (h : 0 ≤ x ∧ x < 4294967296) : Go.bits .and .u32 x 1 = x % 2 :=
  bits_mask .u32 32 (by decide) (fun n h0 h1 => by rw [IntKind.wrap_u32]; omega) 1 (by omega) x h.1 h.2
theorem and_255 (y : Int) : Go.bits .and .i64 y 255 % 256 = y % 256 := by
  have e : (BitVec.ofInt 64 y &&& BitVec.ofInt 64 255).toNat = (y % 18446744073709551616).toNat % 256 := by
    rw [BitVec.toNat_and, show (BitVec.ofInt 64 255).toNat = 2 ^ 8 - 1 from by decide, Nat.and_two_pow_sub_one_eq_mod, BitVec.toNat_ofInt]
    rfl
  show IntKind.i64.wrap ((BitVec.ofInt 64 y &&& BitVec.ofInt 64 255).toNat : Int) % 256 = _
  rw [e, IntKind.wrap_i64]
  omega
/-- One shift of the remainder. -/
def sh (x : Int) : Int := if x % 2 = 1 then xr (x / 2) 3988292384 else x / 2
theorem sh_range {x : Int} (h : 0 ≤ x ∧ x < 4294967296) : 0 ≤ sh x ∧ sh x < 4294967296 := by
  unfold sh
  split
  · exact xr_range (by omega) (by omega)
  · omega
def shN : Nat → Int → Int
  | 0, x => x
  | n + 1, x => shN n (sh x)
theorem shN_range : ∀ (n : Nat) {x : Int}, (0 ≤ x ∧ x < 4294967296) → 0 ≤ shN n x ∧ shN n x < 4294967296
  | 0, _, h => h
  | n + 1, _, h => shN_range n (sh_range h)
/-- The remainder of bytes. -/
def crcF : List Int → Int → Int
  | [], c => c
  | b :: r, c => crcF r (shN 8 (xr c b))
theorem crcF_range : ∀ (l : List Int) {c : Int}, (∀ b ∈ l, 0 ≤ b ∧ b ≤ 255) → (0 ≤ c ∧ c < 4294967296) → 0 ≤ crcF l c ∧ crcF l c < 4294967296
  | [], _, _, h => h
  | b :: r, _, hb, h => crcF_range r (fun x hx => hb x (List.mem_cons_of_mem _ hx)) (shN_range 8 (xr_range h (by have := hb b List.mem_cons_self; omega)))
theorem spec_Check_l1 (l : List Int) (i : Nat) (r : Option Int) : ∀ (d j : Nat) (x : Int), j + d = 8 → (0 ≤ x ∧ x < 4294967296) → (Evt fun k => spec_Check.l0 k l (shN d x) (wrap64 ((i : Int) + 1)) = r) → Evt fun k => spec_Check.l1 k l x (i : Int) (j : Int) = r := by
  intro d
  induction d with
  | zero =>
    intro j x h hx hr
    refine hr.step fun k hk => ?_
    rw [spec_Check.l1, if_neg (by omega)]
    exact hk
  | succ d ih =>
    intro j x h hx hr
    refine (ih (j + 1) (sh x) (by omega) (sh_range hx) hr).step fun k hk => ?_
    have e2 : Int.tdiv x 2 = x / 2 := Int.tdiv_eq_ediv_of_nonneg hx.1
    have e3 : wrap64 (x / 2) = x / 2 := wrap_in (by omega) (by omega)
    have e4 : wrap64 ((j : Int) + 1) = ((j + 1 : Nat) : Int) := by rw [wrap_in (by omega) (by omega)]; omega
    rw [spec_Check.l1, if_pos (by omega), Int.tmod_eq_emod_of_nonneg hx.1, e2, e3, e4, xor_i64 (by omega) (by omega)]
    by_cases h1 : x % 2 = 1
    · rw [if_pos h1]
      rwa [show sh x = xr (x / 2) 3988292384 from if_pos h1] at hk
    · rw [if_neg h1]
      rwa [show sh x = x / 2 from if_neg h1] at hk
theorem impl_Check_l1 (l : List Int) (n i : Int) (r : Option Int) : ∀ (d j : Nat) (x : Int), j + d = 8 → (0 ≤ x ∧ x < 4294967296) → (Evt fun k => impl_Check.l0 k (shN d x) l n (wrap64 (i + 1)) = r) → Evt fun k => impl_Check.l1 k x l n i (j : Int) = r := by
  intro d
  induction d with
  | zero =>
    intro j x h hx hr
    refine hr.step fun k hk => ?_
    rw [impl_Check.l1, if_neg (by omega)]
    exact hk
  | succ d ih =>
    intro j x h hx hr
    refine (ih (j + 1) (sh x) (by omega) (sh_range hx) hr).step fun k hk => ?_
    have e4 : wrap64 ((j : Int) + 1) = ((j + 1 : Nat) : Int) := by rw [wrap_in (by omega) (by omega)]; omega
    rw [impl_Check.l1, if_pos (by omega), and_one hx, e4, xor_u32 (by omega) (by omega)]
    by_cases h1 : x % 2 = 1
    · rw [if_pos h1]
      rwa [show sh x = xr (x / 2) 3988292384 from if_pos h1] at hk
    · rw [if_neg h1]
      rwa [show sh x = x / 2 from if_neg h1] at hk
theorem spec_Check_l0 (l : List Int) (hl : l.length ≤ 1048576) (hb : ∀ b ∈ l, 0 ≤ b ∧ b ≤ 255) : ∀ (d i : Nat) (c : Int), i + d = l.length → (0 ≤ c ∧ c < 4294967296) → Evt fun k => spec_Check.l0 k l c (i : Int) = some (4294967295 - crcF (l.drop i) c) := by
  intro d
  induction d with
  | zero =>
    intro i c h hc
    refine Evt.step0 fun k => ?_
    rw [spec_Check.l0, if_neg (by omega), List.drop_of_length_le (by omega)]
    exact congrArg some (wrap_in (by omega) (by omega))
  | succ d ih =>
    intro i c h hc
    have hi : i < l.length := by omega
    have hbi := hb l[i] (List.getElem_mem hi)
    have hx := xr_range hc (show 0 ≤ l[i] ∧ l[i] < 4294967296 by omega)
    have h2 := ih (i + 1) (shN 8 (xr c l[i])) (by omega) (shN_range 8 hx)
    rw [← wrap_nat hi (by omega)] at h2
    refine (spec_Check_l1 l i _ 8 0 (xr c l[i]) (by omega) hx h2).step fun k hk => ?_
    rw [spec_Check.l0, if_pos (ilt hi), if_pos (i0 i), rd_at hi, wrap_in (show -9223372036854775808 ≤ l[i] by omega) (by omega), xor_i64 hc (by omega), drop_at hi]
    exact hk
theorem impl_Check_l0 (l : List Int) (hl : l.length ≤ 1048576) (hb : ∀ b ∈ l, 0 ≤ b ∧ b ≤ 255) : ∀ (d i : Nat) (c : Int), i + d = l.length → (0 ≤ c ∧ c < 4294967296) → Evt fun k => impl_Check.l0 k c l (l.length : Int) (i : Int) = some (4294967295 - crcF (l.drop i) c) := by
  intro d
  induction d with
  | zero =>
    intro i c h hc
    refine Evt.step0 fun k => ?_
    rw [impl_Check.l0, if_neg (by omega), List.drop_of_length_le (by omega), not_u32 hc]
    exact congrArg some (wrap_in (by omega) (by omega))
  | succ d ih =>
    intro i c h hc
    have hi : i < l.length := by omega
    have hbi := hb l[i] (List.getElem_mem hi)
    have hx := xr_range hc (show 0 ≤ l[i] ∧ l[i] < 4294967296 by omega)
    have h2 := ih (i + 1) (shN 8 (xr c l[i])) (by omega) (shN_range 8 hx)
    rw [← wrap_nat hi (by omega)] at h2
    refine (impl_Check_l1 l (l.length : Int) (i : Int) _ 8 0 (xr c l[i]) (by omega) hx h2).step fun k hk => ?_
    rw [impl_Check.l0, if_pos (ilt hi), if_pos (i0 i), if_pos (ilt hi), rd_at hi, show l[i] % 4294967296 = l[i] by omega, xor_u32 hc (by omega), drop_at hi]
    exact hk
/-- The check sum. -/
def crc (l : List Int) : Int := 4294967295 - crcF l 4294967295
theorem spec_Check_ev (l : List Int) (hl : l.length ≤ 1048576) (hb : ∀ b ∈ l, 0 ≤ b ∧ b ≤ 255) : Evt fun k => spec_Check.f k l = some (crc l) := spec_Check_l0 l hl hb l.length 0 4294967295 (by omega) (by omega)
theorem impl_Check_ev (l : List Int) (hl : l.length ≤ 1048576) (hb : ∀ b ∈ l, 0 ≤ b ∧ b ≤ 255) : Evt fun k => impl_Check.f k l = some (crc l) := impl_Check_l0 l hl hb l.length 0 4294967295 (by omega) (by omega)
/-- A number in four bytes. -/
def bytes4 (x : Int) : List Int := [shr .i64 x 24 % 256, shr .i64 x 16 % 256, shr .i64 x 8 % 256, shr .i64 x 0 % 256]
theorem bytes4_byte (x : Int) : ∀ b ∈ bytes4 x, 0 ≤ b ∧ b ≤ 255 := by
  intro b hb
  unfold bytes4 at hb
  simp only [List.mem_cons, List.not_mem_nil, or_false] at hb
  rcases hb with rfl | rfl | rfl | rfl <;> omega
theorem impl_putNumber_ev (l : List Int) (x : Int) (hl : l.length ≤ 1048576) : Evt fun k => impl_putNumber.f k l x 4 = some (l ++ bytes4 x) := by
  have w3 : wrap64 (4 - 1) = 3 := by unfold wrap64; omega
  have w2 : wrap64 (3 - 1) = 2 := by unfold wrap64; omega
  have w1 : wrap64 (2 - 1) = 1 := by unfold wrap64; omega
  have w0 : wrap64 (1 - 1) = 0 := by unfold wrap64; omega
  have wm : wrap64 (0 - 1) = -1 := by unfold wrap64; omega
  have s3 : wrap64 (8 * 3) = 24 := by unfold wrap64; omega
  have s2 : wrap64 (8 * 2) = 16 := by unfold wrap64; omega
  have s1 : wrap64 (8 * 1) = 8 := by unfold wrap64; omega
  have s0 : wrap64 (8 * 0) = 0 := by unfold wrap64; omega
  have hm : ∀ y, Evt fun k => impl_putNumber.l0 k y x (-1) = some y := fun y => Evt.step0 fun k => by rw [impl_putNumber.l0, if_neg (by omega)]
  have h0 : ∀ y : List Int, y.length ≤ 2000000 → Evt fun k => impl_putNumber.l0 k y x 0 = some (y ++ [shr .i64 x 0 % 256]) := fun y hy => (hm _).step fun k hk => by
    rw [impl_putNumber.l0, s0, if_pos (by omega), if_pos (by omega), if_pos (by omega), wm]; exact hk
  have h1 : ∀ y : List Int, y.length ≤ 1900000 → Evt fun k => impl_putNumber.l0 k y x 1 = some (y ++ [shr .i64 x 8 % 256, shr .i64 x 0 % 256]) := fun y hy => (h0 (y ++ [shr .i64 x 8 % 256]) (by simp; omega)).step fun k hk => by
    rw [impl_putNumber.l0, s1, if_pos (by omega), if_pos (by omega), if_pos (by omega), w0]; simpa using hk
  have h2 : ∀ y : List Int, y.length ≤ 1800000 → Evt fun k => impl_putNumber.l0 k y x 2 = some (y ++ [shr .i64 x 16 % 256, shr .i64 x 8 % 256, shr .i64 x 0 % 256]) := fun y hy => (h1 (y ++ [shr .i64 x 16 % 256]) (by simp; omega)).step fun k hk => by
    rw [impl_putNumber.l0, s2, if_pos (by omega), if_pos (by omega), if_pos (by omega), w1]; simpa using hk
  refine (h2 (l ++ [shr .i64 x 24 % 256]) (by simp; omega)).step fun k hk => ?_
  rw [impl_putNumber.f, w3, impl_putNumber.l0, s3, if_pos (by omega), if_pos (by omega), if_pos (by omega), w2]
  simpa [bytes4] using hk
theorem spec_l02Wide_ev (x : Int) : Evt fun k => spec_l02Wide.f k x 4 = some (bytes4 x) := by
  have w3 : wrap64 (4 - 1) = 3 := by unfold wrap64; omega
  have w2 : wrap64 (3 - 1) = 2 := by unfold wrap64; omega
  have w1 : wrap64 (2 - 1) = 1 := by unfold wrap64; omega
  have w0 : wrap64 (1 - 1) = 0 := by unfold wrap64; omega
  have wm : wrap64 (0 - 1) = -1 := by unfold wrap64; omega
  have uw : ∀ n : Int, 0 ≤ n → n < 256 → IntKind.u64.wrap n = n := fun n h0 h1 => by simp [IntKind.wrap, IntKind.bits, IntKind.signed]; omega
  have s3 : IntKind.u64.wrap (wrap64 (8 * 3)) = 24 := by rw [show wrap64 (8 * 3) = 24 by unfold wrap64; omega]; exact uw 24 (by omega) (by omega)
  have s2 : IntKind.u64.wrap (wrap64 (8 * 2)) = 16 := by rw [show wrap64 (8 * 2) = 16 by unfold wrap64; omega]; exact uw 16 (by omega) (by omega)
  have s1 : IntKind.u64.wrap (wrap64 (8 * 1)) = 8 := by rw [show wrap64 (8 * 1) = 8 by unfold wrap64; omega]; exact uw 8 (by omega) (by omega)
  have s0 : IntKind.u64.wrap (wrap64 (8 * 0)) = 0 := by rw [show wrap64 (8 * 0) = 0 by unfold wrap64; omega]; exact uw 0 (by omega) (by omega)
  have hm : ∀ y, Evt fun k => spec_l02Wide.l0 k x y (-1) = some y := fun y => Evt.step0 fun k => by rw [spec_l02Wide.l0, if_neg (by omega)]
  have h0 : ∀ y : List Int, y.length ≤ 2000000 → Evt fun k => spec_l02Wide.l0 k x y 0 = some (y ++ [shr .i64 x 0 % 256]) := fun y hy => (hm _).step fun k hk => by
    rw [spec_l02Wide.l0, s0, if_pos (by omega), if_pos (by omega), if_pos (by omega), wm, and_255]; exact hk
  have h1 : ∀ y : List Int, y.length ≤ 1900000 → Evt fun k => spec_l02Wide.l0 k x y 1 = some (y ++ [shr .i64 x 8 % 256, shr .i64 x 0 % 256]) := fun y hy => (h0 (y ++ [shr .i64 x 8 % 256]) (by simp; omega)).step fun k hk => by
    rw [spec_l02Wide.l0, s1, if_pos (by omega), if_pos (by omega), if_pos (by omega), w0, and_255]; simpa using hk
  have h2 : ∀ y : List Int, y.length ≤ 1800000 → Evt fun k => spec_l02Wide.l0 k x y 2 = some (y ++ [shr .i64 x 16 % 256, shr .i64 x 8 % 256, shr .i64 x 0 % 256]) := fun y hy => (h1 (y ++ [shr .i64 x 16 % 256]) (by simp; omega)).step fun k hk => by
    rw [spec_l02Wide.l0, s2, if_pos (by omega), if_pos (by omega), if_pos (by omega), w1, and_255]; simpa using hk
  refine (h2 [shr .i64 x 24 % 256] (by simp)).step fun k hk => ?_
  rw [spec_l02Wide.f, w3, spec_l02Wide.l0, s3, if_pos (by omega), if_pos (by omega), if_pos (by simp), w2, and_255]
  simpa [bytes4] using hk
theorem spec_l01Bytes_l0 (l : List Int) (hl : l.length ≤ 1048576) : ∀ (d i : Nat) (y : List Int), i + d = l.length → y.length ≤ 1048576 + i → Evt fun k => spec_l01Bytes.l0 k l y (i : Int) = some (y ++ l.drop i) := by
  intro d
  induction d with
  | zero =>
    intro i y h hy
    refine Evt.step0 fun k => ?_
    rw [spec_l01Bytes.l0, if_neg (by omega), List.drop_of_length_le (by omega), List.append_nil]
  | succ d ih =>
    intro i y h hy
    have hi : i < l.length := by omega
    refine (ih (i + 1) (y ++ [l[i]]) (by omega) (by simp; omega)).step fun k hk => ?_
    rw [spec_l01Bytes.l0, if_pos (ilt hi), if_pos (i0 i), if_pos (by omega), rd_at hi, wrap_nat hi (by omega), hk, drop_at hi]
    simp
theorem spec_l01Join_l0 (l : List Int) (hl : l.length ≤ 1048576) : ∀ (d i : Nat) (y : List Int), i + d = l.length → y.length ≤ 1048576 + i → Evt fun k => spec_l01Join.l0 k l y (i : Int) = some (y ++ l.drop i) := by
  intro d
  induction d with
  | zero =>
    intro i y h hy
    refine Evt.step0 fun k => ?_
    rw [spec_l01Join.l0, if_neg (by omega), List.drop_of_length_le (by omega), List.append_nil]
  | succ d ih =>
    intro i y h hy
    have hi : i < l.length := by omega
    refine (ih (i + 1) (y ++ [l[i]]) (by omega) (by simp; omega)).step fun k hk => ?_
    rw [spec_l01Join.l0, if_pos (ilt hi), if_pos (i0 i), if_pos (by omega), rd_at hi, wrap_nat hi (by omega), hk, drop_at hi]
    simp
theorem spec_l01Join_ev (a b : List Int) (ha : a.length ≤ 1048576) (hb : b.length ≤ 1048576) : Evt fun k => spec_l01Join.f k a b = some (a ++ b) :=
  ((spec_l01Bytes_l0 a ha a.length 0 [] (by omega) (by simp)).and (spec_l01Join_l0 b hb b.length 0 a (by omega) (by omega))).map fun k ⟨h1, h2⟩ => by
    have h1' : spec_l01Bytes.f k a = some a := h1
    unfold spec_l01Join.f
    rw [h1']
    exact h2
/-- The six numbers of an aggregate. -/
def six (x : S84) : List Int := [x.f0, x.f1, x.f2, wrap64 (x.f3 + 1000000000), wrap64 (x.f4 + 1000000), wrap64 (x.f5 + 1000000)]
def sixes : List S84 → List Int
  | [] => []
  | x :: r => six x ++ sixes r
theorem sixes_cons (x : S84) (r : List S84) : sixes (x :: r) = six x ++ sixes r := rfl
theorem sixes_length : ∀ l : List S84, (sixes l).length = 6 * l.length
  | [] => rfl
  | x :: r => by
    rw [sixes_cons, List.length_append, sixes_length r, List.length_cons, show (six x).length = 6 from rfl]
    omega
/-- Numbers in four bytes each. -/
def fours : List Int → List Int
  | [] => []
  | x :: r => bytes4 x ++ fours r
theorem fours_cons (x : Int) (r : List Int) : fours (x :: r) = bytes4 x ++ fours r := rfl
theorem fours_length : ∀ l : List Int, (fours l).length = 4 * l.length
  | [] => rfl
  | x :: r => by
    rw [fours_cons, List.length_append, fours_length r, List.length_cons, show (bytes4 x).length = 4 from rfl]
    omega
theorem fours_byte : ∀ l : List Int, ∀ b ∈ fours l, 0 ≤ b ∧ b ≤ 255
  | [], b, h => by simp [fours] at h
  | x :: r, b, h => by
    rw [fours_cons, List.mem_append] at h
    rcases h with h | h
    · exact bytes4_byte x b h
    · exact fours_byte r b h
/-- Bytes with their check sum behind them. -/
def sealed (n : List Int) : List Int := fours n ++ bytes4 (crc (fours n))
theorem sealed_length (n : List Int) : (sealed n).length = 4 * n.length + 4 := by
  unfold sealed
  rw [List.length_append, fours_length, show (bytes4 (crc (fours n))).length = 4 from rfl]
theorem spec_PutSave_l1 (n : List Int) (hn : n.length ≤ 1000) : ∀ (d i : Nat) (y : List Int), i + d = n.length → y = fours (n.take i) → Evt fun k => spec_PutSave.l1 k n y (i : Int) = some (sealed n, true) := by
  intro d
  induction d with
  | zero =>
    intro i y h hy
    rw [List.take_of_length_le (by omega)] at hy
    subst hy
    have h4 := fours_length n
    have hlen : (fours n).length ≤ 1048576 := by omega
    refine ((spec_Check_ev (fours n) hlen (fours_byte n)).and ((spec_l02Wide_ev (crc (fours n))).and (spec_l01Join_ev (fours n) (bytes4 (crc (fours n))) hlen (by simp [bytes4])))).step fun k ⟨h1, h2, h3⟩ => ?_
    rw [spec_PutSave.l1, if_neg (by omega)]
    simp only [h1, h2, h3, Option.bind_some]
    rfl
  | succ d ih =>
    intro i y h hy
    have hi : i < n.length := by omega
    have hyl : y.length ≤ 1048576 := by
      rw [hy, fours_length, List.length_take]
      omega
    have hnext : y ++ bytes4 n[i] = fours (n.take (i + 1)) := by
      rw [hy, take_at hi]
      generalize n.take i = m
      induction m with
      | nil => simp [fours]
      | cons x r ihm => rw [List.cons_append, fours_cons, fours_cons, List.append_assoc, ihm]
    refine ((ih (i + 1) (y ++ bytes4 n[i]) (by omega) hnext).and ((spec_l02Wide_ev n[i]).and (spec_l01Join_ev y (bytes4 n[i]) hyl (by simp [bytes4])))).step fun k ⟨h1, h2, h3⟩ => ?_
    rw [spec_PutSave.l1, if_pos (ilt hi), if_pos (i0 i), rd_at hi, wrap_nat hi (by omega)]
    simp only [h1, h2, h3, Option.bind_some]
theorem impl_PutSave_l1 (n : List Int) (hn : n.length ≤ 1000) : ∀ (d i : Nat) (y : List Int), i + d = n.length → y = fours (n.take i) → Evt fun k => impl_PutSave.l1 k y n (n.length : Int) (i : Int) = some (sealed n, true) := by
  intro d
  induction d with
  | zero =>
    intro i y h hy
    rw [List.take_of_length_le (by omega)] at hy
    subst hy
    have h4 := fours_length n
    have hlen : (fours n).length ≤ 1048576 := by omega
    refine ((impl_Check_ev (fours n) hlen (fours_byte n)).and (impl_putNumber_ev (fours n) (crc (fours n)) hlen)).step fun k ⟨h1, h2⟩ => ?_
    rw [impl_PutSave.l1, if_neg (by omega)]
    simp only [h1, h2, Option.bind_some]
    rfl
  | succ d ih =>
    intro i y h hy
    have hi : i < n.length := by omega
    have hyl : y.length ≤ 1048576 := by
      rw [hy, fours_length, List.length_take]
      omega
    have hnext : y ++ bytes4 n[i] = fours (n.take (i + 1)) := by
      rw [hy, take_at hi]
      generalize n.take i = m
      induction m with
      | nil => simp [fours]
      | cons x r ihm => rw [List.cons_append, fours_cons, fours_cons, List.append_assoc, ihm]
    refine ((ih (i + 1) (y ++ bytes4 n[i]) (by omega) hnext).and (impl_putNumber_ev y n[i] hyl)).step fun k ⟨h1, h2⟩ => ?_
    rw [impl_PutSave.l1, if_pos (ilt hi), if_pos (i0 i), if_pos (ilt hi), rd_at hi, wrap_nat hi (by omega)]
    simp only [h1, h2, Option.bind_some]
theorem spec_PutSave_l0 (l : List S84) (a b c : Int) (hl : l.length ≤ 40) : ∀ (d i : Nat) (y : List Int), i + d = l.length → y.length = 5 + 6 * i → Evt fun k => spec_PutSave.l0 k y (i : Int) l a b c = some (sealed (y ++ sixes (l.drop i)), true) := by
  intro d
  induction d with
  | zero =>
    intro i y h hy
    rw [List.drop_of_length_le (by omega), show sixes [] = [] from rfl, List.append_nil]
    refine (spec_PutSave_l1 y (by omega) y.length 0 [] (by omega) rfl).step fun k hk => ?_
    rw [spec_PutSave.l0, if_neg (by omega)]
    exact hk
  | succ d ih =>
    intro i y h hy
    have hi : i < l.length := by omega
    have h6 : (six l[i]).length = 6 := rfl
    refine (ih (i + 1) (y ++ six l[i]) (by omega) (by rw [List.length_append, h6]; omega)).step fun k hk => ?_
    rw [spec_PutSave.l0, if_pos (ilt hi), if_pos (i0 i), rdAgg_at hi, wrap_nat hi (by omega)]
    change (if y.length + (six l[i]).length < 17592186044416 then spec_PutSave.l0 k (y ++ six l[i]) ((i + 1 : Nat) : Int) l a b c else none) = _
    rw [if_pos (by omega), hk, drop_at hi, sixes_cons, List.append_assoc]
theorem impl_PutSave_l0 (l : List S84) (hl : l.length ≤ 40) : ∀ (d i : Nat) (y : List Int), i + d = l.length → y.length = 5 + 6 * i → Evt fun k => impl_PutSave.l0 k y l (l.length : Int) (i : Int) = some (sealed (y ++ sixes (l.drop i)), true) := by
  intro d
  induction d with
  | zero =>
    intro i y h hy
    rw [List.drop_of_length_le (by omega), show sixes [] = [] from rfl, List.append_nil]
    refine (impl_PutSave_l1 y (by omega) y.length 0 [] (by omega) rfl).step fun k hk => ?_
    rw [impl_PutSave.l0, if_neg (by omega)]
    exact hk
  | succ d ih =>
    intro i y h hy
    have hi : i < l.length := by omega
    have h6 : (six l[i]).length = 6 := rfl
    refine (ih (i + 1) (y ++ six l[i]) (by omega) (by rw [List.length_append, h6]; omega)).step fun k hk => ?_
    rw [impl_PutSave.l0, if_pos (ilt hi), if_pos (i0 i), if_pos (ilt hi), rdAgg_at hi, wrap_nat hi (by omega)]
    change (if y.length + (six l[i]).length < 17592186044416 then impl_PutSave.l0 k (y ++ six l[i]) l (l.length : Int) ((i + 1 : Nat) : Int) else none) = _
    rw [if_pos (by omega), hk, drop_at hi, sixes_cons, List.append_assoc]
/-- A save as bytes. -/
def putSave (at_ : Int) (l : List S84) (a b c : Int) : List Int × Bool :=
  if saveB at_ l a b c = true then (sealed ([at_, wrap64 (a + 1), b, c, (l.length : Int)] ++ sixes l), true) else ([], false)
theorem putSave_length (at_ : Int) (l : List S84) (a b c : Int) : (putSave at_ l a b c).1.length ≤ 1000 := by
  unfold putSave
  by_cases h : saveB at_ l a b c = true
  · rw [if_pos h]
    have := saveB_len h
    simp only [sealed_length, List.length_append, sixes_length, List.length_cons, List.length_nil]
    omega
  · rw [if_neg h]
    simp
theorem spec_PutSave_ev (at_ : Int) (l : List S84) (a b c : Int) (hl : l.length ≤ 1048576) : Evt fun k => spec_PutSave.f k at_ l a b c = some (putSave at_ l a b c) := by
  unfold putSave
  by_cases h : saveB at_ l a b c = true
  · refine ((spec_SaveOk_ev at_ l a b c hl).and (spec_PutSave_l0 l a b c (saveB_len h) l.length 0 [at_, wrap64 (a + 1), b, c, (l.length : Int)] (by omega) rfl)).map fun k ⟨h1, h2⟩ => ?_
    rw [spec_PutSave.f, h1]
    simp only [Option.bind_some, h, if_true]
    exact h2
  · refine (spec_SaveOk_ev at_ l a b c hl).map fun k h1 => ?_
    rw [spec_PutSave.f, h1]
    simp only [Option.bind_some, if_neg h]
theorem impl_PutSave_ev (at_ : Int) (l : List S84) (a b c : Int) (hl : l.length ≤ 1048576) : Evt fun k => impl_PutSave.f k at_ l a b c = some (putSave at_ l a b c) := by
  unfold putSave
  by_cases h : saveB at_ l a b c = true
  · refine ((impl_SaveOk_ev at_ l a b c hl).and (impl_PutSave_l0 l (saveB_len h) l.length 0 [at_, wrap64 (a + 1), b, c, (l.length : Int)] (by omega) rfl)).map fun k ⟨h1, h2⟩ => ?_
    rw [impl_PutSave.f, h1]
    simp only [Option.bind_some, h, if_true]
    exact h2
  · refine (impl_SaveOk_ev at_ l a b c hl).map fun k h1 => ?_
    rw [impl_PutSave.f, h1]
    simp only [Option.bind_some, if_neg h]

theorem FnExactPutSave (x0 : Int × (List S116 × Int × Int × Int)) (w : Kit.I64 x0.1 ∧ (Kit.AllOf (fun x : S116 => I64 x.f0 ∧ I64 x.f1 ∧ I64 x.f2 ∧ I64 x.f3 ∧ I64 x.f4 ∧ I64 x.f5) x0.2.1 ∧ (Kit.I64 x0.2.2.1 ∧ (Kit.I64 x0.2.2.2.1 ∧ Kit.I64 x0.2.2.2.2)))) :
    ∃ k, laws_FnExactPutSave.f k x0.1 x0.2.1 x0.2.2.1 x0.2.2.2.1 x0.2.2.2.2 = some true := by
  obtain ⟨t, l, a, b, c⟩ := x0
  have hr := szSave_eq t l a b c 1048576 (by omega) w.2.1.1
  by_cases hneg : (1048576 : Int) - (l.length : Int) < 0
  · exact ⟨0, by simp only [laws_FnExactPutSave.f, hr, Option.bind_some, if_pos hneg]; simp⟩
  have ha : l.length ≤ 1048576 := by omega
  have ha' : (l.map cvAgg).length ≤ 1048576 := by simpa using ha
  have t0 := toSave_ev t l a b c ha
  have sp := spec_PutSave_ev t (l.map cvAgg) a b c ha'
  have im := impl_PutSave_ev t (l.map cvAgg) a b c ha'
  have hle := putSave_length t (l.map cvAgg) a b c
  have es := eqSave_ev t (l.map cvAgg) a b c ha'
  generalize putSave t (l.map cvAgg) a b c = g at sp im hle
  have eg := eqByteS_ev g.1 (by omega)
  obtain ⟨ym, _, mm⟩ := markxAggS_ev 1 (l.map cvAgg) (by omega) (by omega)
  have ms : Evt fun k => laws_markSave.f k t (l.map cvAgg) a b c 1 = some (1 + 6 * ((l.map cvAgg).length : Int), ym) := mm.map fun k h => by simp only [laws_markSave.f, laws_markShard.f, h, Option.bind_some]
  obtain ⟨yg, mg, hg⟩ := markByteS_ev 1 g.1 (by omega) (by omega)
  have hng : ¬ (1 + (g.1.length : Int) < 0) := by omega
  have hn2 : ¬ (1 + 6 * ((l.map cvAgg).length : Int) < 0) := by omega
  have j2 : Evt fun k => laws_FnExactPutSave.j2 k yg (1 + (g.1.length : Int)) false = some true := hg.step fun k a => by
    simp only [laws_FnExactPutSave.j2, a, Option.bind_some, if_neg hng, if_true, Bool.false_eq_true, if_false]
  have j1 : Evt fun k => laws_FnExactPutSave.j1 k g.1 g.2 g.1 false t l a b c = some true := (mg.and (hg.and (t0.and (im.and (eg.and j2))))).step fun k ⟨a1, a2, a3, a4, a5, a6⟩ => by
    simp only [laws_FnExactPutSave.j1, a1, a2, a3, a4, a5, a6, Option.bind_some, if_neg hng, if_true, Bool.false_eq_true, if_false, bne_self_eq_false]
  have j0 : Evt fun k => laws_FnExactPutSave.j0 k g.1 g.2 g.1 g.2 false t l a b c t (l.map cvAgg) a b c = some true := (t0.and (es.and (ms.and (eg.and j1)))).step fun k ⟨a1, a2, a3, a4, a5⟩ => by
    simp only [laws_FnExactPutSave.j0, a1, a2, a3, a4, a5, Option.bind_some, if_neg hn2, if_true, Bool.false_eq_true, if_false, bne_self_eq_false]
  obtain ⟨k, a1, a2, a3, a4, a5⟩ := (t0.and (sp.and (im.and (eg.and j0)))).ex
  refine ⟨k, ?_⟩
  simp only [laws_FnExactPutSave.f, hr, if_neg hneg, Option.bind_some, a1, a2, a3, a4, a5, if_true, bne_self_eq_false]
end Go.Proofs.Ytengkenhmnpbeaa.Pure

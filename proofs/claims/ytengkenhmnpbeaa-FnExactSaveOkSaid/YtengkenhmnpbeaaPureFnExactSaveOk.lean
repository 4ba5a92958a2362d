/- FnExactSaveOk: the program's SaveOk holds of the saves of which the reference's holds, and leaves them alone: for all saves. -/
import Derived.Test.YtengkenhmnpbeaaPFnExactSaveOkx
import Derived.Test.YtengkenhmnpbeaaKit
namespace Go.Proofs.Ytengkenhmnpbeaa.Pure
open Go.RowKit Go.Proofs.Ytengkenhmnpbeaa.PFnExactSaveOk Go.Proofs.YtengkenhmnpbeaaW.PrintWords Go.Proofs.YtengkenhmnpbeaaW.PrintLast Go.Proofs.Ytengkenhmnpbeaa.Kit
set_option linter.unusedVariables false
set_option linter.unusedSimpArgs false

theorem rdAgg_at {xs : List S84} {i : Nat} (h : i < xs.length) : rd_T84 xs (i : Int) = xs[i] := by
  simp [rd_T84, List.getD_eq_getElem?_getD, List.getElem?_eq_getElem h]
theorem rdAgg_set {xs : List S84} {i : Nat} (h : i < xs.length) (v : S84) : rd_T84 (xs.set i v) (i : Int) = v := by
  rw [rdAgg_at (by simpa using h)]
  simp

theorem rdLAgg_at {xs : List S116} {i : Nat} (h : i < xs.length) : rd_T116 xs (i : Int) = xs[i] := by
  simp [rd_T116, List.getD_eq_getElem?_getD, List.getElem?_eq_getElem h]
def cvAgg (x : S116) : S84 := ⟨x.f0, x.f1, x.f2, x.f3, x.f4, x.f5⟩
theorem toAggS_l0 (l : List S116) (hl : l.length ≤ 9223372036854775807) : ∀ (d i : Nat) (x : List S84), i + d = l.length → x.length = (l.map cvAgg).length → x.take i = (l.map cvAgg).take i →
    Evt fun k => laws_toAggS.l0 k l x (i : Int) = some (l.map cvAgg) := by
  intro d
  induction d with
  | zero =>
    intro i x h hx ht
    refine Evt.step0 fun k => ?_
    rw [laws_toAggS.l0, if_neg (by omega), fill_end hx (by simp; omega) ht]
  | succ d ih =>
    intro i x h hx ht
    have hi : i < l.length := by omega
    obtain ⟨h1, h2⟩ := fill_step (v := cvAgg l[i]) hx (by simpa using hi) ht (by simp)
    have hxl : (i : Int) < (x.length : Int) := by rw [hx, List.length_map]; omega
    refine (ih (i + 1) (x.set i (cvAgg l[i])) (by omega) h1 h2).step fun k hk => ?_
    rw [laws_toAggS.l0, if_pos (ilt hi), if_pos (i0 i), rdLAgg_at hi]
    simp only [laws_toAgg.f, Option.bind_some, Int.toNat_natCast]
    rw [if_pos hxl, wrap_nat hi hl]
    exact hk
theorem toAggS_ev (l : List S116) (hl : l.length ≤ 1048576) : Evt fun k => laws_toAggS.f k l = some (l.map cvAgg) := by
  refine (toAggS_l0 l (by omega) l.length 0 (List.replicate l.length z84) (by omega) (by simp) (by simp)).map fun k hk => ?_
  rw [laws_toAggS.f, if_pos (by omega), if_pos (by omega)]
  exact hk

theorem eqAgg_refl (x : S84) : laws_eqAgg.f x.f0 x.f1 x.f2 x.f3 x.f4 x.f5 x.f0 x.f1 x.f2 x.f3 x.f4 x.f5 = some true := by simp [laws_eqAgg.f]
theorem eqAggS_l0 (l : List S84) (hl : l.length ≤ 9223372036854775807) : ∀ (d i : Nat), i + d = l.length → Evt fun k => laws_eqAggS.l0 k l l (i : Int) = some true := by
  intro d
  induction d with
  | zero =>
    intro i h
    refine Evt.step0 fun k => ?_
    rw [laws_eqAggS.l0, if_neg (by omega)]
  | succ d ih =>
    intro i h
    have hi : i < l.length := by omega
    refine (ih (i + 1) (by omega)).step fun k hk => ?_
    rw [laws_eqAggS.l0, if_pos (ilt hi), if_pos (i0 i), if_pos (ilt hi), eqAgg_refl]
    simp only [Option.bind_some, if_true]
    rw [wrap_nat hi hl]
    exact hk
theorem eqAggS_ev (l : List S84) (hl : l.length ≤ 9223372036854775807) : Evt fun k => laws_eqAggS.f k l l = some true :=
  (eqAggS_l0 l hl l.length 0 (by omega)).map fun k hk => by rw [laws_eqAggS.f, if_pos rfl]; exact hk

theorem l01In_eq (a b c : Int) : spec_l01In.f a b c = some (decide (b ≤ a ∧ a ≤ c)) := by
  unfold spec_l01In.f
  by_cases h : b ≤ a <;> simp [h]
theorem within_eq (a b c : Int) : impl_within.f a b c = some (decide (b ≤ a ∧ a ≤ c)) := by
  unfold impl_within.f
  by_cases h : b ≤ a <;> simp [h]
theorem impl_isTime_eq (t : Int) : impl_isTime.f t = some (decide (0 ≤ t ∧ t ≤ 1000000)) := by
  unfold impl_isTime.f
  simp only [within_eq, Option.bind_some]
theorem impl_isKey_eq (t : Int) : impl_isKey.f t = some (decide (0 ≤ t ∧ t ≤ 65535)) := by
  unfold impl_isKey.f
  simp only [within_eq, Option.bind_some]
theorem impl_isValue_eq (t : Int) : impl_isValue.f t = some (decide (-1000000 ≤ t ∧ t ≤ 1000000)) := by
  unfold impl_isValue.f
  simp only [within_eq, Option.bind_some]
theorem impl_isSum_eq (t : Int) : impl_isSum.f t = some (decide (-1000000000 ≤ t ∧ t ≤ 1000000000)) := by
  unfold impl_isSum.f
  simp only [within_eq, Option.bind_some]
/-- A right aggregate. -/
def aggB (a b c d e f : Int) : Bool := decide ((0 ≤ a ∧ a ≤ 1000000) ∧ (0 ≤ b ∧ b ≤ 65535) ∧ (1 ≤ c ∧ c ≤ 1000000000) ∧ (-1000000000 ≤ d ∧ d ≤ 1000000000) ∧ (-1000000 ≤ e ∧ e ≤ 1000000) ∧ (-1000000 ≤ f ∧ f ≤ 1000000) ∧ e ≤ f)
theorem spec_AggOk_eq (a b c d e f : Int) : spec_AggOk.f a b c d e f = some (aggB a b c d e f) := by
  unfold spec_AggOk.f aggB spec_l05Value.f
  simp only [l01In_eq, Option.bind_some]
  by_cases h1 : 0 ≤ a ∧ a ≤ 1000000 <;> simp only [h1, decide_true, decide_false, if_true, Bool.false_eq_true, if_false, true_and, false_and, and_self]
  by_cases h2 : 0 ≤ b ∧ b ≤ 65535 <;> simp only [h2, decide_true, decide_false, if_true, Bool.false_eq_true, if_false, true_and, false_and, and_self]
  by_cases h3 : 1 ≤ c ∧ c ≤ 1000000000 <;> simp only [h3, decide_true, decide_false, if_true, Bool.false_eq_true, if_false, true_and, false_and, and_self]
  by_cases h4 : -1000000000 ≤ d ∧ d ≤ 1000000000 <;> simp only [h4, decide_true, decide_false, if_true, Bool.false_eq_true, if_false, true_and, false_and, and_self]
  by_cases h5 : -1000000 ≤ e ∧ e ≤ 1000000 <;> simp only [h5, decide_true, decide_false, if_true, Bool.false_eq_true, if_false, true_and, false_and, and_self]
  by_cases h6 : -1000000 ≤ f ∧ f ≤ 1000000 <;> simp only [h6, decide_true, decide_false, if_true, Bool.false_eq_true, if_false, true_and, false_and, and_self]
theorem impl_AggOk_eq (a b c d e f : Int) : impl_AggOk.f a b c d e f = some (aggB a b c d e f) := by
  unfold impl_AggOk.f aggB
  simp only [within_eq, impl_isTime_eq, impl_isKey_eq, impl_isValue_eq, impl_isSum_eq, Option.bind_some]
  by_cases h1 : 0 ≤ a ∧ a ≤ 1000000 <;> simp only [h1, decide_true, decide_false, if_true, Bool.false_eq_true, if_false, true_and, false_and, and_self]
  by_cases h2 : 0 ≤ b ∧ b ≤ 65535 <;> simp only [h2, decide_true, decide_false, if_true, Bool.false_eq_true, if_false, true_and, false_and, and_self]
  by_cases h3 : 1 ≤ c ∧ c ≤ 1000000000 <;> simp only [h3, decide_true, decide_false, if_true, Bool.false_eq_true, if_false, true_and, false_and, and_self]
  by_cases h4 : -1000000000 ≤ d ∧ d ≤ 1000000000 <;> simp only [h4, decide_true, decide_false, if_true, Bool.false_eq_true, if_false, true_and, false_and, and_self]
  by_cases h5 : -1000000 ≤ e ∧ e ≤ 1000000 <;> simp only [h5, decide_true, decide_false, if_true, Bool.false_eq_true, if_false, true_and, false_and, and_self]
  by_cases h6 : -1000000 ≤ f ∧ f ≤ 1000000 <;> simp only [h6, decide_true, decide_false, if_true, Bool.false_eq_true, if_false, true_and, false_and, and_self]
/-- A right aggregate, as a struct. -/
def aggOf (s : S84) : Bool := aggB s.f0 s.f1 s.f2 s.f3 s.f4 s.f5
theorem impl_areAggs_1_eq (s : S84) : impl_areAggs_1.f s.f0 s.f1 s.f2 s.f3 s.f4 s.f5 = some (!aggOf s) := by
  unfold impl_areAggs_1.f
  rw [impl_AggOk_eq]
  rfl
theorem index_areAggs_l0 (l : List S84) (hl : l.length ≤ 1048576) : ∀ (d i : Nat), i + d = l.length →
    ∃ r : Int, (Evt fun k => slices_IndexFunc_impl_Agg_impl_Agg_impl_areAggs_1.l0 k l (l.length : Int) (i : Int) = some r) ∧ decide (r ≥ 0) = !(l.drop i).all aggOf := by
  intro d
  induction d with
  | zero =>
    intro i h
    refine ⟨-1, Evt.step0 fun k => ?_, ?_⟩
    · rw [slices_IndexFunc_impl_Agg_impl_Agg_impl_areAggs_1.l0, if_neg (by omega)]
    · rw [List.drop_of_length_le (by omega)]; rfl
  | succ d ih =>
    intro i h
    have hi : i < l.length := by omega
    by_cases h1 : aggOf l[i] = true
    · obtain ⟨r, hr, hb⟩ := ih (i + 1) (by omega)
      refine ⟨r, hr.step fun k hk => ?_, ?_⟩
      · rw [slices_IndexFunc_impl_Agg_impl_Agg_impl_areAggs_1.l0, if_pos (ilt hi), if_pos (i0 i), if_pos (ilt hi), rdAgg_at hi, impl_areAggs_1_eq]
        simp only [Option.bind_some, h1]
        rw [if_neg (by simp), wrap_nat hi (by omega), hk]
      · rw [drop_at hi, List.all_cons, h1, hb]; simp
    · refine ⟨(i : Int), Evt.step0 fun k => ?_, ?_⟩
      · rw [slices_IndexFunc_impl_Agg_impl_Agg_impl_areAggs_1.l0, if_pos (ilt hi), if_pos (i0 i), if_pos (ilt hi), rdAgg_at hi, impl_areAggs_1_eq]
        simp [h1]
      · rw [drop_at hi, List.all_cons]; simp [h1]
theorem impl_areAggs_ev (l : List S84) (hl : l.length ≤ 1048576) : Evt fun k => impl_areAggs.f k l = some (l.all aggOf) := by
  obtain ⟨r, hr, hb⟩ := index_areAggs_l0 l hl l.length 0 (by omega)
  refine hr.map fun k hk => ?_
  have hk' : slices_IndexFunc_impl_Agg_impl_Agg_impl_areAggs_1.f k l () = some r := hk
  unfold impl_areAggs.f slices_ContainsFunc_impl_Agg_impl_Agg_impl_areAggs_1.f
  rw [hk']
  simp only [Option.bind_some, hb]
  simp

/-- cmp.Compare of two ints. -/
def cmpI (a b : Int) : Int := if a < b then -1 else if b < a then 1 else 0
theorem cmp_eq (a b : Int) : cmp_Compare_int.f a b = some (cmpI a b) := by
  unfold cmp_Compare_int.f cmp_isNaN_int.f cmpI
  by_cases h : a < b <;> by_cases h' : b < a <;> simp [h, h']
theorem cmpI_zero {a b : Int} : cmpI a b = 0 ↔ a = b := by
  unfold cmpI
  split
  · constructor <;> intro h <;> omega
  · split
    · constructor <;> intro h <;> omega
    · constructor <;> intro h <;> omega
theorem cmpI_neg {a b : Int} : cmpI a b < 0 ↔ a < b := by
  unfold cmpI
  split
  · constructor <;> intro h <;> omega
  · split
    · constructor <;> intro h <;> omega
    · constructor <;> intro h <;> omega
/-- cmp.Or: the first that is not 0. -/
def orOf : List Int → Int
  | [] => 0
  | x :: r => if x = 0 then orOf r else x
theorem or_l0 (l : List Int) (hl : l.length ≤ 1000) : ∀ (d i : Nat), i + d = l.length → Evt fun k => cmp_Or_int.l0 k 0 l (l.length : Int) (i : Int) = some (orOf (l.drop i)) := by
  intro d
  induction d with
  | zero =>
    intro i h
    refine Evt.step0 fun k => ?_
    rw [cmp_Or_int.l0, if_neg (by omega), List.drop_of_length_le (by omega)]
    rfl
  | succ d ih =>
    intro i h
    have hi : i < l.length := by omega
    refine (ih (i + 1) (by omega)).step fun k hk => ?_
    rw [cmp_Or_int.l0, if_pos (ilt hi), if_pos (i0 i), if_pos (ilt hi), rd_at hi, wrap_nat hi (by omega), hk, drop_at hi]
    rw [show orOf (l[i] :: l.drop (i + 1)) = if l[i] = 0 then orOf (l.drop (i + 1)) else l[i] from rfl]
    split <;> rfl
theorem or_ev (l : List Int) (hl : l.length ≤ 1000) : Evt fun k => cmp_Or_int.f k l = some (orOf l) := or_l0 l hl l.length 0 (by omega)
theorem impl_isMark_eq (t : Int) : impl_isMark.f t = some (decide (-1 ≤ t ∧ t ≤ 1000000)) := by
  unfold impl_isMark.f
  simp only [within_eq, Option.bind_some]
theorem impl_isMany_eq (t : Int) : impl_isMany.f t = some (decide (0 ≤ t ∧ t ≤ 1000000000)) := by
  unfold impl_isMany.f
  simp only [within_eq, Option.bind_some]
theorem spec_l04Mark_eq (t : Int) : spec_l04Mark.f t = some (decide (-1 ≤ t ∧ t ≤ 1000000)) := by
  unfold spec_l04Mark.f
  simp only [l01In_eq, Option.bind_some]
/-- One aggregate lies ahead of the other in their order. -/
def aheadB (x y : S84) : Bool := decide (x.f0 < y.f0) || (decide (x.f0 = y.f0) && decide (x.f1 < y.f1))
theorem spec_l05Ahead_eq (x y : S84) : spec_l05Ahead.f x.f0 x.f1 x.f2 x.f3 x.f4 x.f5 y.f0 y.f1 y.f2 y.f3 y.f4 y.f5 = some (aheadB x y) := by
  unfold spec_l05Ahead.f aheadB
  by_cases h : x.f0 < y.f0
  · simp [h]
  · by_cases h' : x.f0 = y.f0 <;> simp [h']
    simp [h]
theorem impl_aggOrder_ev (x y : S84) : ∃ r, (Evt fun k => impl_aggOrder.f k x.f0 x.f1 x.f2 x.f3 x.f4 x.f5 y.f0 y.f1 y.f2 y.f3 y.f4 y.f5 = some r) ∧ (r ≥ 0 ↔ aheadB x y = false) := by
  refine ⟨orOf [cmpI x.f0 y.f0, cmpI x.f1 y.f1], (or_ev [cmpI x.f0 y.f0, cmpI x.f1 y.f1] (by simp)).map fun k hk => ?_, ?_⟩
  · unfold impl_aggOrder.f
    simp only [cmp_eq, Option.bind_some, hk]
  · rw [show orOf [cmpI x.f0 y.f0, cmpI x.f1 y.f1] = if cmpI x.f0 y.f0 = 0 then (if cmpI x.f1 y.f1 = 0 then 0 else cmpI x.f1 y.f1) else cmpI x.f0 y.f0 from rfl]
    unfold aheadB
    by_cases h : x.f0 = y.f0
    · rw [if_pos (cmpI_zero.mpr h)]
      by_cases h2 : x.f1 = y.f1
      · rw [if_pos (cmpI_zero.mpr h2)]
        simp [h, h2]
      · rw [if_neg (fun c => h2 (cmpI_zero.mp c))]
        have := @cmpI_neg x.f1 y.f1
        by_cases h3 : x.f1 < y.f1
        · have := this.mpr h3
          simp [h, h3]; omega
        · have h4 : ¬ cmpI x.f1 y.f1 < 0 := fun c => h3 (this.mp c)
          simp [h, h3]; omega
    · rw [if_neg (fun c => h (cmpI_zero.mp c))]
      have := @cmpI_neg x.f0 y.f0
      by_cases h3 : x.f0 < y.f0
      · have := this.mpr h3
        simp [h3]; omega
      · have h4 : ¬ cmpI x.f0 y.f0 < 0 := fun c => h3 (this.mp c)
        simp [h, h3]; omega
/-- Rising behind an aggregate. -/
def risesB : S84 → List S84 → Bool
  | _, [] => true
  | p, x :: r => aheadB p x && risesB x r
/-- A list of aggregates that rises. -/
def sortedB : List S84 → Bool
  | [] => true
  | x :: r => risesB x r
/-- Right and rising behind an aggregate. -/
def goodB : S84 → List S84 → Bool
  | _, [] => true
  | p, x :: r => aggOf x && (aheadB p x && goodB x r)
theorem goodB_eq : ∀ (l : List S84) (p : S84), goodB p l = (l.all aggOf && risesB p l)
  | [], _ => rfl
  | x :: r, p => by
    rw [show goodB p (x :: r) = (aggOf x && (aheadB p x && goodB x r)) from rfl, goodB_eq r x, List.all_cons, show risesB p (x :: r) = (aheadB p x && risesB x r) from rfl]
    cases aggOf x <;> cases aheadB p x <;> simp
theorem impl_areSorted_l0 (l : List S84) (hl : l.length ≤ 1048576) : ∀ (d j : Nat) (hj : j < l.length), j + 1 + d = l.length → Evt fun k => impl_areSorted.l0 k l ((j + 1 : Nat) : Int) = some (risesB l[j] (l.drop (j + 1))) := by
  intro d
  induction d with
  | zero =>
    intro j hj h
    refine Evt.step0 fun k => ?_
    rw [impl_areSorted.l0, if_neg (by omega), List.drop_of_length_le (by omega)]
    rfl
  | succ d ih =>
    intro j hj h
    have hi : j + 1 < l.length := by omega
    have hw : wrap64 (((j + 1 : Nat) : Int) - 1) = (j : Int) := by rw [wrap_in (by omega) (by omega)]; omega
    obtain ⟨r, hr, hb⟩ := impl_aggOrder_ev l[j] l[j + 1]
    refine ((ih (j + 1) hi (by omega)).and hr).step fun k ⟨hk, hr⟩ => ?_
    rw [impl_areSorted.l0, if_pos (ilt hi), hw, if_pos (i0 j), if_pos (ilt hj), if_pos (i0 _), rdAgg_at hj, rdAgg_at hi, hr]
    simp only [Option.bind_some]
    rw [wrap_nat hi (by omega), hk, drop_at hi, show risesB l[j] (l[j + 1] :: l.drop (j + 1 + 1)) = (aheadB l[j] l[j + 1] && risesB l[j + 1] (l.drop (j + 1 + 1))) from rfl]
    by_cases h1 : r ≥ 0
    · rw [if_pos h1, hb.mp h1]; rfl
    · have h2 : aheadB l[j] l[j + 1] = true := by
        cases h3 : aheadB l[j] l[j + 1] with
        | true => rfl
        | false => exact absurd (hb.mpr h3) h1
      rw [if_neg h1, h2]; rfl
theorem impl_areSorted_ev (l : List S84) (hl : l.length ≤ 1048576) : Evt fun k => impl_areSorted.f k l = some (sortedB l) := by
  cases hl0 : l with
  | nil =>
    refine Evt.step0 fun k => ?_
    rfl
  | cons x r =>
    have hj : 0 < l.length := by rw [hl0]; simp
    have h := impl_areSorted_l0 l hl (l.length - 1) 0 hj (by omega)
    subst hl0
    exact h
theorem spec_ShardOk_l0 (l : List S84) (a b c : Int) (hl : l.length ≤ 1048576) : ∀ (d j : Nat) (hj : j < l.length), j + 1 + d = l.length → Evt fun k => spec_ShardOk.l0 k ((j + 1 : Nat) : Int) l a b c = some (goodB l[j] (l.drop (j + 1))) := by
  intro d
  induction d with
  | zero =>
    intro j hj h
    refine Evt.step0 fun k => ?_
    rw [spec_ShardOk.l0, if_neg (by omega), List.drop_of_length_le (by omega)]
    rfl
  | succ d ih =>
    intro j hj h
    have hi : j + 1 < l.length := by omega
    have hw : wrap64 (((j + 1 : Nat) : Int) - 1) = (j : Int) := by rw [wrap_in (by omega) (by omega)]; omega
    refine (ih (j + 1) hi (by omega)).step fun k hk => ?_
    rw [spec_ShardOk.l0, if_pos (ilt hi), if_pos (i0 _), hw, if_pos (show ((j + 1 : Nat) : Int) > 0 by omega), if_pos (i0 j), if_pos (ilt hj), rdAgg_at hj, rdAgg_at hi, spec_AggOk_eq, spec_l05Ahead_eq]
    simp only [Option.bind_some]
    rw [wrap_nat hi (by omega), hk, drop_at hi, show goodB l[j] (l[j + 1] :: l.drop (j + 1 + 1)) = (aggOf l[j + 1] && (aheadB l[j] l[j + 1] && goodB l[j + 1] (l.drop (j + 1 + 1)))) from rfl]
    rw [show aggB l[j + 1].f0 l[j + 1].f1 l[j + 1].f2 l[j + 1].f3 l[j + 1].f4 l[j + 1].f5 = aggOf l[j + 1] from rfl]
    cases aggOf l[j + 1] <;> cases aheadB l[j] l[j + 1] <;> rfl
theorem spec_ShardOk_l00 (l : List S84) (a b c : Int) (hl : l.length ≤ 1048576) : Evt fun k => spec_ShardOk.l0 k 0 l a b c = some (l.all aggOf && sortedB l) := by
  cases hl0 : l with
  | nil =>
    refine Evt.step0 fun k => ?_
    rfl
  | cons x r =>
    have hj : 0 < l.length := by rw [hl0]; simp
    have h := spec_ShardOk_l0 l a b c hl (l.length - 1) 0 hj (by omega)
    subst hl0
    refine h.step fun k hk => ?_
    rw [spec_ShardOk.l0, if_pos (show (0 : Int) < ((x :: r).length : Int) by omega), if_pos (by omega), if_neg (by omega)]
    have h0 := rdAgg_at hj
    have hw1 : wrap64 (0 + 1) = (((0 + 1 : Nat)) : Int) := by unfold wrap64; omega
    rw [show rd_T84 (x :: r) 0 = x from h0, spec_AggOk_eq, hw1, hk]
    simp only [Option.bind_some]
    rw [show goodB (x :: r)[0] ((x :: r).drop (0 + 1)) = goodB x r from rfl, goodB_eq, List.all_cons, show sortedB (x :: r) = risesB x r from rfl, show aggB x.f0 x.f1 x.f2 x.f3 x.f4 x.f5 = aggOf x from rfl]
    cases aggOf x <;> simp
/-- A right shard. -/
def shardB (l : List S84) (a b c : Int) : Bool := decide (l.length ≤ 40) && ((l.all aggOf && sortedB l) && (decide (-1 ≤ a ∧ a ≤ 1000000) && (decide (0 ≤ b ∧ b ≤ 1000000000) && decide (0 ≤ c ∧ c ≤ 1000000000))))
theorem spec_ShardOk_ev (l : List S84) (a b c : Int) (hl : l.length ≤ 1048576) : Evt fun k => spec_ShardOk.f k l a b c = some (shardB l a b c) := by
  have hf : ∀ k, spec_ShardOk.j0 (k + 1) true l a b c = some false := fun k => by rw [spec_ShardOk.j0, if_pos rfl]
  refine (spec_ShardOk_l00 l a b c hl).step fun k hk => ?_
  have ht : spec_ShardOk.j0 (k + 1) false l a b c = some (l.all aggOf && sortedB l) := by rw [spec_ShardOk.j0, if_neg (by simp), hk]
  unfold spec_ShardOk.f shardB
  simp only [spec_l04Mark_eq, l01In_eq, Option.bind_some, hf]
  by_cases h : l.length ≤ 40
  · rw [if_neg (by omega)]
    by_cases ha : -1 ≤ a ∧ a ≤ 1000000 <;> by_cases hb : 0 ≤ b ∧ b ≤ 1000000000 <;> by_cases hc : 0 ≤ c ∧ c ≤ 1000000000 <;> simp [h, ha, hb, hc, ht, hf]
  · rw [if_pos (by omega)]
    simp [h]
theorem impl_ShardOk_ev (l : List S84) (a b c : Int) (hl : l.length ≤ 1048576) : Evt fun k => impl_ShardOk.f k l a b c = some (shardB l a b c) := by
  refine ((impl_areAggs_ev l hl).and (impl_areSorted_ev l hl)).map fun k ⟨h1, h2⟩ => ?_
  unfold impl_ShardOk.f shardB
  simp only [impl_isMark_eq, impl_isMany_eq, h1, h2, Option.bind_some]
  by_cases h : l.length ≤ 40
  · rw [if_pos (by omega)]
    by_cases h3 : l.all aggOf = true <;> by_cases h4 : sortedB l = true <;> by_cases ha : -1 ≤ a ∧ a ≤ 1000000 <;> by_cases hb : 0 ≤ b ∧ b ≤ 1000000000 <;> simp only [h, h3, h4, ha, hb, decide_true, decide_false, if_true, Bool.false_eq_true, if_false, Bool.true_and, Bool.false_and, Bool.and_self, true_and, and_self, Bool.and_false, Bool.not_eq_true] <;> simp_all
  · rw [if_neg (by omega)]
    simp [h]
theorem szAggS_eq (l : List S116) (n : Int) (hn : 0 ≤ n ∧ n ≤ 1048576) (hl : l.length ≤ 9223372036854775807) : laws_szAggS.f l n = some (if n - (l.length : Int) < 0 then -1 else n - (l.length : Int)) := by
  have hw : wrap64 (n - (l.length : Int)) = n - (l.length : Int) := wrap_in (by omega) (by omega)
  unfold laws_szAggS.f
  rw [hw]
  by_cases h : n - (l.length : Int) < 0 <;> simp [h]
theorem szShard_eq (l : List S116) (a b c n : Int) (hn : 0 ≤ n ∧ n ≤ 1048576) (hl : l.length ≤ 9223372036854775807) : laws_szShard.f l a b c n = some (if n - (l.length : Int) < 0 then -1 else n - (l.length : Int)) := by
  unfold laws_szShard.f
  rw [szAggS_eq l n hn hl]
  by_cases h : n - (l.length : Int) < 0 <;> simp [h]
theorem szSave_eq (at_ : Int) (l : List S116) (a b c n : Int) (hn : 0 ≤ n ∧ n ≤ 1048576) (hl : l.length ≤ 9223372036854775807) : laws_szSave.f at_ l a b c n = some (if n - (l.length : Int) < 0 then -1 else n - (l.length : Int)) := by
  unfold laws_szSave.f
  rw [szShard_eq l a b c n hn hl]
  by_cases h : n - (l.length : Int) < 0 <;> simp [h]
theorem toSave_ev (at_ : Int) (l : List S116) (a b c : Int) (hl : l.length ≤ 1048576) : Evt fun k => laws_toSave.f k at_ l a b c = some (at_, l.map cvAgg, a, b, c) :=
  (toAggS_ev l hl).map fun k h => by simp only [laws_toSave.f, laws_toShard.f, h, Option.bind_some]
theorem eqSave_ev (at_ : Int) (l : List S84) (a b c : Int) (hl : l.length ≤ 1048576) : Evt fun k => laws_eqSave.f k at_ l a b c at_ l a b c = some true :=
  (eqAggS_ev l (by omega)).map fun k h => by simp [laws_eqSave.f, laws_eqShard.f, h]

theorem spec_SaveOk_ev (at_ : Int) (l : List S84) (a b c : Int) (hl : l.length ≤ 1048576) : Evt fun k => spec_SaveOk.f k at_ l a b c = some (decide (0 ≤ at_ ∧ at_ ≤ 300) && shardB l a b c) :=
  (spec_ShardOk_ev l a b c hl).map fun k h1 => by
    unfold spec_SaveOk.f
    simp only [l01In_eq, h1, Option.bind_some]
    by_cases h : 0 ≤ at_ ∧ at_ ≤ 300 <;> simp [h]
theorem impl_SaveOk_ev (at_ : Int) (l : List S84) (a b c : Int) (hl : l.length ≤ 1048576) : Evt fun k => impl_SaveOk.f k at_ l a b c = some (decide (0 ≤ at_ ∧ at_ ≤ 300) && shardB l a b c) :=
  (impl_ShardOk_ev l a b c hl).map fun k h1 => by
    unfold impl_SaveOk.f
    simp only [within_eq, h1, Option.bind_some]
    by_cases h : 0 ≤ at_ ∧ at_ ≤ 300 <;> simp [h]
theorem FnExactSaveOk (x0 : Int × (List S116 × Int × Int × Int)) (w : Kit.I64 x0.1 ∧ (Kit.AllOf (fun x : S116 => I64 x.f0 ∧ I64 x.f1 ∧ I64 x.f2 ∧ I64 x.f3 ∧ I64 x.f4 ∧ I64 x.f5) x0.2.1 ∧ (Kit.I64 x0.2.2.1 ∧ (Kit.I64 x0.2.2.2.1 ∧ Kit.I64 x0.2.2.2.2)))) :
    ∃ k, laws_FnExactSaveOk.f k x0.1 x0.2.1 x0.2.2.1 x0.2.2.2.1 x0.2.2.2.2 = some true := by
  obtain ⟨t, l, a, b, c⟩ := x0
  have hr := szSave_eq t l a b c 1048576 (by omega) w.2.1.1
  by_cases hneg : (1048576 : Int) - (l.length : Int) < 0
  · exact ⟨0, by simp only [laws_FnExactSaveOk.f, hr, Option.bind_some, if_pos hneg]; simp⟩
  have ha : l.length ≤ 1048576 := by omega
  have ha' : (l.map cvAgg).length ≤ 1048576 := by simpa using ha
  obtain ⟨k, h1, h2, h3, h4⟩ := ((toSave_ev t l a b c ha).and ((spec_SaveOk_ev t (l.map cvAgg) a b c ha').and ((impl_SaveOk_ev t (l.map cvAgg) a b c ha').and (eqSave_ev t (l.map cvAgg) a b c ha')))).ex
  refine ⟨k, ?_⟩
  simp only [laws_FnExactSaveOk.f, hr, if_neg hneg, Option.bind_some, h1, h2, h3, h4, if_true]
  simp
end Go.Proofs.Ytengkenhmnpbeaa.Pure

/- FnExactSlidesOf: the program's SlidesOf names the windows of a time as the reference does, in new memory: for all numbers. -/
import Derived.Test.YtichhhmfihhplaaPFnExactSlidesOfx2
import Derived.Test.YtichhhmfihhplaaKit
namespace Go.Proofs.Ytichhhmfihhplaa.Pure
open Go.RowKit Go.Proofs.Ytichhhmfihhplaa.PFnExactSlidesOf Go.Proofs.YtichhhmfihhplaaW.PrintWords Go.Proofs.YtichhhmfihhplaaW.PrintLast Go.Proofs.Ytichhhmfihhplaa.Kit
set_option linter.unusedVariables false
set_option linter.unusedSimpArgs false

theorem eqIntS_l0 (l : List Int) (hl : l.length ≤ 9223372036854775807) : ∀ (d i : Nat), i + d = l.length → Evt fun k => laws_eqIntS.l0 k l l (i : Int) = some true := by
  intro d
  induction d with
  | zero =>
    intro i h
    refine Evt.step0 fun k => ?_
    rw [laws_eqIntS.l0, if_neg (by omega)]
  | succ d ih =>
    intro i h
    have hi : i < l.length := by omega
    refine (ih (i + 1) (by omega)).step fun k hk => ?_
    rw [laws_eqIntS.l0, if_pos (ilt hi), if_pos (i0 i), if_pos (ilt hi), if_pos rfl, wrap_nat hi hl]
    exact hk
theorem eqIntS_ev (l : List Int) (hl : l.length ≤ 9223372036854775807) : Evt fun k => laws_eqIntS.f k l l = some true :=
  (eqIntS_l0 l hl l.length 0 (by omega)).map fun k hk => by rw [laws_eqIntS.f, if_pos rfl]; exact hk

theorem markIntS_l0 (a : Int) (y : List Int) (ha : 0 ≤ a) (hl : a + y.length ≤ 9223372036854775807) (hy : ∀ (i : Nat) (h : i < y.length), y[i] = a + (i : Int)) : ∀ (d i : Nat) (x : List Int), i + d = y.length → x.length = y.length → x.take i = y.take i →
    Evt fun k => laws_markIntS.l0 k x (a + i) (i : Int) = some (a + y.length, y) := by
  intro d
  induction d with
  | zero =>
    intro i x h hx ht
    refine Evt.step0 fun k => ?_
    rw [laws_markIntS.l0, if_neg (by omega), fill_end hx (by omega) ht]
    simp
    omega
  | succ d ih =>
    intro i x h hx ht
    have hi : i < y.length := by omega
    obtain ⟨h1, h2⟩ := fill_step (v := a + (i : Int)) hx hi ht (hy i hi)
    refine (ih (i + 1) (x.set i (a + (i : Int))) (by omega) h1 h2).step fun k hk => ?_
    rw [laws_markIntS.l0, if_pos (by omega), if_pos (i0 i), wrap_nat hi (by omega), wrap_in (by omega) (by omega)]
    simp only [Int.toNat_natCast]
    rw [show a + (i : Int) + 1 = a + ((i + 1 : Nat) : Int) by omega]
    exact hk
theorem heldIntS_l0 (a : Int) (y : List Int) (ha : 0 ≤ a) (hl : a + y.length ≤ 9223372036854775807) (hy : ∀ (i : Nat) (h : i < y.length), y[i] = a + (i : Int)) : ∀ (d i : Nat), i + d = y.length →
    Evt fun k => laws_heldIntS.l0 k y (a + i) (i : Int) = some (a + y.length) := by
  intro d
  induction d with
  | zero =>
    intro i h
    refine Evt.step0 fun k => ?_
    rw [laws_heldIntS.l0, if_neg (by omega)]
    simp
    omega
  | succ d ih =>
    intro i h
    have hi : i < y.length := by omega
    refine (ih (i + 1) (by omega)).step fun k hk => ?_
    rw [laws_heldIntS.l0, if_pos (ilt hi), if_pos (i0 i), rd_at hi, if_pos (hy i hi), wrap_nat hi (by omega), wrap_in (by omega) (by omega)]
    rw [show a + (i : Int) + 1 = a + ((i + 1 : Nat) : Int) by omega]
    exact hk
theorem markIntS_ev (a : Int) (l : List Int) (ha : 0 ≤ a) (hl : a + l.length ≤ 9223372036854775807) :
    ∃ y : List Int, (Evt fun k => laws_markIntS.f k l a = some (a + l.length, y)) ∧ (Evt fun k => laws_heldIntS.f k y a = some (a + l.length)) := by
  have hy : ∀ (i : Nat) (h : i < ((List.range l.length).map fun (j : Nat) => a + (j : Int)).length), ((List.range l.length).map fun (j : Nat) => a + (j : Int))[i] = a + (i : Int) := fun i h => by simp
  have hn : ((List.range l.length).map fun (j : Nat) => a + (j : Int)).length = l.length := by simp
  refine ⟨(List.range l.length).map fun (j : Nat) => a + (j : Int), ?_, ?_⟩
  · have := markIntS_l0 a _ ha (by rw [hn]; exact hl) hy l.length 0 l (by rw [hn]; omega) hn.symm (by simp)
    simpa [laws_markIntS.f] using this
  · have := heldIntS_l0 a _ ha (by rw [hn]; exact hl) hy l.length 0 (by rw [hn]; omega)
    simpa [laws_heldIntS.f] using this

theorem l01In_eq (a b c : Int) : spec_l01In.f a b c = some (decide (b ≤ a ∧ a ≤ c)) := by
  unfold spec_l01In.f
  by_cases h : b ≤ a <;> simp [h]
theorem within_eq (a b c : Int) : impl_within.f a b c = some (decide (b ≤ a ∧ a ≤ c)) := by
  unfold impl_within.f
  by_cases h : b ≤ a <;> simp [h]

/-- d numbers from i on. -/
def seg : Nat → Int → List Int
  | 0, _ => []
  | d + 1, i => i :: seg d (i + 1)
theorem seg_length : ∀ (d : Nat) (i : Int), (seg d i).length = d
  | 0, _ => rfl
  | d + 1, i => by simp [seg, seg_length d]
def firstOf (t s h : Int) : Int := if t < s then 0 else (t - s) / h + 1
def slidesOk (t s h : Int) : Prop := (0 ≤ t ∧ t ≤ 1000000) ∧ (1 ≤ s ∧ s ≤ 1000000) ∧ (1 ≤ h ∧ h ≤ 1000000)
instance (t s h : Int) : Decidable (slidesOk t s h) := by unfold slidesOk; infer_instance
/-- The windows that have a time. -/
def slides (t s h : Int) : List Int := if slidesOk t s h then (if t / h - firstOf t s h + 1 > 300 then [] else seg (t / h - firstOf t s h + 1).toNat (firstOf t s h)) else []

theorem div_small {t h : Int} (h0 : 0 ≤ t) (h1 : t ≤ 1000000) (h2 : 1 ≤ h) : 0 ≤ t / h ∧ t / h ≤ 1000000 := by
  refine ⟨Int.ediv_nonneg h0 (by omega), ?_⟩
  exact Int.le_trans (Int.ediv_le_self _ h0) h1
theorem tdiv_of {t h : Int} (h0 : 0 ≤ t) : Int.tdiv t h = t / h := Int.tdiv_eq_ediv_of_nonneg h0
theorem firstOf_range {t s h : Int} (ok : slidesOk t s h) : 0 ≤ firstOf t s h ∧ firstOf t s h ≤ 1000001 := by
  obtain ⟨⟨a0, a1⟩, ⟨b0, b1⟩, c0, c1⟩ := ok
  unfold firstOf
  split
  · omega
  · have := div_small (t := t - s) (h := h) (by omega) (by omega) c0
    omega
theorem first_eq {t s h : Int} (ok : slidesOk t s h) : (mx 0 (t - s + h)) / h = firstOf t s h := by
  obtain ⟨⟨a0, a1⟩, ⟨b0, b1⟩, c0, c1⟩ := ok
  unfold firstOf mx
  by_cases ht : t < s
  · rw [if_pos ht]
    split
    · exact Int.ediv_eq_zero_of_lt (by omega) (by omega)
    · simp
  · rw [if_neg ht, if_pos (by omega), Int.add_ediv_of_dvd_right (Int.dvd_refl h), Int.ediv_self (by omega)]

theorem spec_SlidesOf_l0 (t h : Int) (h0 : 0 ≤ t) (h1 : t ≤ 1000000) (h2 : 1 ≤ h) : ∀ (d : Nat) (i : Int) (out : List Int), 0 ≤ i → i + d = t / h + 1 → out.length + d ≤ 10000000 →
    Evt fun k => spec_SlidesOf.l0 k t h out i = some (out ++ seg d i) := by
  have hd := div_small h0 h1 h2
  intro d
  induction d with
  | zero =>
    intro i out hi hd' hl
    refine Evt.step0 fun k => ?_
    rw [spec_SlidesOf.l0, if_neg (by omega), tdiv_of h0, wrap_in (by omega) (by omega), if_neg (by omega)]
    simp [seg]
  | succ d ih =>
    intro i out hi hd' hl
    refine (ih (i + 1) (out ++ [i]) (by omega) (by omega) (by simp; omega)).step fun k hk => ?_
    rw [spec_SlidesOf.l0, if_neg (by omega), tdiv_of h0, wrap_in (by omega) (by omega), if_pos (by omega), if_pos (by omega), wrap_in (by omega) (by omega), hk]
    simp [seg]
theorem impl_SlidesOf_l0 (n : Int) (h1 : n ≤ 1000000) : ∀ (d : Nat) (i : Int) (out : List Int), 0 ≤ i → i + d = n + 1 → out.length + d ≤ 10000000 →
    Evt fun k => impl_SlidesOf.l0 k n out i = some (out ++ seg d i) := by
  intro d
  induction d with
  | zero =>
    intro i out hi hd' hl
    refine Evt.step0 fun k => ?_
    rw [impl_SlidesOf.l0, if_neg (by omega)]
    simp [seg]
  | succ d ih =>
    intro i out hi hd' hl
    refine (ih (i + 1) (out ++ [i]) (by omega) (by omega) (by simp; omega)).step fun k hk => ?_
    rw [impl_SlidesOf.l0, if_pos (by omega), if_pos (by omega), wrap_in (by omega) (by omega), hk]
    simp [seg]

theorem spec_l11Fine_eq (s h : Int) : spec_l11Fine.f s h = some (decide ((1 ≤ s ∧ s ≤ 1000000) ∧ (1 ≤ h ∧ h ≤ 1000000))) := by
  unfold spec_l11Fine.f
  simp only [l01In_eq, Option.bind_some]
  by_cases h1 : 1 ≤ s ∧ s ≤ 1000000 <;> simp [h1]
theorem spec_l11First_eq {t s h : Int} (ok : slidesOk t s h) : spec_l11First.f t s h = some (firstOf t s h) := by
  have hr := firstOf_range ok
  obtain ⟨⟨a0, a1⟩, ⟨b0, b1⟩, c0, c1⟩ := ok
  unfold spec_l11First.f
  unfold firstOf at *
  by_cases ht : t < s
  · rw [if_pos ht, if_pos ht]
  · have := div_small (t := t - s) (h := h) (by omega) (by omega) c0
    rw [if_neg ht, if_neg (by omega), if_neg ht, wrap_in (x := t - s) (by omega) (by omega), tdiv_of (by omega), wrap_in (x := (t - s) / h) (by omega) (by omega), wrap_in (by omega) (by omega)]
theorem spec_l11Many_eq {t s h : Int} (ok : slidesOk t s h) : spec_l11Many.f t s h = some (decide (t / h - firstOf t s h + 1 > 300)) := by
  have hf := spec_l11First_eq ok
  have hr := firstOf_range ok
  obtain ⟨⟨a0, a1⟩, ⟨b0, b1⟩, c0, c1⟩ := ok
  have hd := div_small a0 a1 c0
  unfold spec_l11Many.f
  rw [if_neg (by omega), hf]
  simp only [Option.bind_some]
  rw [tdiv_of a0, wrap_in (x := t / h) (by omega) (by omega), wrap_in (x := t / h - firstOf t s h) (by omega) (by omega), wrap_in (by omega) (by omega)]
theorem first_le {t s h : Int} (ok : slidesOk t s h) : firstOf t s h ≤ t / h + 1 := by
  obtain ⟨⟨a0, a1⟩, ⟨b0, b1⟩, c0, c1⟩ := ok
  have hd := div_small a0 a1 c0
  unfold firstOf
  split
  · omega
  · have : (t - s) / h ≤ t / h := Int.ediv_le_ediv (by omega) (by omega)
    omega
theorem spec_SlidesOf_ev (t s h : Int) : Evt fun k => spec_SlidesOf.f k t s h = some (slides t s h) := by
  by_cases ok : slidesOk t s h
  · have hm := spec_l11Many_eq ok
    have hf := spec_l11First_eq ok
    have hr := firstOf_range ok
    have hle := first_le ok
    unfold slides
    rw [if_pos ok]
    obtain ⟨⟨a0, a1⟩, ⟨b0, b1⟩, c0, c1⟩ := ok
    have hj : ∀ k, spec_SlidesOf.f k t s h = spec_SlidesOf.j0 k t s h [] false := fun k => by
      unfold spec_SlidesOf.f
      simp [l01In_eq, spec_l11Fine_eq, a0, a1, b0, b1, c0, c1]
    by_cases hb : t / h - firstOf t s h + 1 > 300
    · refine Evt.step0 fun k => ?_
      rw [hj, spec_SlidesOf.j0, hm]
      simp [hb]
    · have hd := div_small a0 a1 c0
      refine (spec_SlidesOf_l0 t h a0 a1 c0 (t / h - firstOf t s h + 1).toNat (firstOf t s h) [] hr.1 (by omega) (by simp; omega)).step fun k hk => ?_
      rw [hj, spec_SlidesOf.j0, hm, hf]
      simp [hb, hk]
  · refine Evt.step0 fun k => ?_
    unfold slides
    rw [if_neg ok]
    unfold spec_SlidesOf.f
    simp only [Option.bind_some, l01In_eq, spec_l11Fine_eq]
    unfold slidesOk at ok
    by_cases h1 : 0 ≤ t ∧ t ≤ 1000000
    · have h2 : ¬((1 ≤ s ∧ s ≤ 1000000) ∧ (1 ≤ h ∧ h ≤ 1000000)) := fun h2 => ok ⟨h1, h2⟩
      simp [h1, h2, spec_SlidesOf.j0]
    · simp [h1, spec_SlidesOf.j0]
theorem impl_isTime_eq (t : Int) : impl_isTime.f t = some (decide (0 ≤ t ∧ t ≤ 1000000)) := by
  unfold impl_isTime.f
  simp only [within_eq, Option.bind_some]
theorem impl_isSize_eq (t : Int) : impl_isSize.f t = some (decide (1 ≤ t ∧ t ≤ 1000000)) := by
  unfold impl_isSize.f
  simp only [within_eq, Option.bind_some]
theorem impl_SlidesOf_ev (t s h : Int) : Evt fun k => impl_SlidesOf.f k t s h = some (slides t s h) := by
  by_cases ok : slidesOk t s h
  · have hf := first_eq ok
    have hr := firstOf_range ok
    have hle := first_le ok
    unfold slides
    rw [if_pos ok]
    obtain ⟨⟨a0, a1⟩, ⟨b0, b1⟩, c0, c1⟩ := ok
    have hd := div_small a0 a1 c0
    have hj : ∀ k, impl_SlidesOf.f k t s h = impl_SlidesOf.j0 k t s h false := fun k => by
      unfold impl_SlidesOf.f
      simp [impl_isTime_eq, impl_isSize_eq, a0, a1, b0, b1, c0, c1]
    have e1 : wrap64 (wrap64 (t - s) + h) = t - s + h := by rw [wrap_in (x := t - s) (by omega) (by omega), wrap_in (by omega) (by omega)]
    have e2 : wrap64 (Int.tdiv (mx 0 (wrap64 (wrap64 (t - s) + h))) h) = firstOf t s h := by rw [e1, tdiv_of (by unfold mx; split <;> omega), hf, wrap_in (by omega) (by omega)]
    have e3 : wrap64 (Int.tdiv t h) = t / h := by rw [tdiv_of a0, wrap_in (by omega) (by omega)]
    by_cases hb : t / h - firstOf t s h + 1 > 300
    · refine Evt.step0 fun k => ?_
      rw [hj, impl_SlidesOf.j0, e2, e3, wrap_in (x := t / h - firstOf t s h) (by omega) (by omega), wrap_in (by omega) (by omega)]
      rw [if_neg (by simp), if_neg (by omega), if_pos hb, if_pos hb]
    · refine (impl_SlidesOf_l0 (t / h) hd.2 (t / h - firstOf t s h + 1).toNat (firstOf t s h) [] hr.1 (by omega) (by simp; omega)).step fun k hk => ?_
      rw [hj, impl_SlidesOf.j0, e2, e3, wrap_in (x := t / h - firstOf t s h) (by omega) (by omega), wrap_in (by omega) (by omega)]
      rw [if_neg (by simp), if_neg (by omega), if_neg hb, if_neg hb, hk]
      simp
  · refine Evt.step0 fun k => ?_
    unfold slides
    rw [if_neg ok]
    unfold impl_SlidesOf.f
    simp only [impl_isTime_eq, impl_isSize_eq, Option.bind_some]
    unfold slidesOk at ok
    by_cases h1 : 0 ≤ t ∧ t ≤ 1000000
    · by_cases h2 : 1 ≤ s ∧ s ≤ 1000000
      · have h3 : ¬(1 ≤ h ∧ h ≤ 1000000) := fun h3 => ok ⟨h1, h2, h3⟩
        simp [h1, h2, h3, impl_SlidesOf.j0]
      · simp [h1, h2, impl_SlidesOf.j0]
    · simp [h1, impl_SlidesOf.j0]
theorem slides_length (t s h : Int) : (slides t s h).length ≤ 300 := by
  unfold slides
  split
  · split
    · simp
    · rw [seg_length]; omega
  · simp

theorem FnExactSlidesOf : laws_FnExactSlidesOf.Pure := by
  intro t s h _ _ _
  have hl := slides_length t s h
  obtain ⟨y, hm, hh⟩ := markIntS_ev 1 (slides t s h) (by omega) (by omega)
  obtain ⟨k, h1, h2, h3, h4, h5⟩ := ((spec_SlidesOf_ev t s h).and ((impl_SlidesOf_ev t s h).and ((eqIntS_ev (slides t s h) (by omega)).and (hm.and hh)))).ex
  refine ⟨k, ?_⟩
  rw [laws_FnExactSlidesOf.f]
  have hn : ¬ (1 + ((slides t s h).length : Int) < 0) := by omega
  simp only [h1, h2, h3, h4, h5, Option.bind_some, if_true, if_neg hn]
end Go.Proofs.Ytichhhmfihhplaa.Pure

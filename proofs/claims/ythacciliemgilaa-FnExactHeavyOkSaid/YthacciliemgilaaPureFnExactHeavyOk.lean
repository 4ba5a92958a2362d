/- FnExactHeavyOk: the program's HeavyOk holds of the counts of which the reference's holds, and leaves them alone: for all counts. -/
import Derived.Test.YthacciliemgilaaPFnExactHeavyOkx
import Derived.Test.YthacciliemgilaaKit
namespace Go.Proofs.Ythacciliemgilaa.Pure
open Go.RowKit Go.Proofs.Ythacciliemgilaa.PFnExactHeavyOk Go.Proofs.YthacciliemgilaaW.PrintWords Go.Proofs.YthacciliemgilaaW.PrintLast Go.Proofs.Ythacciliemgilaa.Kit
set_option linter.unusedVariables false
set_option linter.unusedSimpArgs false

theorem rdSlot_at {xs : List S50} {i : Nat} (h : i < xs.length) : rd_T50 xs (i : Int) = xs[i] := by
  simp [rd_T50, List.getD_eq_getElem?_getD, List.getElem?_eq_getElem h]
theorem rdSlot_set {xs : List S50} {i : Nat} (h : i < xs.length) (v : S50) : rd_T50 (xs.set i v) (i : Int) = v := by
  rw [rdSlot_at (by simpa using h)]
  simp

theorem rdLSlot_at {xs : List S64} {i : Nat} (h : i < xs.length) : rd_T64 xs (i : Int) = xs[i] := by
  simp [rd_T64, List.getD_eq_getElem?_getD, List.getElem?_eq_getElem h]
def cvSlot (x : S64) : S50 := ⟨x.f0, x.f1⟩
theorem toSlotS_l0 (l : List S64) (hl : l.length ≤ 9223372036854775807) : ∀ (d i : Nat) (x : List S50), i + d = l.length → x.length = (l.map cvSlot).length → x.take i = (l.map cvSlot).take i →
    Evt fun k => laws_toSlotS.l0 k l x (i : Int) = some (l.map cvSlot) := by
  intro d
  induction d with
  | zero =>
    intro i x h hx ht
    refine Evt.step0 fun k => ?_
    rw [laws_toSlotS.l0, if_neg (by omega), fill_end hx (by simp; omega) ht]
  | succ d ih =>
    intro i x h hx ht
    have hi : i < l.length := by omega
    obtain ⟨h1, h2⟩ := fill_step (v := cvSlot l[i]) hx (by simpa using hi) ht (by simp)
    have hxl : (i : Int) < (x.length : Int) := by rw [hx, List.length_map]; omega
    refine (ih (i + 1) (x.set i (cvSlot l[i])) (by omega) h1 h2).step fun k hk => ?_
    rw [laws_toSlotS.l0, if_pos (ilt hi), if_pos (i0 i), rdLSlot_at hi]
    simp only [laws_toSlot.f, Option.bind_some, Int.toNat_natCast]
    rw [if_pos hxl, wrap_nat hi hl]
    exact hk
theorem toSlotS_ev (l : List S64) (hl : l.length ≤ 1048576) : Evt fun k => laws_toSlotS.f k l = some (l.map cvSlot) := by
  refine (toSlotS_l0 l (by omega) l.length 0 (List.replicate l.length z50) (by omega) (by simp) (by simp)).map fun k hk => ?_
  rw [laws_toSlotS.f, if_pos (by omega), if_pos (by omega)]
  exact hk

theorem eqSlot_refl (x : S50) : laws_eqSlot.f x.f0 x.f1 x.f0 x.f1 = some true := by simp [laws_eqSlot.f]
theorem eqSlotS_l0 (l : List S50) (hl : l.length ≤ 9223372036854775807) : ∀ (d i : Nat), i + d = l.length → Evt fun k => laws_eqSlotS.l0 k l l (i : Int) = some true := by
  intro d
  induction d with
  | zero =>
    intro i h
    refine Evt.step0 fun k => ?_
    rw [laws_eqSlotS.l0, if_neg (by omega)]
  | succ d ih =>
    intro i h
    have hi : i < l.length := by omega
    refine (ih (i + 1) (by omega)).step fun k hk => ?_
    rw [laws_eqSlotS.l0, if_pos (ilt hi), if_pos (i0 i), if_pos (ilt hi), eqSlot_refl]
    simp only [Option.bind_some, if_true]
    rw [wrap_nat hi hl]
    exact hk
theorem eqSlotS_ev (l : List S50) (hl : l.length ≤ 9223372036854775807) : Evt fun k => laws_eqSlotS.f k l l = some true :=
  (eqSlotS_l0 l hl l.length 0 (by omega)).map fun k hk => by rw [laws_eqSlotS.f, if_pos rfl]; exact hk

theorem l01In_eq (a b c : Int) : spec_l01In.f a b c = some (decide (b ≤ a ∧ a ≤ c)) := by
  unfold spec_l01In.f
  by_cases h : b ≤ a <;> simp [h]
theorem within_eq (a b c : Int) : impl_within.f a b c = some (decide (b ≤ a ∧ a ≤ c)) := by
  unfold impl_within.f
  by_cases h : b ≤ a <;> simp [h]

/-- A slot behind one of the key p (or behind none). -/
def slotsB : Option Int → List S50 → Bool
  | _, [] => true
  | p, s :: r => decide (0 ≤ s.f0 ∧ s.f0 ≤ 65535) && (decide (1 ≤ s.f1 ∧ s.f1 ≤ 1000000000) && ((match p with | none => true | some q => decide (q < s.f0)) && slotsB (some s.f0) r))
theorem slotsB_cons (p : Option Int) (s : S50) (r : List S50) : slotsB p (s :: r) = (decide (0 ≤ s.f0 ∧ s.f0 ≤ 65535) && (decide (1 ≤ s.f1 ∧ s.f1 ≤ 1000000000) && ((match p with | none => true | some q => decide (q < s.f0)) && slotsB (some s.f0) r))) := rfl
def heavyB (room : Int) (l : List S50) (total cut : Int) : Bool :=
  decide (1 ≤ room ∧ room ≤ 16) && (decide ((l.length : Int) ≤ room) && (decide (0 ≤ total ∧ total ≤ 1000000000) && (decide (0 ≤ cut ∧ cut ≤ 1000000000) && slotsB none l)))
def prevK (l : List S50) (i : Nat) : Option Int := if h : 0 < i ∧ i ≤ l.length then some (l[i - 1]'(by omega)).f0 else none
theorem prevK_succ {l : List S50} {i : Nat} (h : i < l.length) : prevK l (i + 1) = some l[i].f0 := by
  unfold prevK
  rw [dif_pos ⟨by omega, by omega⟩]
  rfl
theorem impl_isKey_eq (t : Int) : impl_isKey.f t = some (decide (0 ≤ t ∧ t ≤ 65535)) := by
  unfold impl_isKey.f
  simp only [within_eq, Option.bind_some]
theorem impl_isMany_eq (t : Int) : impl_isMany.f t = some (decide (0 ≤ t ∧ t ≤ 1000000000)) := by
  unfold impl_isMany.f
  simp only [within_eq, Option.bind_some]
theorem spec_l13Key_eq (t : Int) : spec_l13Key.f t = some (decide (0 ≤ t ∧ t ≤ 65535)) := by
  unfold spec_l13Key.f
  simp only [l01In_eq, Option.bind_some]
theorem spec_HeavyOk_l0 (room total cut : Int) (l : List S50) (hl : l.length ≤ 1048576) : ∀ (d i : Nat), i + d = l.length →
    Evt fun k => spec_HeavyOk.l0 k (i : Int) room l total cut = some (slotsB (prevK l i) (l.drop i)) := by
  intro d
  induction d with
  | zero =>
    intro i h
    refine Evt.step0 fun k => ?_
    rw [spec_HeavyOk.l0, if_neg (by omega), List.drop_of_length_le (by omega)]
    rfl
  | succ d ih =>
    intro i h
    have hi : i < l.length := by omega
    refine (ih (i + 1) (by omega)).step fun k hk => ?_
    rw [spec_HeavyOk.l0, if_pos (ilt hi), if_pos (i0 i), rdSlot_at hi, drop_at hi]
    simp only [spec_l13Key_eq, l01In_eq, Option.bind_some]
    rw [wrap_nat hi (by omega), hk, prevK_succ hi]
    rw [slotsB_cons]
    by_cases h0 : 0 ≤ l[i].f0 ∧ l[i].f0 ≤ 65535
    · by_cases h1 : 1 ≤ l[i].f1 ∧ l[i].f1 ≤ 1000000000
      · simp only [h0, h1, and_self, decide_true, if_true, Bool.true_and]
        by_cases hz : i = 0
        · subst hz
          rw [if_neg (by omega)]
          simp [prevK]
        · have hp : i - 1 < l.length := by omega
          have hw : wrap64 ((i : Int) - 1) = ((i - 1 : Nat) : Int) := by rw [wrap_in (by omega) (by omega)]; omega
          rw [if_pos (by omega), hw, if_pos (i0 _), if_pos (ilt hp), rdSlot_at hp]
          have : prevK l i = some (l[i - 1]'hp).f0 := by unfold prevK; rw [dif_pos ⟨by omega, by omega⟩]
          rw [this]
          by_cases hlt : (l[i - 1]'hp).f0 < l[i].f0
          · rw [if_neg (by omega)]
            simp [hlt]
          · rw [if_pos (by omega)]
            simp [hlt]
      · simp [h0, h1]
    · simp [h0]
theorem impl_HeavyOk_l0 (room total cut : Int) (l : List S50) (hl : l.length ≤ 1048576) : ∀ (d i : Nat), i + d = l.length →
    Evt fun k => impl_HeavyOk.l0 k l (l.length : Int) (i : Int) room l total cut = some (slotsB (prevK l i) (l.drop i)) := by
  intro d
  induction d with
  | zero =>
    intro i h
    refine Evt.step0 fun k => ?_
    rw [impl_HeavyOk.l0, if_neg (by omega), List.drop_of_length_le (by omega)]
    rfl
  | succ d ih =>
    intro i h
    have hi : i < l.length := by omega
    refine (ih (i + 1) (by omega)).step fun k hk => ?_
    rw [impl_HeavyOk.l0, if_pos (ilt hi), if_pos (i0 i), if_pos (ilt hi), rdSlot_at hi, drop_at hi]
    simp only [impl_isKey_eq, within_eq, Option.bind_some]
    rw [wrap_nat hi (by omega), hk, prevK_succ hi]
    rw [slotsB_cons]
    by_cases h0 : 0 ≤ l[i].f0 ∧ l[i].f0 ≤ 65535
    · by_cases h1 : 1 ≤ l[i].f1 ∧ l[i].f1 ≤ 1000000000
      · simp only [h0, h1, and_self, decide_true, if_true, Bool.true_and]
        by_cases hz : i = 0
        · subst hz
          rw [if_neg (by omega)]
          simp [prevK]
        · have hp : i - 1 < l.length := by omega
          have hw : wrap64 ((i : Int) - 1) = ((i - 1 : Nat) : Int) := by rw [wrap_in (by omega) (by omega)]; omega
          rw [if_pos (by omega), hw, if_pos (i0 _), if_pos (ilt hp), rdSlot_at hp]
          have : prevK l i = some (l[i - 1]'hp).f0 := by unfold prevK; rw [dif_pos ⟨by omega, by omega⟩]
          rw [this]
          by_cases hlt : (l[i - 1]'hp).f0 < l[i].f0
          · rw [if_neg (by omega)]
            simp [hlt]
          · rw [if_pos (by omega)]
            simp [hlt]
      · simp [h0, h1]
    · simp [h0]
theorem spec_HeavyOk_ev (room : Int) (l : List S50) (total cut : Int) (hl : l.length ≤ 1048576) : Evt fun k => spec_HeavyOk.f k room l total cut = some (heavyB room l total cut) := by
  refine (spec_HeavyOk_l0 room total cut l hl l.length 0 (by omega)).step fun k hk => ?_
  have hk' : spec_HeavyOk.l0 k 0 room l total cut = some (slotsB none l) := by simpa [prevK] using hk
  unfold spec_HeavyOk.f heavyB
  simp only [l01In_eq, Option.bind_some]
  by_cases h0 : 1 ≤ room ∧ room ≤ 16
  · by_cases h1 : (l.length : Int) > room
    · have h1' : ¬ (l.length : Int) ≤ room := by omega
      simp [h0, h1, h1', spec_HeavyOk.j0]
    · by_cases h2 : 0 ≤ total ∧ total ≤ 1000000000
      · by_cases h3 : 0 ≤ cut ∧ cut ≤ 1000000000
        · simp [h0, h1, h2, h3, spec_HeavyOk.j0, hk', Int.not_lt.1 h1]
        · simp [h0, h1, h2, h3, spec_HeavyOk.j0]
      · simp [h0, h1, h2, spec_HeavyOk.j0]
  · simp [h0, spec_HeavyOk.j0]
theorem impl_HeavyOk_ev (room : Int) (l : List S50) (total cut : Int) (hl : l.length ≤ 1048576) : Evt fun k => impl_HeavyOk.f k room l total cut = some (heavyB room l total cut) := by
  refine (impl_HeavyOk_l0 room total cut l hl l.length 0 (by omega)).step fun k hk => ?_
  have hk' : impl_HeavyOk.l0 k l (l.length : Int) 0 room l total cut = some (slotsB none l) := by simpa [prevK] using hk
  unfold impl_HeavyOk.f heavyB
  simp only [within_eq, impl_isMany_eq, Option.bind_some]
  by_cases h0 : 1 ≤ room ∧ room ≤ 16
  · by_cases h1 : (l.length : Int) > room
    · have h1' : ¬ (l.length : Int) ≤ room := by omega
      simp [h0, h1, h1', impl_HeavyOk.j0]
    · by_cases h2 : 0 ≤ total ∧ total ≤ 1000000000
      · by_cases h3 : 0 ≤ cut ∧ cut ≤ 1000000000
        · simp [h0, h1, h2, h3, impl_HeavyOk.j0, hk', Int.not_lt.1 h1]
        · simp [h0, h1, h2, h3, impl_HeavyOk.j0]
      · simp [h0, h1, h2, impl_HeavyOk.j0]
  · simp [h0, impl_HeavyOk.j0]

theorem toHeavy_ev (room : Int) (l : List S64) (total cut : Int) (hl : l.length ≤ 1048576) : Evt fun k => laws_toHeavy.f k room l total cut = some (room, l.map cvSlot, total, cut) :=
  (toSlotS_ev l hl).map fun k hk => by rw [laws_toHeavy.f, hk]; rfl
theorem eqHeavy_ev (room : Int) (l : List S50) (total cut : Int) (hl : l.length ≤ 9223372036854775807) : Evt fun k => laws_eqHeavy.f k room l total cut room l total cut = some true :=
  (eqSlotS_ev l hl).map fun k hk => by simp [laws_eqHeavy.f, hk]
theorem szHeavy_eq (room : Int) (l : List S64) (total cut : Int) (hl : l.length ≤ 9223372036854775807) :
    laws_szHeavy.f room l total cut 1048576 = some (if 1048576 - (l.length : Int) < 0 then -1 else 1048576 - (l.length : Int)) := by
  have hw : wrap64 (1048576 - (l.length : Int)) = 1048576 - (l.length : Int) := wrap_in (by omega) (by omega)
  unfold laws_szHeavy.f laws_szSlotS.f
  rw [hw]
  by_cases h : 1048576 - (l.length : Int) < 0 <;> simp [h]

theorem FnExactHeavyOk (x0 : Int × List S64 × Int × Int) (w : I64 x0.1 ∧ AllOf (fun x : S64 => I64 x.f0 ∧ I64 x.f1) x0.2.1 ∧ I64 x0.2.2.1 ∧ I64 x0.2.2.2) :
    ∃ k, laws_FnExactHeavyOk.f k x0.1 x0.2.1 x0.2.2.1 x0.2.2.2 = some true := by
  obtain ⟨room, l, total, cut⟩ := x0
  have hsz := szHeavy_eq room l total cut w.2.1.1
  by_cases hbig : 1048576 - (l.length : Int) < 0
  · exact ⟨0, by simp only [laws_FnExactHeavyOk.f, hsz, if_pos hbig, Option.bind_some]; rfl⟩
  have hle : l.length ≤ 1048576 := by omega
  have hle' : (l.map cvSlot).length ≤ 1048576 := by simpa using hle
  obtain ⟨k, h1, h2, h3, h4⟩ := ((toHeavy_ev room l total cut hle).and ((spec_HeavyOk_ev room (l.map cvSlot) total cut hle').and ((impl_HeavyOk_ev room (l.map cvSlot) total cut hle').and (eqHeavy_ev room (l.map cvSlot) total cut (by omega))))).ex
  refine ⟨k, ?_⟩
  simp only [laws_FnExactHeavyOk.f, hsz, if_neg hbig, Option.bind_some, h1, h2, h3, h4, if_true]
  simp
end Go.Proofs.Ythacciliemgilaa.Pure

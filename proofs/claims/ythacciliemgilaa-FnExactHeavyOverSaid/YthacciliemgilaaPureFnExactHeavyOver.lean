/- FnExactHeavyOver: the program's HeavyOver names the keys that the reference names, in new memory, and leaves the counts alone: for all counts and parts. -/
import Derived.Test.YthacciliemgilaaPFnExactHeavyOverx
import Derived.Test.YthacciliemgilaaKit
import Derived.IntWalk
namespace Go.Proofs.Ythacciliemgilaa.Pure
open Go Go.RowKit Go.Proofs.Ythacciliemgilaa.PFnExactHeavyOver Go.Proofs.YthacciliemgilaaW.PrintWords Go.Proofs.YthacciliemgilaaW.PrintLast Go.Proofs.Ythacciliemgilaa.Kit
set_option linter.unusedVariables false
set_option linter.unusedSimpArgs false

theorem rdSlot_at {xs : List S50} {i : Nat} (h : i < xs.length) : rd_T50 xs (i : Int) = xs[i] := by
  simp [rd_T50, List.getD_eq_getElem?_getD, List.getElem?_eq_getElem h]
theorem rdSlot_set {xs : List S50} {i : Nat} (h : i < xs.length) (v : S50) : rd_T50 (xs.set i v) (i : Int) = v := by
  rw [rdSlot_at (by simpa using h)]
  simp

theorem rdLSlot_at {xs : List S64} {i : Nat} (h : i < xs.length) : rd_T64 xs (i : Int) = xs[i] := by
  simp [rd_T64, List.getD_eq_getElem?_getD, List.getElem?_eq_getElem h]
def cvSlot (x : S64) : S50 := ⟨x.f0, x.f1⟩
theorem toSlotS_l0 (l : List S64) (hl : l.length ≤ 9223372036854775807) : ∀ (d i : Nat) (x : List S50), i + d = l.length → x.length = (l.map cvSlot).length → x.take i = (l.map cvSlot).take i →
    Evt fun k => laws_toSlotS.l0 k l x (i : Int) = some (l.map cvSlot) := by
  intro d
  induction d with
  | zero =>
    intro i x h hx ht
    refine Evt.step0 fun k => ?_
    rw [laws_toSlotS.l0, if_neg (by omega), fill_end hx (by simp; omega) ht]
  | succ d ih =>
    intro i x h hx ht
    have hi : i < l.length := by omega
    obtain ⟨h1, h2⟩ := fill_step (v := cvSlot l[i]) hx (by simpa using hi) ht (by simp)
    have hxl : (i : Int) < (x.length : Int) := by rw [hx, List.length_map]; omega
    refine (ih (i + 1) (x.set i (cvSlot l[i])) (by omega) h1 h2).step fun k hk => ?_
    rw [laws_toSlotS.l0, if_pos (ilt hi), if_pos (i0 i), rdLSlot_at hi]
    simp only [laws_toSlot.f, Option.bind_some, Int.toNat_natCast]
    rw [if_pos hxl, wrap_nat hi hl]
    exact hk
theorem toSlotS_ev (l : List S64) (hl : l.length ≤ 1048576) : Evt fun k => laws_toSlotS.f k l = some (l.map cvSlot) := by
  refine (toSlotS_l0 l (by omega) l.length 0 (List.replicate l.length z50) (by omega) (by simp) (by simp)).map fun k hk => ?_
  rw [laws_toSlotS.f, if_pos (by omega), if_pos (by omega)]
  exact hk

theorem eqSlot_refl (x : S50) : laws_eqSlot.f x.f0 x.f1 x.f0 x.f1 = some true := by simp [laws_eqSlot.f]
theorem eqSlotS_l0 (l : List S50) (hl : l.length ≤ 9223372036854775807) : ∀ (d i : Nat), i + d = l.length → Evt fun k => laws_eqSlotS.l0 k l l (i : Int) = some true := by
  intro d
  induction d with
  | zero =>
    intro i h
    refine Evt.step0 fun k => ?_
    rw [laws_eqSlotS.l0, if_neg (by omega)]
  | succ d ih =>
    intro i h
    have hi : i < l.length := by omega
    refine (ih (i + 1) (by omega)).step fun k hk => ?_
    rw [laws_eqSlotS.l0, if_pos (ilt hi), if_pos (i0 i), if_pos (ilt hi), eqSlot_refl]
    simp only [Option.bind_some, if_true]
    rw [wrap_nat hi hl]
    exact hk
theorem eqSlotS_ev (l : List S50) (hl : l.length ≤ 9223372036854775807) : Evt fun k => laws_eqSlotS.f k l l = some true :=
  (eqSlotS_l0 l hl l.length 0 (by omega)).map fun k hk => by rw [laws_eqSlotS.f, if_pos rfl]; exact hk

theorem l01In_eq (a b c : Int) : spec_l01In.f a b c = some (decide (b ≤ a ∧ a ≤ c)) := by
  unfold spec_l01In.f
  by_cases h : b ≤ a <;> simp [h]
theorem within_eq (a b c : Int) : impl_within.f a b c = some (decide (b ≤ a ∧ a ≤ c)) := by
  unfold impl_within.f
  by_cases h : b ≤ a <;> simp [h]

/-- A slot behind one of the key p (or behind none). -/
def slotsB : Option Int → List S50 → Bool
  | _, [] => true
  | p, s :: r => decide (0 ≤ s.f0 ∧ s.f0 ≤ 65535) && (decide (1 ≤ s.f1 ∧ s.f1 ≤ 1000000000) && ((match p with | none => true | some q => decide (q < s.f0)) && slotsB (some s.f0) r))
theorem slotsB_cons (p : Option Int) (s : S50) (r : List S50) : slotsB p (s :: r) = (decide (0 ≤ s.f0 ∧ s.f0 ≤ 65535) && (decide (1 ≤ s.f1 ∧ s.f1 ≤ 1000000000) && ((match p with | none => true | some q => decide (q < s.f0)) && slotsB (some s.f0) r))) := rfl
def heavyB (room : Int) (l : List S50) (total cut : Int) : Bool :=
  decide (1 ≤ room ∧ room ≤ 16) && (decide ((l.length : Int) ≤ room) && (decide (0 ≤ total ∧ total ≤ 1000000000) && (decide (0 ≤ cut ∧ cut ≤ 1000000000) && slotsB none l)))
def prevK (l : List S50) (i : Nat) : Option Int := if h : 0 < i ∧ i ≤ l.length then some (l[i - 1]'(by omega)).f0 else none
theorem prevK_succ {l : List S50} {i : Nat} (h : i < l.length) : prevK l (i + 1) = some l[i].f0 := by
  unfold prevK
  rw [dif_pos ⟨by omega, by omega⟩]
  rfl
theorem impl_isKey_eq (t : Int) : impl_isKey.f t = some (decide (0 ≤ t ∧ t ≤ 65535)) := by
  unfold impl_isKey.f
  simp only [within_eq, Option.bind_some]
theorem impl_isMany_eq (t : Int) : impl_isMany.f t = some (decide (0 ≤ t ∧ t ≤ 1000000000)) := by
  unfold impl_isMany.f
  simp only [within_eq, Option.bind_some]
theorem spec_l13Key_eq (t : Int) : spec_l13Key.f t = some (decide (0 ≤ t ∧ t ≤ 65535)) := by
  unfold spec_l13Key.f
  simp only [l01In_eq, Option.bind_some]
theorem spec_HeavyOk_l0 (room total cut : Int) (l : List S50) (hl : l.length ≤ 1048576) : ∀ (d i : Nat), i + d = l.length →
    Evt fun k => spec_HeavyOk.l0 k (i : Int) room l total cut = some (slotsB (prevK l i) (l.drop i)) := by
  intro d
  induction d with
  | zero =>
    intro i h
    refine Evt.step0 fun k => ?_
    rw [spec_HeavyOk.l0, if_neg (by omega), List.drop_of_length_le (by omega)]
    rfl
  | succ d ih =>
    intro i h
    have hi : i < l.length := by omega
    refine (ih (i + 1) (by omega)).step fun k hk => ?_
    rw [spec_HeavyOk.l0, if_pos (ilt hi), if_pos (i0 i), rdSlot_at hi, drop_at hi]
    simp only [spec_l13Key_eq, l01In_eq, Option.bind_some]
    rw [wrap_nat hi (by omega), hk, prevK_succ hi]
    rw [slotsB_cons]
    by_cases h0 : 0 ≤ l[i].f0 ∧ l[i].f0 ≤ 65535
    · by_cases h1 : 1 ≤ l[i].f1 ∧ l[i].f1 ≤ 1000000000
      · simp only [h0, h1, and_self, decide_true, if_true, Bool.true_and]
        by_cases hz : i = 0
        · subst hz
          rw [if_neg (by omega)]
          simp [prevK]
        · have hp : i - 1 < l.length := by omega
          have hw : wrap64 ((i : Int) - 1) = ((i - 1 : Nat) : Int) := by rw [wrap_in (by omega) (by omega)]; omega
          rw [if_pos (by omega), hw, if_pos (i0 _), if_pos (ilt hp), rdSlot_at hp]
          have : prevK l i = some (l[i - 1]'hp).f0 := by unfold prevK; rw [dif_pos ⟨by omega, by omega⟩]
          rw [this]
          by_cases hlt : (l[i - 1]'hp).f0 < l[i].f0
          · rw [if_neg (by omega)]
            simp [hlt]
          · rw [if_pos (by omega)]
            simp [hlt]
      · simp [h0, h1]
    · simp [h0]
theorem impl_HeavyOk_l0 (room total cut : Int) (l : List S50) (hl : l.length ≤ 1048576) : ∀ (d i : Nat), i + d = l.length →
    Evt fun k => impl_HeavyOk.l0 k l (l.length : Int) (i : Int) room l total cut = some (slotsB (prevK l i) (l.drop i)) := by
  intro d
  induction d with
  | zero =>
    intro i h
    refine Evt.step0 fun k => ?_
    rw [impl_HeavyOk.l0, if_neg (by omega), List.drop_of_length_le (by omega)]
    rfl
  | succ d ih =>
    intro i h
    have hi : i < l.length := by omega
    refine (ih (i + 1) (by omega)).step fun k hk => ?_
    rw [impl_HeavyOk.l0, if_pos (ilt hi), if_pos (i0 i), if_pos (ilt hi), rdSlot_at hi, drop_at hi]
    simp only [impl_isKey_eq, within_eq, Option.bind_some]
    rw [wrap_nat hi (by omega), hk, prevK_succ hi]
    rw [slotsB_cons]
    by_cases h0 : 0 ≤ l[i].f0 ∧ l[i].f0 ≤ 65535
    · by_cases h1 : 1 ≤ l[i].f1 ∧ l[i].f1 ≤ 1000000000
      · simp only [h0, h1, and_self, decide_true, if_true, Bool.true_and]
        by_cases hz : i = 0
        · subst hz
          rw [if_neg (by omega)]
          simp [prevK]
        · have hp : i - 1 < l.length := by omega
          have hw : wrap64 ((i : Int) - 1) = ((i - 1 : Nat) : Int) := by rw [wrap_in (by omega) (by omega)]; omega
          rw [if_pos (by omega), hw, if_pos (i0 _), if_pos (ilt hp), rdSlot_at hp]
          have : prevK l i = some (l[i - 1]'hp).f0 := by unfold prevK; rw [dif_pos ⟨by omega, by omega⟩]
          rw [this]
          by_cases hlt : (l[i - 1]'hp).f0 < l[i].f0
          · rw [if_neg (by omega)]
            simp [hlt]
          · rw [if_pos (by omega)]
            simp [hlt]
      · simp [h0, h1]
    · simp [h0]
theorem spec_HeavyOk_ev (room : Int) (l : List S50) (total cut : Int) (hl : l.length ≤ 1048576) : Evt fun k => spec_HeavyOk.f k room l total cut = some (heavyB room l total cut) := by
  refine (spec_HeavyOk_l0 room total cut l hl l.length 0 (by omega)).step fun k hk => ?_
  have hk' : spec_HeavyOk.l0 k 0 room l total cut = some (slotsB none l) := by simpa [prevK] using hk
  unfold spec_HeavyOk.f heavyB
  simp only [l01In_eq, Option.bind_some]
  by_cases h0 : 1 ≤ room ∧ room ≤ 16
  · by_cases h1 : (l.length : Int) > room
    · have h1' : ¬ (l.length : Int) ≤ room := by omega
      simp [h0, h1, h1', spec_HeavyOk.j0]
    · by_cases h2 : 0 ≤ total ∧ total ≤ 1000000000
      · by_cases h3 : 0 ≤ cut ∧ cut ≤ 1000000000
        · simp [h0, h1, h2, h3, spec_HeavyOk.j0, hk', Int.not_lt.1 h1]
        · simp [h0, h1, h2, h3, spec_HeavyOk.j0]
      · simp [h0, h1, h2, spec_HeavyOk.j0]
  · simp [h0, spec_HeavyOk.j0]
theorem impl_HeavyOk_ev (room : Int) (l : List S50) (total cut : Int) (hl : l.length ≤ 1048576) : Evt fun k => impl_HeavyOk.f k room l total cut = some (heavyB room l total cut) := by
  refine (impl_HeavyOk_l0 room total cut l hl l.length 0 (by omega)).step fun k hk => ?_
  have hk' : impl_HeavyOk.l0 k l (l.length : Int) 0 room l total cut = some (slotsB none l) := by simpa [prevK] using hk
  unfold impl_HeavyOk.f heavyB
  simp only [within_eq, impl_isMany_eq, Option.bind_some]
  by_cases h0 : 1 ≤ room ∧ room ≤ 16
  · by_cases h1 : (l.length : Int) > room
    · have h1' : ¬ (l.length : Int) ≤ room := by omega
      simp [h0, h1, h1', impl_HeavyOk.j0]
    · by_cases h2 : 0 ≤ total ∧ total ≤ 1000000000
      · by_cases h3 : 0 ≤ cut ∧ cut ≤ 1000000000
        · simp [h0, h1, h2, h3, impl_HeavyOk.j0, hk', Int.not_lt.1 h1]
        · simp [h0, h1, h2, h3, impl_HeavyOk.j0]
      · simp [h0, h1, h2, impl_HeavyOk.j0]
  · simp [h0, impl_HeavyOk.j0]

theorem toHeavy_ev (room : Int) (l : List S64) (total cut : Int) (hl : l.length ≤ 1048576) : Evt fun k => laws_toHeavy.f k room l total cut = some (room, l.map cvSlot, total, cut) :=
  (toSlotS_ev l hl).map fun k hk => by rw [laws_toHeavy.f, hk]; rfl
theorem eqHeavy_ev (room : Int) (l : List S50) (total cut : Int) (hl : l.length ≤ 9223372036854775807) : Evt fun k => laws_eqHeavy.f k room l total cut room l total cut = some true :=
  (eqSlotS_ev l hl).map fun k hk => by simp [laws_eqHeavy.f, hk]
theorem szHeavy_eq (room : Int) (l : List S64) (total cut : Int) (hl : l.length ≤ 9223372036854775807) :
    laws_szHeavy.f room l total cut 1048576 = some (if 1048576 - (l.length : Int) < 0 then -1 else 1048576 - (l.length : Int)) := by
  have hw : wrap64 (1048576 - (l.length : Int)) = 1048576 - (l.length : Int) := wrap_in (by omega) (by omega)
  unfold laws_szHeavy.f laws_szSlotS.f
  rw [hw]
  by_cases h : 1048576 - (l.length : Int) < 0 <;> simp [h]

/-- cmp.Compare of two ints. -/
def cmpI (a b : Int) : Int := if a < b then -1 else if b < a then 1 else 0
theorem cmp_eq (a b : Int) : cmp_Compare_int.f a b = some (cmpI a b) := by
  unfold cmp_Compare_int.f cmp_isNaN_int.f cmpI
  by_cases h : a < b <;> by_cases h' : b < a <;> simp [h, h']
theorem cmpI_zero {a b : Int} : cmpI a b = 0 ↔ a = b := by
  unfold cmpI
  split
  · constructor <;> intro h <;> omega
  · split
    · constructor <;> intro h <;> omega
    · constructor <;> intro h <;> omega
theorem cmpI_neg {a b : Int} : cmpI a b < 0 ↔ a < b := by
  unfold cmpI
  split
  · constructor <;> intro h <;> omega
  · split
    · constructor <;> intro h <;> omega
    · constructor <;> intro h <;> omega

theorem bsSlot_l0 (l : List S50) (hl : l.length ≤ 1048576) (key : Int) (c : S50 → Int) (hc : ∀ s : S50, Evt fun k => impl_slotAt_1.f s.f0 s.f1 key = some (c s)) (m : Nat) (hm : m ≤ l.length)
    (hlt : ∀ (j : Nat) (h : j < l.length), j < m → c l[j] < 0) (hge : ∀ (j : Nat) (h : j < l.length), m ≤ j → ¬ c l[j] < 0) :
    ∀ (d lo hi : Nat), hi - lo ≤ d → lo ≤ m → m ≤ hi → hi ≤ l.length → Evt fun k => slices_BinarySearchFunc_impl_Slot_impl_Slot_int_impl_slotAt_1.l0 k l key (l.length : Int) (lo : Int) (hi : Int)  = some ((m : Int), if h : m < l.length then (c l[m] == 0) else false) := by
  intro d
  induction d with
  | zero =>
    intro lo hi h0 h1 h2 h3
    have hlo : lo = m := by omega
    subst hlo
    by_cases hn : lo < l.length
    · refine (hc l[lo]).step fun k hcl => ?_
      rw [slices_BinarySearchFunc_impl_Slot_impl_Slot_int_impl_slotAt_1.l0, if_neg (by omega), if_pos (by omega), if_pos (i0 lo), if_pos (ilt hn), rdSlot_at hn, hcl, dif_pos hn]
      rfl
    · refine Evt.step0 fun k => ?_
      rw [slices_BinarySearchFunc_impl_Slot_impl_Slot_int_impl_slotAt_1.l0, if_neg (by omega), if_neg (by omega), dif_neg hn]
  | succ d ih =>
    intro lo hi h0 h1 h2 h3
    by_cases he : lo < hi
    · have hmid : wrap64 (IntKind.u64.wrap (wrap64 ((lo : Int) + (hi : Int))) / 2) = (((lo + hi) / 2 : Nat) : Int) := by
        have e1 : wrap64 ((lo : Int) + (hi : Int)) = (lo : Int) + (hi : Int) := wrap_in (by omega) (by omega)
        have e2 : IntKind.u64.wrap ((lo : Int) + (hi : Int)) = (lo : Int) + (hi : Int) := IntWalk.u64_in _ (by omega)
        have e3 : wrap64 (((lo : Int) + (hi : Int)) / 2) = ((lo : Int) + (hi : Int)) / 2 := wrap_in (by omega) (by omega)
        rw [e1, e2, e3]
        omega
      have hml : (lo + hi) / 2 < l.length := by omega
      have hw : wrap64 ((((lo + hi) / 2 : Nat) : Int) + 1) = (((lo + hi) / 2 + 1 : Nat) : Int) := wrap_nat hml (by omega)
      by_cases hc0 : c l[(lo + hi) / 2] < 0
      · have hmm : (lo + hi) / 2 < m := by
          by_cases hx : (lo + hi) / 2 < m
          · exact hx
          · exact absurd hc0 (hge _ hml (by omega))
        refine ((ih ((lo + hi) / 2 + 1) hi (by omega) (by omega) h2 h3).and (hc l[(lo + hi) / 2])).step fun k ⟨hk, hcl⟩ => ?_
        rw [slices_BinarySearchFunc_impl_Slot_impl_Slot_int_impl_slotAt_1.l0, if_pos (by omega), hmid, if_pos (i0 _), if_pos (ilt hml), rdSlot_at hml, hcl]
        simp only [Option.bind_some]
        rw [if_pos hc0, hw]
        exact hk
      · have hmm : m ≤ (lo + hi) / 2 := by
          by_cases hx : m ≤ (lo + hi) / 2
          · exact hx
          · exact absurd (hlt _ hml (by omega)) hc0
        refine ((ih lo ((lo + hi) / 2) (by omega) h1 hmm (by omega)).and (hc l[(lo + hi) / 2])).step fun k ⟨hk, hcl⟩ => ?_
        rw [slices_BinarySearchFunc_impl_Slot_impl_Slot_int_impl_slotAt_1.l0, if_pos (by omega), hmid, if_pos (i0 _), if_pos (ilt hml), rdSlot_at hml, hcl]
        simp only [Option.bind_some]
        rw [if_neg hc0]
        exact hk
    · have hlo : lo = m := by omega
      subst hlo
      by_cases hn : lo < l.length
      · refine (hc l[lo]).step fun k hcl => ?_
        rw [slices_BinarySearchFunc_impl_Slot_impl_Slot_int_impl_slotAt_1.l0, if_neg (by omega), if_pos (by omega), if_pos (i0 lo), if_pos (ilt hn), rdSlot_at hn, hcl, dif_pos hn]
        rfl
      · refine Evt.step0 fun k => ?_
        rw [slices_BinarySearchFunc_impl_Slot_impl_Slot_int_impl_slotAt_1.l0, if_neg (by omega), if_neg (by omega), dif_neg hn]

/-! ### rising slots: where a key stands -/
theorem slotsB_rise : ∀ (p : Option Int) (l : List S50), slotsB p l = true → (∀ q, p = some q → ∀ s ∈ l, q < s.f0) ∧ l.Pairwise (fun a b => a.f0 < b.f0) ∧ ∀ s ∈ l, (0 ≤ s.f0 ∧ s.f0 ≤ 65535) ∧ (1 ≤ s.f1 ∧ s.f1 ≤ 1000000000)
  | _, [], _ => ⟨fun _ _ _ h => by simp at h, List.Pairwise.nil, fun _ h => by simp at h⟩
  | p, s :: r, h => by
    rw [slotsB_cons] at h
    simp only [Bool.and_eq_true, decide_eq_true_eq] at h
    obtain ⟨h1, h2, h3, h4⟩ := h
    obtain ⟨g1, g2, g3⟩ := slotsB_rise (some s.f0) r h4
    refine ⟨fun q hq x hx => ?_, List.Pairwise.cons (fun x hx => g1 _ rfl x hx) g2, fun x hx => ?_⟩
    · subst hq
      have hqs : q < s.f0 := by simpa using h3
      rcases List.mem_cons.1 hx with rfl | hx
      · exact hqs
      · have := g1 _ rfl x hx
        omega
    · rcases List.mem_cons.1 hx with rfl | hx
      · exact ⟨h1, h2⟩
      · exact g3 x hx
theorem slotsB_of : ∀ (p : Option Int) (l : List S50), (∀ q, p = some q → ∀ s ∈ l, q < s.f0) → l.Pairwise (fun a b => a.f0 < b.f0) → (∀ s ∈ l, (0 ≤ s.f0 ∧ s.f0 ≤ 65535) ∧ (1 ≤ s.f1 ∧ s.f1 ≤ 1000000000)) → slotsB p l = true
  | _, [], _, _, _ => rfl
  | p, s :: r, h1, h2, h3 => by
    rw [slotsB_cons]
    simp only [Bool.and_eq_true, decide_eq_true_eq]
    obtain ⟨g1, g2⟩ := List.pairwise_cons.1 h2
    refine ⟨(h3 s (by simp)).1, (h3 s (by simp)).2, ?_, slotsB_of (some s.f0) r (fun q hq x hx => by cases hq; exact g1 x hx) g2 (fun x hx => h3 x (by simp [hx]))⟩
    cases p with
    | none => rfl
    | some q => simpa using h1 q rfl s (by simp)
/-- How many slots stand ahead of a key. -/
def ahead (l : List S50) (key : Int) : Nat := (l.takeWhile fun s => decide (s.f0 < key)).length
theorem ahead_le (l : List S50) (key : Int) : ahead l key ≤ l.length := by
  unfold ahead
  exact (List.takeWhile_sublist _).length_le
theorem ahead_lt : ∀ (l : List S50) (key : Int) (j : Nat) (h : j < l.length), j < ahead l key → l[j].f0 < key
  | [], _, j, h, _ => by simp at h
  | s :: r, key, j, h, hj => by
    unfold ahead at hj
    rw [List.takeWhile_cons] at hj
    by_cases hs : s.f0 < key
    · simp only [hs, decide_true, if_true, List.length_cons] at hj
      cases j with
      | zero => simpa using hs
      | succ j => simpa using ahead_lt r key j (by simpa using h) (by unfold ahead; omega)
    · simp [hs] at hj
theorem ahead_ge : ∀ (l : List S50) (key : Int), l.Pairwise (fun a b => a.f0 < b.f0) → ∀ (j : Nat) (h : j < l.length), ahead l key ≤ j → key ≤ l[j].f0
  | [], _, _, j, h, _ => by simp at h
  | s :: r, key, hp, j, h, hj => by
    obtain ⟨g1, g2⟩ := List.pairwise_cons.1 hp
    unfold ahead at hj
    rw [List.takeWhile_cons] at hj
    by_cases hs : s.f0 < key
    · simp only [hs, decide_true, if_true, List.length_cons] at hj
      cases j with
      | zero => omega
      | succ j => simpa using ahead_ge r key g2 j (by simpa using h) (by unfold ahead; omega)
    · cases j with
      | zero => simp; omega
      | succ j =>
        have := g1 (r[j]'(by simpa using h)) (List.getElem_mem _)
        simp
        omega
/-- What stands at a key. -/
def hasK (l : List S50) (key : Int) : Int := match l.find? (fun s => decide (s.f0 = key)) with | some s => s.f1 | none => 0
theorem hasK_cons (s : S50) (r : List S50) (key : Int) : hasK (s :: r) key = if s.f0 = key then s.f1 else hasK r key := by
  unfold hasK
  rw [List.find?_cons]
  by_cases h : s.f0 = key <;> simp [h]
theorem slotAt_ev (l : List S50) (key : Int) (hl : l.length ≤ 1048576) (hp : l.Pairwise (fun a b => a.f0 < b.f0)) :
    Evt fun k => impl_slotAt.f k l key = some ((ahead l key : Int), if h : ahead l key < l.length then (cmpI l[ahead l key].f0 key == 0) else false) := by
  have hc : ∀ s : S50, Evt fun k => impl_slotAt_1.f s.f0 s.f1 key = some (cmpI s.f0 key) := fun s => Evt.of fun _ => by simp [impl_slotAt_1.f, cmp_eq]
  have hb := bsSlot_l0 l hl key (fun s => cmpI s.f0 key) hc (ahead l key) (ahead_le l key) (fun j h hj => cmpI_neg.2 (ahead_lt l key j h hj)) (fun j h hj hn => by
    have := ahead_ge l key hp j h hj
    have := cmpI_neg.1 hn
    omega) l.length 0 l.length (by omega) (by omega) (ahead_le l key) (Nat.le_refl _)
  refine hb.map fun k hk => ?_
  have hk' : slices_BinarySearchFunc_impl_Slot_impl_Slot_int_impl_slotAt_1.f k l key () = some ((ahead l key : Int), if h : ahead l key < l.length then (cmpI l[ahead l key].f0 key == 0) else false) := hk
  rw [impl_slotAt.f, hk']
  rfl
/-- A key that stands in rising slots stands at its place. -/
theorem hasK_at (l : List S50) (key : Int) (hp : l.Pairwise (fun a b => a.f0 < b.f0)) (h : ahead l key < l.length) (he : l[ahead l key].f0 = key) : hasK l key = l[ahead l key].f1 := by
  have hf : l.find? (fun s => decide (s.f0 = key)) = some l[ahead l key] := by
    rw [List.find?_eq_some_iff_getElem]
    refine ⟨by simpa using he, ahead l key, h, rfl, fun j hj => ?_⟩
    have := ahead_lt l key j (by omega) hj
    simp
    omega
  simp [hasK, hf]
theorem hasK_none (l : List S50) (key : Int) (hp : l.Pairwise (fun a b => a.f0 < b.f0)) (h : ∀ h : ahead l key < l.length, l[ahead l key].f0 ≠ key) : hasK l key = 0 := by
  have hf : l.find? (fun s => decide (s.f0 = key)) = none := by
    rw [List.find?_eq_none]
    intro s hs
    obtain ⟨j, hj, rfl⟩ := List.getElem_of_mem hs
    simp only [decide_eq_true_eq]
    intro he
    by_cases h1 : j < ahead l key
    · have := ahead_lt l key j hj h1
      omega
    · have h2 : ahead l key < l.length := by omega
      have h3 := ahead_ge l key hp _ h2 (Nat.le_refl _)
      have h4 := h h2
      by_cases h5 : j = ahead l key
      · subst h5
        exact h4 he
      · have := List.pairwise_iff_getElem.1 hp (ahead l key) j h2 hj (by omega)
        omega
  simp [hasK, hf]
theorem impl_AtLeast_ev (room : Int) (l : List S50) (total cut key : Int) (hl : l.length ≤ 1048576) : Evt fun k => impl_AtLeast.f k room l total cut key = some (if heavyB room l total cut = true then hasK l key else -1) := by
  have e1 := impl_HeavyOk_ev room l total cut hl
  by_cases hb : heavyB room l total cut = true
  · have hs : slotsB none l = true := by
      unfold heavyB at hb
      simp only [Bool.and_eq_true] at hb
      exact hb.2.2.2.2
    obtain ⟨_, hp, _⟩ := slotsB_rise none l hs
    refine (e1.and (slotAt_ev l key hl hp)).map fun k ⟨h1, h2⟩ => ?_
    simp only [impl_AtLeast.f, h1, h2, hb, Option.bind_some, if_true]
    by_cases h : ahead l key < l.length
    · by_cases he : l[ahead l key].f0 = key
      · have hz : (cmpI l[ahead l key].f0 key == 0) = true := by simpa using cmpI_zero.2 he
        rw [dif_pos h, hz, if_pos rfl, if_pos (i0 _), if_pos (ilt h), rdSlot_at h, hasK_at l key hp h he]
      · have hz : (cmpI l[ahead l key].f0 key == 0) = false := by simpa using fun hx => he (cmpI_zero.1 hx)
        rw [dif_pos h, hz, if_neg (by simp), hasK_none l key hp (fun _ => he)]
    · rw [dif_neg h, if_neg (by simp), hasK_none l key hp (fun h' => absurd h' h)]
  · refine e1.map fun k h1 => ?_
    simp only [impl_AtLeast.f, h1, hb, Option.bind_some, Bool.false_eq_true, if_false]
theorem hasK_range (l : List S50) (key : Int) (h : slotsB none l = true) : 0 ≤ hasK l key ∧ hasK l key ≤ 1000000000 := by
  obtain ⟨_, _, h3⟩ := slotsB_rise none l h
  unfold hasK
  split
  · rename_i s hs
    have := (h3 s (List.mem_of_find?_eq_some hs)).2
    omega
  · omega


theorem heavyB_parts {room : Int} {l : List S50} {total cut : Int} (h : heavyB room l total cut = true) : (1 ≤ room ∧ room ≤ 16) ∧ (l.length : Int) ≤ room ∧ (0 ≤ total ∧ total ≤ 1000000000) ∧ (0 ≤ cut ∧ cut ≤ 1000000000) ∧ slotsB none l = true := by
  unfold heavyB at h
  simp only [Bool.and_eq_true, decide_eq_true_eq] at h
  exact ⟨h.1, h.2.1, h.2.2.1, h.2.2.2.1, h.2.2.2.2⟩

def atMost (room : Int) (l : List S50) (total cut key : Int) : Int := if heavyB room l total cut = true then hasK l key + cut else -1
theorem hasK_cut {room : Int} {l : List S50} {total cut : Int} (key : Int) (h : heavyB room l total cut = true) : wrap64 (hasK l key + cut) = hasK l key + cut := by
  obtain ⟨_, _, _, h4, h5⟩ := heavyB_parts h
  have := hasK_range l key h5
  exact wrap_in (by omega) (by omega)
theorem impl_AtMost_ev (room : Int) (l : List S50) (total cut key : Int) (hl : l.length ≤ 1048576) : Evt fun k => impl_AtMost.f k room l total cut key = some (atMost room l total cut key) := by
  refine ((impl_HeavyOk_ev room l total cut hl).and (impl_AtLeast_ev room l total cut key hl)).map fun k ⟨h1, h2⟩ => ?_
  simp only [impl_AtMost.f, h1, h2, Option.bind_some, atMost]
  split
  · rename_i hb
    rw [hasK_cut key hb]
  · rfl

theorem hasK_self (l : List S50) (hp : l.Pairwise (fun a b => a.f0 < b.f0)) (i : Nat) (hi : i < l.length) : hasK l l[i].f0 = l[i].f1 := by
  have hf : l.find? (fun s => decide (s.f0 = l[i].f0)) = some l[i] := by
    rw [List.find?_eq_some_iff_getElem]
    refine ⟨by simp, i, hi, rfl, fun j hj => ?_⟩
    have := List.pairwise_iff_getElem.1 hp j i (by omega) hi hj
    simp
    omega
  simp [hasK, hf]
/-- The keys whose count, and c together, are above a part of all. -/
def overL (l : List S50) (c part total : Int) : List Int := (l.filter fun s => decide ((s.f1 + c) * part > total)).map fun s => s.f0
theorem overL_cons (s : S50) (l : List S50) (c part total : Int) : overL (s :: l) c part total = (if (s.f1 + c) * part > total then [s.f0] else []) ++ overL l c part total := by
  unfold overL
  rw [List.filter_cons]
  by_cases h : (s.f1 + c) * part > total <;> simp [h]
theorem overL_le (l : List S50) (c part total : Int) : (overL l c part total).length ≤ l.length := by
  unfold overL
  rw [List.length_map]
  exact List.length_filter_le _ _
theorem mul_small {x p : Int} (hx : 0 ≤ x ∧ x ≤ 2000000000) (hp : 1 ≤ p ∧ p ≤ 1000) : 0 ≤ x * p ∧ x * p ≤ 2000000000000 := by
  refine ⟨Int.mul_nonneg hx.1 (by omega), ?_⟩
  calc x * p ≤ 2000000000 * p := Int.mul_le_mul_of_nonneg_right hx.2 (by omega)
    _ ≤ 2000000000 * 1000 := Int.mul_le_mul_of_nonneg_left hp.2 (by omega)
    _ = 2000000000000 := by rfl

def overHeavyOver (room : Int) (l : List S50) (total cut part : Int) : List Int := if heavyB room l total cut = true ∧ (1 ≤ part ∧ part ≤ 1000) then overL l cut part total else []
theorem spec_HeavyOver_l0 (room total cut part : Int) (l : List S50) (hb : heavyB room l total cut = true) (hp : 1 ≤ part ∧ part ≤ 1000) : ∀ (d i : Nat) (out : List Int), i + d = l.length → out.length ≤ i →
    Evt fun k => spec_HeavyOver.l0 k part out (i : Int) room l total cut = some (out ++ overL (l.drop i) cut part total) := by
  obtain ⟨q1, q2, q3, q4, q5⟩ := heavyB_parts hb
  obtain ⟨_, q6, q7⟩ := slotsB_rise none l q5
  intro d
  induction d with
  | zero =>
    intro i out h ho
    refine Evt.step0 fun k => ?_
    rw [spec_HeavyOver.l0, if_neg (by omega), List.drop_of_length_le (by omega)]
    simp [overL]
  | succ d ih =>
    intro i out h ho
    have hi : i < l.length := by omega
    have hr := (q7 _ (List.getElem_mem hi)).2
    have hs := mul_small (x := l[i].f1 + cut) (by omega) hp
    have hw0 : wrap64 (l[i].f1 + cut) = l[i].f1 + cut := wrap_in (by omega) (by omega)
    have hw : wrap64 ((l[i].f1 + cut) * part) = (l[i].f1 + cut) * part := wrap_in (by omega) (by omega)
    by_cases hgt : (l[i].f1 + cut) * part > total
    · refine (ih (i + 1) (out ++ [l[i].f0]) (by omega) (by simp; omega)).step fun k hk => ?_
      rw [spec_HeavyOver.l0, if_pos (ilt hi), if_pos (i0 i), rdSlot_at hi, hw0, hw, if_pos hgt, if_pos (by omega), wrap_nat hi (by omega), hk, drop_at hi, overL_cons, if_pos hgt]
      simp
    · refine (ih (i + 1) out (by omega) (by omega)).step fun k hk => ?_
      rw [spec_HeavyOver.l0, if_pos (ilt hi), if_pos (i0 i), rdSlot_at hi, hw0, hw, if_neg hgt, wrap_nat hi (by omega), hk, drop_at hi, overL_cons, if_neg hgt]
      simp
theorem impl_HeavyOver_l0 (room total cut part : Int) (l : List S50) (hb : heavyB room l total cut = true) (hp : 1 ≤ part ∧ part ≤ 1000) : ∀ (d i : Nat) (out : List Int), i + d = l.length → out.length ≤ i →
    Evt fun k => impl_over_impl_AtMost.l0 k part out l (l.length : Int) (i : Int) room l total cut = some (out ++ overL (l.drop i) cut part total) := by
  obtain ⟨q1, q2, q3, q4, q5⟩ := heavyB_parts hb
  obtain ⟨_, q6, q7⟩ := slotsB_rise none l q5
  intro d
  induction d with
  | zero =>
    intro i out h ho
    refine Evt.step0 fun k => ?_
    rw [impl_over_impl_AtMost.l0, if_neg (by omega), List.drop_of_length_le (by omega)]
    simp [overL]
  | succ d ih =>
    intro i out h ho
    have hi : i < l.length := by omega
    have hr := (q7 _ (List.getElem_mem hi)).2
    have hs := mul_small (x := l[i].f1 + cut) (by omega) hp
    have hw : wrap64 ((l[i].f1 + cut) * part) = (l[i].f1 + cut) * part := wrap_in (by omega) (by omega)
    have hof : Evt fun k => impl_AtMost.f k room l total cut l[i].f0 = some (l[i].f1 + cut) := (impl_AtMost_ev room l total cut l[i].f0 (by omega)).map fun k h => by
      rw [h]
      simp only [atMost, hb, if_true, hasK_self l q6 i hi]
    by_cases hgt : (l[i].f1 + cut) * part > total
    · refine ((ih (i + 1) (out ++ [l[i].f0]) (by omega) (by simp; omega)).and hof).step fun k ⟨hk, ho⟩ => ?_
      rw [impl_over_impl_AtMost.l0, if_pos (ilt hi), if_pos (i0 i), if_pos (ilt hi), rdSlot_at hi, ho]
      simp only [Option.bind_some]
      rw [hw, if_pos hgt, if_pos (by omega), wrap_nat hi (by omega), hk, drop_at hi, overL_cons, if_pos hgt]
      simp
    · refine ((ih (i + 1) out (by omega) (by omega)).and hof).step fun k ⟨hk, ho⟩ => ?_
      rw [impl_over_impl_AtMost.l0, if_pos (ilt hi), if_pos (i0 i), if_pos (ilt hi), rdSlot_at hi, ho]
      simp only [Option.bind_some]
      rw [hw, if_neg hgt, wrap_nat hi (by omega), hk, drop_at hi, overL_cons, if_neg hgt]
      simp
theorem spec_HeavyOver_ev (room : Int) (l : List S50) (total cut part : Int) (hl : l.length ≤ 1048576) : Evt fun k => spec_HeavyOver.f k room l total cut part = some (overHeavyOver room l total cut part) := by
  have e1 := spec_HeavyOk_ev room l total cut hl
  unfold overHeavyOver
  by_cases hb : heavyB room l total cut = true
  · by_cases hp : 1 ≤ part ∧ part ≤ 1000
    · have e2 : Evt fun k => spec_HeavyOver.j0 k part [] false room l total cut = some (overL l cut part total) := (spec_HeavyOver_l0 room total cut part l hb hp l.length 0 [] (by omega) (by simp)).step fun k hk => by
        rw [spec_HeavyOver.j0, if_neg (by simp)]
        simpa using hk
      refine (e1.and e2).map fun k ⟨h1, h2⟩ => ?_
      simp only [spec_HeavyOver.f, h1, h2, l01In_eq, hb, hp, Option.bind_some, and_self, if_true, decide_true, Bool.not_true]
    · have e2 : Evt fun k => spec_HeavyOver.j0 k part [] true room l total cut = some [] := Evt.step0 fun k => by rw [spec_HeavyOver.j0, if_pos rfl]
      refine (e1.and e2).map fun k ⟨h1, h2⟩ => ?_
      simp only [spec_HeavyOver.f, h1, h2, l01In_eq, hb, hp, Option.bind_some, and_false, if_false, if_true, decide_false, Bool.not_false]
  · have e2 : Evt fun k => spec_HeavyOver.j0 k part [] true room l total cut = some [] := Evt.step0 fun k => by rw [spec_HeavyOver.j0, if_pos rfl]
    refine (e1.and e2).map fun k ⟨h1, h2⟩ => ?_
    simp only [spec_HeavyOver.f, h1, h2, hb, Option.bind_some, Bool.false_eq_true, false_and, if_false]
theorem impl_HeavyOver_ev (room : Int) (l : List S50) (total cut part : Int) (hl : l.length ≤ 1048576) : Evt fun k => impl_HeavyOver.f k room l total cut part = some (overHeavyOver room l total cut part) := by
  have e1 := impl_HeavyOk_ev room l total cut hl
  unfold overHeavyOver
  by_cases hb : heavyB room l total cut = true
  · by_cases hp : 1 ≤ part ∧ part ≤ 1000
    · have e2 : Evt fun k => impl_over_impl_AtMost.j0 k part false room l total cut = some (overL l cut part total) := (impl_HeavyOver_l0 room total cut part l hb hp l.length 0 [] (by omega) (by simp)).step fun k hk => by
        rw [impl_over_impl_AtMost.j0, if_neg (by simp)]
        simpa using hk
      refine (e1.and e2).map fun k ⟨h1, h2⟩ => ?_
      simp only [impl_HeavyOver.f, impl_over_impl_AtMost.f, h1, h2, within_eq, hb, hp, Option.bind_some, and_self, if_true, decide_true, Bool.not_true]
    · have e2 : Evt fun k => impl_over_impl_AtMost.j0 k part true room l total cut = some [] := Evt.step0 fun k => by rw [impl_over_impl_AtMost.j0, if_pos rfl]
      refine (e1.and e2).map fun k ⟨h1, h2⟩ => ?_
      simp only [impl_HeavyOver.f, impl_over_impl_AtMost.f, h1, h2, within_eq, hb, hp, Option.bind_some, and_false, if_false, if_true, decide_false, Bool.not_false]
  · have e2 : Evt fun k => impl_over_impl_AtMost.j0 k part true room l total cut = some [] := Evt.step0 fun k => by rw [impl_over_impl_AtMost.j0, if_pos rfl]
    refine (e1.and e2).map fun k ⟨h1, h2⟩ => ?_
    simp only [impl_HeavyOver.f, impl_over_impl_AtMost.f, h1, h2, hb, Option.bind_some, Bool.false_eq_true, false_and, if_false]
theorem overHeavyOver_le (room : Int) (l : List S50) (total cut part : Int) (hl : l.length ≤ 1048576) : (overHeavyOver room l total cut part).length ≤ 1048576 := by
  unfold overHeavyOver
  split
  · exact Nat.le_trans (overL_le _ _ _ _) hl
  · simp

theorem eqIntS_l0 (l : List Int) (hl : l.length ≤ 9223372036854775807) : ∀ (d i : Nat), i + d = l.length → Evt fun k => laws_eqIntS.l0 k l l (i : Int) = some true := by
  intro d
  induction d with
  | zero =>
    intro i h
    refine Evt.step0 fun k => ?_
    rw [laws_eqIntS.l0, if_neg (by omega)]
  | succ d ih =>
    intro i h
    have hi : i < l.length := by omega
    refine (ih (i + 1) (by omega)).step fun k hk => ?_
    rw [laws_eqIntS.l0, if_pos (ilt hi), if_pos (i0 i), if_pos (ilt hi), if_pos rfl, wrap_nat hi hl]
    exact hk
theorem eqIntS_ev (l : List Int) (hl : l.length ≤ 9223372036854775807) : Evt fun k => laws_eqIntS.f k l l = some true :=
  (eqIntS_l0 l hl l.length 0 (by omega)).map fun k hk => by rw [laws_eqIntS.f, if_pos rfl]; exact hk

theorem markIntS_l0 (a : Int) (y : List Int) (ha : 0 ≤ a) (hl : a + y.length ≤ 9223372036854775807) (hy : ∀ (i : Nat) (h : i < y.length), y[i] = a + (i : Int)) : ∀ (d i : Nat) (x : List Int), i + d = y.length → x.length = y.length → x.take i = y.take i →
    Evt fun k => laws_markIntS.l0 k x (a + i) (i : Int) = some (a + y.length, y) := by
  intro d
  induction d with
  | zero =>
    intro i x h hx ht
    refine Evt.step0 fun k => ?_
    rw [laws_markIntS.l0, if_neg (by omega), fill_end hx (by omega) ht]
    simp
    omega
  | succ d ih =>
    intro i x h hx ht
    have hi : i < y.length := by omega
    obtain ⟨h1, h2⟩ := fill_step (v := a + (i : Int)) hx hi ht (hy i hi)
    refine (ih (i + 1) (x.set i (a + (i : Int))) (by omega) h1 h2).step fun k hk => ?_
    rw [laws_markIntS.l0, if_pos (by omega), if_pos (i0 i), wrap_nat hi (by omega), wrap_in (by omega) (by omega)]
    simp only [Int.toNat_natCast]
    rw [show a + (i : Int) + 1 = a + ((i + 1 : Nat) : Int) by omega]
    exact hk
theorem heldIntS_l0 (a : Int) (y : List Int) (ha : 0 ≤ a) (hl : a + y.length ≤ 9223372036854775807) (hy : ∀ (i : Nat) (h : i < y.length), y[i] = a + (i : Int)) : ∀ (d i : Nat), i + d = y.length →
    Evt fun k => laws_heldIntS.l0 k y (a + i) (i : Int) = some (a + y.length) := by
  intro d
  induction d with
  | zero =>
    intro i h
    refine Evt.step0 fun k => ?_
    rw [laws_heldIntS.l0, if_neg (by omega)]
    simp
    omega
  | succ d ih =>
    intro i h
    have hi : i < y.length := by omega
    refine (ih (i + 1) (by omega)).step fun k hk => ?_
    rw [laws_heldIntS.l0, if_pos (ilt hi), if_pos (i0 i), rd_at hi, if_pos (hy i hi), wrap_nat hi (by omega), wrap_in (by omega) (by omega)]
    rw [show a + (i : Int) + 1 = a + ((i + 1 : Nat) : Int) by omega]
    exact hk
theorem markIntS_ev (a : Int) (l : List Int) (ha : 0 ≤ a) (hl : a + l.length ≤ 9223372036854775807) :
    ∃ y : List Int, (Evt fun k => laws_markIntS.f k l a = some (a + l.length, y)) ∧ (Evt fun k => laws_heldIntS.f k y a = some (a + l.length)) := by
  have hy : ∀ (i : Nat) (h : i < ((List.range l.length).map fun (j : Nat) => a + (j : Int)).length), ((List.range l.length).map fun (j : Nat) => a + (j : Int))[i] = a + (i : Int) := fun i h => by simp
  have hn : ((List.range l.length).map fun (j : Nat) => a + (j : Int)).length = l.length := by simp
  refine ⟨(List.range l.length).map fun (j : Nat) => a + (j : Int), ?_, ?_⟩
  · have := markIntS_l0 a _ ha (by rw [hn]; exact hl) hy l.length 0 l (by rw [hn]; omega) hn.symm (by simp)
    simpa [laws_markIntS.f] using this
  · have := heldIntS_l0 a _ ha (by rw [hn]; exact hl) hy l.length 0 (by rw [hn]; omega)
    simpa [laws_heldIntS.f] using this

def mkSlot (b : Int) : S50 := ⟨b, b + 1⟩
theorem markSlotS_l0 (a : Int) (y : List S50) (ha : 0 ≤ a) (hl : a + 2 * y.length ≤ 9223372036854775807) (hy : ∀ (i : Nat) (h : i < y.length), y[i] = mkSlot (a + 2 * (i : Int))) :
    ∀ (d i : Nat) (x : List S50) (b : Int), i + d = y.length → b = a + 2 * (i : Int) → x.length = y.length → x.take i = y.take i →
    Evt fun k => laws_markSlotS.l0 k x b (i : Int) = some (a + 2 * y.length, y) := by
  intro d
  induction d with
  | zero =>
    intro i x b h hb hx ht
    refine Evt.step0 fun k => ?_
    rw [laws_markSlotS.l0, if_neg (by omega), fill_end hx (by omega) ht]
    simp
    omega
  | succ d ih =>
    intro i x b h hb hx ht
    have hi : i < y.length := by omega
    have hxi : i < x.length := by omega
    obtain ⟨h1, h2⟩ := fill_step (v := mkSlot b) hx hi ht (by rw [hy i hi, hb])
    have e1 : wrap64 (b + 1) = b + 1 := wrap_in (by omega) (by omega)
    have e2 : wrap64 (b + 1 + 1) = b + 1 + 1 := wrap_in (by omega) (by omega)
    refine (ih (i + 1) (x.set i (mkSlot b)) (b + 1 + 1) (by omega) (by omega) h1 h2).step fun k hk => ?_
    rw [laws_markSlotS.l0, if_pos (ilt hxi), if_pos (i0 i), wrap_nat hxi (by omega)]
    simp only [Option.bind_some, Int.toNat_natCast, List.set_set, rdSlot_set hxi, e1, e2]
    exact hk
theorem markxSlotS_ev (a : Int) (l : List S50) (ha : 0 ≤ a) (hl : a + 2 * l.length ≤ 9223372036854775807) :
    ∃ y : List S50, y.length = l.length ∧ Evt fun k => laws_markSlotS.f k l a = some (a + 2 * l.length, y) := by
  have hy : ∀ (i : Nat) (h : i < ((List.range l.length).map fun (j : Nat) => mkSlot (a + 2 * (j : Int))).length), ((List.range l.length).map fun (j : Nat) => mkSlot (a + 2 * (j : Int)))[i] = mkSlot (a + 2 * (i : Int)) := fun i h => by simp
  have hn : ((List.range l.length).map fun (j : Nat) => mkSlot (a + 2 * (j : Int))).length = l.length := by simp
  refine ⟨(List.range l.length).map fun (j : Nat) => mkSlot (a + 2 * (j : Int)), hn, ?_⟩
  have := markSlotS_l0 a _ ha (by rw [hn]; exact hl) hy l.length 0 l a (by rw [hn]; omega) (by omega) hn.symm (by simp)
  simpa [laws_markSlotS.f] using this

theorem FnExactHeavyOver (x0 : Int × List S64 × Int × Int) (part : Int) (w : I64 x0.1 ∧ AllOf (fun x : S64 => I64 x.f0 ∧ I64 x.f1) x0.2.1 ∧ I64 x0.2.2.1 ∧ I64 x0.2.2.2) (_ : I64 part) :
    ∃ k, laws_FnExactHeavyOver.f k x0.1 x0.2.1 x0.2.2.1 x0.2.2.2 part = some true := by
  obtain ⟨room, l, total, cut⟩ := x0
  have hsz := szHeavy_eq room l total cut w.2.1.1
  by_cases hbig : 1048576 - (l.length : Int) < 0
  · exact ⟨0, by simp only [laws_FnExactHeavyOver.f, hsz, if_pos hbig, Option.bind_some]; rfl⟩
  have hle : l.length ≤ 1048576 := by omega
  have hle' : (l.map cvSlot).length ≤ 1048576 := by simpa using hle
  have t0 := toHeavy_ev room l total cut hle
  have sp := spec_HeavyOver_ev room (l.map cvSlot) total cut part hle'
  have im := impl_HeavyOver_ev room (l.map cvSlot) total cut part hle'
  have hg := overHeavyOver_le room (l.map cvSlot) total cut part hle'
  generalize overHeavyOver room (l.map cvSlot) total cut part = g at sp im hg
  have eg := eqIntS_ev g (by omega)
  have e0 := eqHeavy_ev room (l.map cvSlot) total cut (by omega)
  obtain ⟨y0, _, m0⟩ := markxSlotS_ev 1 (l.map cvSlot) (by omega) (by omega)
  obtain ⟨yg, mg, hd⟩ := markIntS_ev 1 g (by omega) (by omega)
  have mh : Evt fun k => laws_markHeavy.f k room (l.map cvSlot) total cut 1 = some (1 + 2 * ((l.map cvSlot).length : Int), y0) := m0.map fun k h => by simp only [laws_markHeavy.f, h, Option.bind_some]
  have hng : ¬ (1 + (g.length : Int) < 0) := by omega
  have hn2 : ¬ (1 + 2 * ((l.map cvSlot).length : Int) < 0) := by omega
  have j0 : Evt fun k => laws_FnExactHeavyOver.j0 k part g g false room l total cut = some true := (mg.and (hd.and (t0.and (im.and eg)))).step fun k ⟨a1, a2, a3, a4, a5⟩ => by
    simp only [laws_FnExactHeavyOver.j0, a1, a2, a3, a4, a5, Option.bind_some, if_neg hng, if_true, Bool.false_eq_true, if_false]
  obtain ⟨k, a1, a2, a3, a4, a5, a6, a7⟩ := (t0.and (sp.and (im.and (eg.and (e0.and (mh.and j0)))))).ex
  refine ⟨k, ?_⟩
  simp only [laws_FnExactHeavyOver.f, hsz, if_neg hbig, if_neg hn2, Option.bind_some, a1, a2, a3, a4, a5, a6, a7, if_true, Bool.not_true]
end Go.Proofs.Ythacciliemgilaa.Pure

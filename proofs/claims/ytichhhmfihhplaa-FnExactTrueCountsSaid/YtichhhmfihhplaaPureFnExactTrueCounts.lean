/- FnExactTrueCounts: the program's TrueCounts counts a key as the reference does, and leaves the keys alone: for all keys and lists. -/
import Derived.Test.YtichhhmfihhplaaPFnExactTrueCountsx1
import Derived.Test.YtichhhmfihhplaaKit
namespace Go.Proofs.Ytichhhmfihhplaa.Pure
open Go.RowKit Go.Proofs.Ytichhhmfihhplaa.PFnExactTrueCounts Go.Proofs.YtichhhmfihhplaaW.PrintWords Go.Proofs.YtichhhmfihhplaaW.PrintLast Go.Proofs.Ytichhhmfihhplaa.Kit
set_option linter.unusedVariables false
set_option linter.unusedSimpArgs false

/-! ### lists of ints: as they are laid, held against each other, marked and held -/
theorem toIntS_l0 (l : List Int) (hl : l.length ≤ 9223372036854775807) : ∀ (d i : Nat) (x : List Int), i + d = l.length → x.length = l.length → x.take i = l.take i →
    Evt fun k => laws_toIntS.l0 k l x (i : Int) = some l := by
  intro d
  induction d with
  | zero =>
    intro i x h hx ht
    refine Evt.step0 fun k => ?_
    rw [laws_toIntS.l0, if_neg (by omega), fill_end hx (by omega) ht]
  | succ d ih =>
    intro i x h hx ht
    have hi : i < l.length := by omega
    obtain ⟨h1, h2⟩ := fill_step (v := l[i]) hx hi ht rfl
    refine (ih (i + 1) (x.set i l[i]) (by omega) h1 h2).step fun k hk => ?_
    rw [laws_toIntS.l0, if_pos (ilt hi), if_pos (i0 i), if_pos (by omega), rd_at hi, wrap_nat hi hl]
    exact hk
theorem toIntS_ev (l : List Int) (hl : l.length ≤ 1048576) : Evt fun k => laws_toIntS.f k l = some l := by
  refine (toIntS_l0 l (by omega) l.length 0 (List.replicate l.length 0) (by omega) (by simp) (by simp)).map fun k hk => ?_
  rw [laws_toIntS.f, if_pos (by omega), if_pos (by omega)]
  exact hk

theorem eqIntS_l0 (l : List Int) (hl : l.length ≤ 9223372036854775807) : ∀ (d i : Nat), i + d = l.length → Evt fun k => laws_eqIntS.l0 k l l (i : Int) = some true := by
  intro d
  induction d with
  | zero =>
    intro i h
    refine Evt.step0 fun k => ?_
    rw [laws_eqIntS.l0, if_neg (by omega)]
  | succ d ih =>
    intro i h
    have hi : i < l.length := by omega
    refine (ih (i + 1) (by omega)).step fun k hk => ?_
    rw [laws_eqIntS.l0, if_pos (ilt hi), if_pos (i0 i), if_pos (ilt hi), if_pos rfl, wrap_nat hi hl]
    exact hk
theorem eqIntS_ev (l : List Int) (hl : l.length ≤ 9223372036854775807) : Evt fun k => laws_eqIntS.f k l l = some true :=
  (eqIntS_l0 l hl l.length 0 (by omega)).map fun k hk => by rw [laws_eqIntS.f, if_pos rfl]; exact hk

theorem spec_TrueCounts_l0 (l : List Int) (x : Int) (hl : l.length ≤ 1048576) : ∀ (d i : Nat) (n : Int), i + d = l.length → 0 ≤ n → n ≤ i →
    Evt fun k => spec_TrueCounts.l0 k l x n (i : Int) = some (n + ((l.drop i).count x : Nat)) := by
  intro d
  induction d with
  | zero =>
    intro i n h h0 h1
    refine Evt.step0 fun k => ?_
    rw [spec_TrueCounts.l0, if_neg (by omega), List.drop_of_length_le (by omega)]
    simp
  | succ d ih =>
    intro i n h h0 h1
    have hi : i < l.length := by omega
    by_cases e : l[i] = x
    · refine (ih (i + 1) (n + 1) (by omega) (by omega) (by omega)).step fun k hk => ?_
      rw [spec_TrueCounts.l0, if_pos (ilt hi), if_pos (i0 i), rd_at hi, if_pos e, wrap_nat hi (by omega), wrap_in (by omega) (by omega), hk, drop_at hi, List.count_cons, e]
      simp
      omega
    · refine (ih (i + 1) n (by omega) (by omega) (by omega)).step fun k hk => ?_
      rw [spec_TrueCounts.l0, if_pos (ilt hi), if_pos (i0 i), rd_at hi, if_neg e, wrap_nat hi (by omega), hk, drop_at hi, List.count_cons]
      simp [e]
theorem impl_TrueCounts_l0 (l : List Int) (x : Int) (hl : l.length ≤ 1048576) : ∀ (d i : Nat) (n : Int), i + d = l.length → 0 ≤ n → n ≤ i →
    Evt fun k => impl_TrueCounts.l0 k x n l (l.length : Int) (i : Int) = some (n + ((l.drop i).count x : Nat)) := by
  intro d
  induction d with
  | zero =>
    intro i n h h0 h1
    refine Evt.step0 fun k => ?_
    rw [impl_TrueCounts.l0, if_neg (by omega), List.drop_of_length_le (by omega)]
    simp
  | succ d ih =>
    intro i n h h0 h1
    have hi : i < l.length := by omega
    by_cases e : l[i] = x
    · refine (ih (i + 1) (n + 1) (by omega) (by omega) (by omega)).step fun k hk => ?_
      rw [impl_TrueCounts.l0, if_pos (ilt hi), if_pos (i0 i), if_pos (ilt hi), rd_at hi, if_pos e, wrap_nat hi (by omega), wrap_in (by omega) (by omega), hk, drop_at hi, List.count_cons, e]
      simp
      omega
    · refine (ih (i + 1) n (by omega) (by omega) (by omega)).step fun k hk => ?_
      rw [impl_TrueCounts.l0, if_pos (ilt hi), if_pos (i0 i), if_pos (ilt hi), rd_at hi, if_neg e, wrap_nat hi (by omega), hk, drop_at hi, List.count_cons]
      simp [e]

theorem FnExactTrueCounts (l : List Int) (a : Int) (_ : AllOf I64 l) (_ : I64 a) : ∃ k, laws_FnExactTrueCounts.f k l a = some true := by
  by_cases hbig : (l.length : Int) > 1048576
  · exact ⟨0, by rw [laws_FnExactTrueCounts.f, if_pos hbig]⟩
  have hle : l.length ≤ 1048576 := by omega
  obtain ⟨k, h1, h2, h3, h4⟩ := ((toIntS_ev l hle).and ((spec_TrueCounts_l0 l a hle l.length 0 0 (by omega) (by omega) (by omega)).and
    ((impl_TrueCounts_l0 l a hle l.length 0 0 (by omega) (by omega) (by omega)).and (eqIntS_ev l (by omega))))).ex
  refine ⟨k, ?_⟩
  have h2' : spec_TrueCounts.f k l a = some ((0 : Int) + (((l.drop 0).count a : Nat) : Int)) := h2
  have h3' : impl_TrueCounts.f k l a = some ((0 : Int) + (((l.drop 0).count a : Nat) : Int)) := h3
  rw [laws_FnExactTrueCounts.f, if_neg hbig]
  simp only [h1, h2', h3', h4, Option.bind_some, if_true]
end Go.Proofs.Ytichhhmfihhplaa.Pure

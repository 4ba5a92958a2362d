/- FnExactLongestSession: the program's LongestSession names the place that the reference names, and leaves the sessions alone: for all lists. -/
import Derived.Test.YtichhhmfihhplaaPFnExactLongestSessionx2
import Derived.Test.YtichhhmfihhplaaKit
namespace Go.Proofs.Ytichhhmfihhplaa.Pure
open Go.RowKit Go.Proofs.Ytichhhmfihhplaa.PFnExactLongestSession Go.Proofs.YtichhhmfihhplaaW.PrintWords Go.Proofs.YtichhhmfihhplaaW.PrintLast Go.Proofs.Ytichhhmfihhplaa.Kit
set_option linter.unusedVariables false
set_option linter.unusedSimpArgs false

theorem rdSession_at {xs : List S66} {i : Nat} (h : i < xs.length) : rd_T66 xs (i : Int) = xs[i] := by
  simp [rd_T66, List.getD_eq_getElem?_getD, List.getElem?_eq_getElem h]
theorem rdSession_set {xs : List S66} {i : Nat} (h : i < xs.length) (v : S66) : rd_T66 (xs.set i v) (i : Int) = v := by
  rw [rdSession_at (by simpa using h)]
  simp

theorem rdLSession_at {xs : List S68} {i : Nat} (h : i < xs.length) : rd_T68 xs (i : Int) = xs[i] := by
  simp [rd_T68, List.getD_eq_getElem?_getD, List.getElem?_eq_getElem h]
def cvSession (x : S68) : S66 := ⟨x.f0, x.f1, x.f2, x.f3, x.f4⟩
theorem toSessionS_l0 (l : List S68) (hl : l.length ≤ 9223372036854775807) : ∀ (d i : Nat) (x : List S66), i + d = l.length → x.length = (l.map cvSession).length → x.take i = (l.map cvSession).take i →
    Evt fun k => laws_toSessionS.l0 k l x (i : Int) = some (l.map cvSession) := by
  intro d
  induction d with
  | zero =>
    intro i x h hx ht
    refine Evt.step0 fun k => ?_
    rw [laws_toSessionS.l0, if_neg (by omega), fill_end hx (by simp; omega) ht]
  | succ d ih =>
    intro i x h hx ht
    have hi : i < l.length := by omega
    obtain ⟨h1, h2⟩ := fill_step (v := cvSession l[i]) hx (by simpa using hi) ht (by simp)
    have hxl : (i : Int) < (x.length : Int) := by rw [hx, List.length_map]; omega
    refine (ih (i + 1) (x.set i (cvSession l[i])) (by omega) h1 h2).step fun k hk => ?_
    rw [laws_toSessionS.l0, if_pos (ilt hi), if_pos (i0 i), rdLSession_at hi]
    simp only [laws_toSession.f, Option.bind_some, Int.toNat_natCast]
    rw [if_pos hxl, wrap_nat hi hl]
    exact hk
theorem toSessionS_ev (l : List S68) (hl : l.length ≤ 1048576) : Evt fun k => laws_toSessionS.f k l = some (l.map cvSession) := by
  refine (toSessionS_l0 l (by omega) l.length 0 (List.replicate l.length z66) (by omega) (by simp) (by simp)).map fun k hk => ?_
  rw [laws_toSessionS.f, if_pos (by omega), if_pos (by omega)]
  exact hk

theorem eqSession_refl (x : S66) : laws_eqSession.f x.f0 x.f1 x.f2 x.f3 x.f4 x.f0 x.f1 x.f2 x.f3 x.f4 = some true := by simp [laws_eqSession.f]
theorem eqSessionS_l0 (l : List S66) (hl : l.length ≤ 9223372036854775807) : ∀ (d i : Nat), i + d = l.length → Evt fun k => laws_eqSessionS.l0 k l l (i : Int) = some true := by
  intro d
  induction d with
  | zero =>
    intro i h
    refine Evt.step0 fun k => ?_
    rw [laws_eqSessionS.l0, if_neg (by omega)]
  | succ d ih =>
    intro i h
    have hi : i < l.length := by omega
    refine (ih (i + 1) (by omega)).step fun k hk => ?_
    rw [laws_eqSessionS.l0, if_pos (ilt hi), if_pos (i0 i), if_pos (ilt hi), eqSession_refl]
    simp only [Option.bind_some, if_true]
    rw [wrap_nat hi hl]
    exact hk
theorem eqSessionS_ev (l : List S66) (hl : l.length ≤ 9223372036854775807) : Evt fun k => laws_eqSessionS.f k l l = some true :=
  (eqSessionS_l0 l hl l.length 0 (by omega)).map fun k hk => by rw [laws_eqSessionS.f, if_pos rfl]; exact hk

theorem l01In_eq (a b c : Int) : spec_l01In.f a b c = some (decide (b ≤ a ∧ a ≤ c)) := by
  unfold spec_l01In.f
  by_cases h : b ≤ a <;> simp [h]
theorem within_eq (a b c : Int) : impl_within.f a b c = some (decide (b ≤ a ∧ a ≤ c)) := by
  unfold impl_within.f
  by_cases h : b ≤ a <;> simp [h]

def okS (s : S66) : Bool := decide ((0 ≤ s.f0 ∧ s.f0 ≤ 65535) ∧ (0 ≤ s.f1 ∧ s.f1 ≤ 1000000) ∧ (0 ≤ s.f2 ∧ s.f2 ≤ 1000000) ∧ s.f1 ≤ s.f2 ∧ (1 ≤ s.f3 ∧ s.f3 ≤ 1000000000) ∧ (-1000000000 ≤ s.f4 ∧ s.f4 ≤ 1000000000))
theorem spec_SessionOk_eq (s : S66) : spec_SessionOk.f s.f0 s.f1 s.f2 s.f3 s.f4 = some (okS s) := by
  unfold spec_SessionOk.f okS
  simp only [l01In_eq, Option.bind_some]
  by_cases h0 : 0 ≤ s.f0 ∧ s.f0 ≤ 65535 <;> by_cases h2 : 0 ≤ s.f2 ∧ s.f2 ≤ 1000000 <;> by_cases h1 : 0 ≤ s.f1 ∧ s.f1 ≤ s.f2 <;> by_cases h3 : 1 ≤ s.f3 ∧ s.f3 ≤ 1000000000 <;> simp [h0, h1, h2, h3] <;> omega
theorem impl_SessionOk_eq (s : S66) : impl_SessionOk.f s.f0 s.f1 s.f2 s.f3 s.f4 = some (okS s) := by
  unfold impl_SessionOk.f okS impl_isKey.f impl_isTime.f impl_isSum.f
  simp only [within_eq, Option.bind_some]
  by_cases h0 : 0 ≤ s.f0 ∧ s.f0 ≤ 65535 <;> by_cases h2 : 0 ≤ s.f2 ∧ s.f2 ≤ 1000000 <;> by_cases h1 : 0 ≤ s.f1 ∧ s.f1 ≤ 1000000 <;> by_cases h4 : s.f1 ≤ s.f2 <;> by_cases h3 : 1 ≤ s.f3 ∧ s.f3 ≤ 1000000000 <;> simp [h0, h1, h2, h3, h4]

/-- What both come to, from place i on. -/
def longest (l : List S66) : Nat → Nat → Int → Int
  | 0, _, best => best
  | d + 1, i, best => match l[i]? with
    | none => best
    | some s => if okS s = true then (if best < 0 ∨ s.f2 - s.f1 > (rd_T66 l best).f2 - (rd_T66 l best).f1 then longest l d (i + 1) i else longest l d (i + 1) best) else -1

theorem okS_span {s : S66} (h : okS s = true) : wrap64 (s.f2 - s.f1) = s.f2 - s.f1 := by
  simp [okS] at h
  exact wrap_in (by omega) (by omega)

theorem spec_LongestSession_l0 (l : List S66) (hl : l.length ≤ 200) : ∀ (d i : Nat) (best : Int), i + d = l.length → best < i → -1 ≤ best → (0 ≤ best → okS (rd_T66 l best) = true) →
    Evt fun k => spec_LongestSession.l0 k l best (i : Int) = some (longest l d i best) := by
  intro d
  induction d with
  | zero =>
    intro i best h hb hb1 hok
    refine Evt.step0 fun k => ?_
    rw [spec_LongestSession.l0, if_neg (by omega)]
    rfl
  | succ d ih =>
    intro i best h hb hb1 hok
    have hi : i < l.length := by omega
    have hg : l[i]? = some l[i] := List.getElem?_eq_getElem hi
    by_cases hs : okS l[i] = true
    · by_cases hneg : best < 0
      · refine (ih (i + 1) i (by omega) (by omega) (by omega) (fun _ => by rw [rdSession_at hi]; exact hs)).step fun k hk => ?_
        rw [spec_LongestSession.l0, if_pos (ilt hi), if_pos (i0 i), rdSession_at hi, spec_SessionOk_eq]
        simp only [Option.bind_some]
        rw [if_pos hs, if_pos hneg, wrap_nat hi (by omega), hk]
        simp only [longest, hg, hs, if_true, hneg, true_or]
      · have hbl : (best : Int) < (l.length : Int) := by omega
        by_cases hgt : l[i].f2 - l[i].f1 > (rd_T66 l best).f2 - (rd_T66 l best).f1
        · refine (ih (i + 1) i (by omega) (by omega) (by omega) (fun _ => by rw [rdSession_at hi]; exact hs)).step fun k hk => ?_
          rw [spec_LongestSession.l0, if_pos (ilt hi), if_pos (i0 i), rdSession_at hi, spec_SessionOk_eq]
          simp only [Option.bind_some]
          rw [if_pos hs, if_neg hneg, if_pos (by omega), if_pos hbl, okS_span hs, okS_span (hok (by omega)), if_pos hgt, wrap_nat hi (by omega), hk]
          simp only [longest, hg, hs, if_true, hgt, or_true]
        · refine (ih (i + 1) best (by omega) (by omega) (by omega) hok).step fun k hk => ?_
          rw [spec_LongestSession.l0, if_pos (ilt hi), if_pos (i0 i), rdSession_at hi, spec_SessionOk_eq]
          simp only [Option.bind_some]
          rw [if_pos hs, if_neg hneg, if_pos (by omega), if_pos hbl, okS_span hs, okS_span (hok (by omega)), if_neg hgt, wrap_nat hi (by omega), hk]
          simp only [longest, hg, hs, if_true, hneg, hgt, or_false, if_false]
    · refine Evt.step0 fun k => ?_
      rw [spec_LongestSession.l0, if_pos (ilt hi), if_pos (i0 i), rdSession_at hi, spec_SessionOk_eq]
      simp only [Option.bind_some]
      rw [if_neg hs]
      simp only [longest, hg]
      rw [if_neg hs]
theorem impl_LongestSession_l0 (l : List S66) (hl : l.length ≤ 200) : ∀ (d i : Nat) (best : Int), i + d = l.length → best < i → -1 ≤ best → (0 ≤ best → okS (rd_T66 l best) = true) →
    Evt fun k => impl_LongestSession.l0 k l best l (l.length : Int) (i : Int) = some (longest l d i best) := by
  intro d
  induction d with
  | zero =>
    intro i best h hb hb1 hok
    refine Evt.step0 fun k => ?_
    rw [impl_LongestSession.l0, if_neg (by omega)]
    rfl
  | succ d ih =>
    intro i best h hb hb1 hok
    have hi : i < l.length := by omega
    have hg : l[i]? = some l[i] := List.getElem?_eq_getElem hi
    by_cases hs : okS l[i] = true
    · by_cases hneg : best < 0
      · refine (ih (i + 1) i (by omega) (by omega) (by omega) (fun _ => by rw [rdSession_at hi]; exact hs)).step fun k hk => ?_
        rw [impl_LongestSession.l0, if_pos (ilt hi), if_pos (i0 i), if_pos (ilt hi), rdSession_at hi, impl_SessionOk_eq]
        simp only [Option.bind_some]
        rw [if_pos hs, if_pos hneg, wrap_nat hi (by omega), hk]
        simp only [longest, hg, hs, if_true, hneg, true_or]
      · have hbl : (best : Int) < (l.length : Int) := by omega
        by_cases hgt : l[i].f2 - l[i].f1 > (rd_T66 l best).f2 - (rd_T66 l best).f1
        · refine (ih (i + 1) i (by omega) (by omega) (by omega) (fun _ => by rw [rdSession_at hi]; exact hs)).step fun k hk => ?_
          rw [impl_LongestSession.l0, if_pos (ilt hi), if_pos (i0 i), if_pos (ilt hi), rdSession_at hi, impl_SessionOk_eq]
          simp only [Option.bind_some]
          rw [if_pos hs, if_neg hneg, if_pos (by omega), if_pos hbl, okS_span hs, okS_span (hok (by omega)), if_pos hgt, wrap_nat hi (by omega), hk]
          simp only [longest, hg, hs, if_true, hgt, or_true]
        · refine (ih (i + 1) best (by omega) (by omega) (by omega) hok).step fun k hk => ?_
          rw [impl_LongestSession.l0, if_pos (ilt hi), if_pos (i0 i), if_pos (ilt hi), rdSession_at hi, impl_SessionOk_eq]
          simp only [Option.bind_some]
          rw [if_pos hs, if_neg hneg, if_pos (by omega), if_pos hbl, okS_span hs, okS_span (hok (by omega)), if_neg hgt, wrap_nat hi (by omega), hk]
          simp only [longest, hg, hs, if_true, hneg, hgt, or_false, if_false]
    · refine Evt.step0 fun k => ?_
      rw [impl_LongestSession.l0, if_pos (ilt hi), if_pos (i0 i), if_pos (ilt hi), rdSession_at hi, impl_SessionOk_eq]
      simp only [Option.bind_some]
      rw [if_neg hs]
      simp only [longest, hg]
      rw [if_neg hs]
theorem spec_LongestSession_ev (l : List S66) : Evt fun k => spec_LongestSession.f k l = some (if l.length > 200 then -1 else longest l l.length 0 (-1)) := by
  by_cases h : l.length > 200
  · exact Evt.of fun k => by rw [spec_LongestSession.f, if_pos (by omega), if_pos h]
  · exact (spec_LongestSession_l0 l (by omega) l.length 0 (-1) (by omega) (by omega) (by omega) (by omega)).map fun k hk => by rw [spec_LongestSession.f, if_neg (by omega), if_neg h]; exact hk
theorem impl_LongestSession_ev (l : List S66) : Evt fun k => impl_LongestSession.f k l = some (if l.length > 200 then -1 else longest l l.length 0 (-1)) := by
  by_cases h : l.length > 200
  · exact Evt.of fun k => by rw [impl_LongestSession.f, if_pos (by omega), if_pos h]
  · exact (impl_LongestSession_l0 l (by omega) l.length 0 (-1) (by omega) (by omega) (by omega) (by omega)).map fun k hk => by rw [impl_LongestSession.f, if_neg (by omega), if_neg h]; exact hk

theorem FnExactLongestSession (l : List S68) (w : AllOf (fun x : S68 => I64 x.f0 ∧ I64 x.f1 ∧ I64 x.f2 ∧ I64 x.f3 ∧ I64 x.f4) l) : ∃ k, laws_FnExactLongestSession.f k l = some true := by
  have hw : wrap64 (1048576 - (l.length : Int)) = 1048576 - (l.length : Int) := wrap_in (by have := w.1; omega) (by omega)
  by_cases hbig : 1048576 - (l.length : Int) < 0
  · exact ⟨0, by simp [laws_FnExactLongestSession.f, laws_szSessionS.f, hw, hbig]⟩
  have hle : l.length ≤ 1048576 := by omega
  obtain ⟨k, h1, h2, h3, h4⟩ := ((toSessionS_ev l hle).and ((spec_LongestSession_ev (l.map cvSession)).and ((impl_LongestSession_ev (l.map cvSession)).and (eqSessionS_ev (l.map cvSession) (by simp; omega))))).ex
  refine ⟨k, ?_⟩
  have hsz : laws_szSessionS.f l 1048576 = some (1048576 - (l.length : Int)) := by simp [laws_szSessionS.f, hw, hbig]
  simp only [laws_FnExactLongestSession.f, hsz, Option.bind_some, h1, h2, h3, h4, if_neg hbig, if_true]
end Go.Proofs.Ytichhhmfihhplaa.Pure

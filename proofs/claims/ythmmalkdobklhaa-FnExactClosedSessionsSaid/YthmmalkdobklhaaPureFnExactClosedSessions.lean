/- FnExactClosedSessions: the program's ClosedSessions keeps the sessions that the reference keeps, in new memory, and leaves the list alone: for all lists, marks and gaps. -/
import Derived.Test.YthmmalkdobklhaaPFnExactClosedSessionsx
import Derived.Test.YthmmalkdobklhaaKit
namespace Go.Proofs.Ythmmalkdobklhaa.Pure
open Go.RowKit Go.Proofs.Ythmmalkdobklhaa.PFnExactClosedSessions Go.Proofs.YthmmalkdobklhaaW.PrintWords Go.Proofs.YthmmalkdobklhaaW.PrintLast Go.Proofs.Ythmmalkdobklhaa.Kit
set_option linter.unusedVariables false
set_option linter.unusedSimpArgs false

theorem rdSession_at {xs : List S70} {i : Nat} (h : i < xs.length) : rd_T70 xs (i : Int) = xs[i] := by
  simp [rd_T70, List.getD_eq_getElem?_getD, List.getElem?_eq_getElem h]
theorem rdSession_set {xs : List S70} {i : Nat} (h : i < xs.length) (v : S70) : rd_T70 (xs.set i v) (i : Int) = v := by
  rw [rdSession_at (by simpa using h)]
  simp

theorem rdLSession_at {xs : List S72} {i : Nat} (h : i < xs.length) : rd_T72 xs (i : Int) = xs[i] := by
  simp [rd_T72, List.getD_eq_getElem?_getD, List.getElem?_eq_getElem h]
def cvSession (x : S72) : S70 := ⟨x.f0, x.f1, x.f2, x.f3, x.f4⟩
theorem toSessionS_l0 (l : List S72) (hl : l.length ≤ 9223372036854775807) : ∀ (d i : Nat) (x : List S70), i + d = l.length → x.length = (l.map cvSession).length → x.take i = (l.map cvSession).take i →
    Evt fun k => laws_toSessionS.l0 k l x (i : Int) = some (l.map cvSession) := by
  intro d
  induction d with
  | zero =>
    intro i x h hx ht
    refine Evt.step0 fun k => ?_
    rw [laws_toSessionS.l0, if_neg (by omega), fill_end hx (by simp; omega) ht]
  | succ d ih =>
    intro i x h hx ht
    have hi : i < l.length := by omega
    obtain ⟨h1, h2⟩ := fill_step (v := cvSession l[i]) hx (by simpa using hi) ht (by simp)
    have hxl : (i : Int) < (x.length : Int) := by rw [hx, List.length_map]; omega
    refine (ih (i + 1) (x.set i (cvSession l[i])) (by omega) h1 h2).step fun k hk => ?_
    rw [laws_toSessionS.l0, if_pos (ilt hi), if_pos (i0 i), rdLSession_at hi]
    simp only [laws_toSession.f, Option.bind_some, Int.toNat_natCast]
    rw [if_pos hxl, wrap_nat hi hl]
    exact hk
theorem toSessionS_ev (l : List S72) (hl : l.length ≤ 1048576) : Evt fun k => laws_toSessionS.f k l = some (l.map cvSession) := by
  refine (toSessionS_l0 l (by omega) l.length 0 (List.replicate l.length z70) (by omega) (by simp) (by simp)).map fun k hk => ?_
  rw [laws_toSessionS.f, if_pos (by omega), if_pos (by omega)]
  exact hk

theorem eqSession_refl (x : S70) : laws_eqSession.f x.f0 x.f1 x.f2 x.f3 x.f4 x.f0 x.f1 x.f2 x.f3 x.f4 = some true := by simp [laws_eqSession.f]
theorem eqSessionS_l0 (l : List S70) (hl : l.length ≤ 9223372036854775807) : ∀ (d i : Nat), i + d = l.length → Evt fun k => laws_eqSessionS.l0 k l l (i : Int) = some true := by
  intro d
  induction d with
  | zero =>
    intro i h
    refine Evt.step0 fun k => ?_
    rw [laws_eqSessionS.l0, if_neg (by omega)]
  | succ d ih =>
    intro i h
    have hi : i < l.length := by omega
    refine (ih (i + 1) (by omega)).step fun k hk => ?_
    rw [laws_eqSessionS.l0, if_pos (ilt hi), if_pos (i0 i), if_pos (ilt hi), eqSession_refl]
    simp only [Option.bind_some, if_true]
    rw [wrap_nat hi hl]
    exact hk
theorem eqSessionS_ev (l : List S70) (hl : l.length ≤ 9223372036854775807) : Evt fun k => laws_eqSessionS.f k l l = some true :=
  (eqSessionS_l0 l hl l.length 0 (by omega)).map fun k hk => by rw [laws_eqSessionS.f, if_pos rfl]; exact hk

def mkSession (b : Int) : S70 := ⟨b, b + 1, b + 1 + 1, b + 1 + 1 + 1, b + 1 + 1 + 1 + 1⟩
theorem markSessionS_l0 (a : Int) (y : List S70) (ha : 0 ≤ a) (hl : a + 5 * y.length ≤ 9223372036854775807) (hy : ∀ (i : Nat) (h : i < y.length), y[i] = mkSession (a + 5 * (i : Int))) :
    ∀ (d i : Nat) (x : List S70) (b : Int), i + d = y.length → b = a + 5 * (i : Int) → x.length = y.length → x.take i = y.take i →
    Evt fun k => laws_markSessionS.l0 k x b (i : Int) = some (a + 5 * y.length, y) := by
  intro d
  induction d with
  | zero =>
    intro i x b h hb hx ht
    refine Evt.step0 fun k => ?_
    rw [laws_markSessionS.l0, if_neg (by omega), fill_end hx (by omega) ht]
    simp
    omega
  | succ d ih =>
    intro i x b h hb hx ht
    have hi : i < y.length := by omega
    have hxi : i < x.length := by omega
    obtain ⟨h1, h2⟩ := fill_step (v := mkSession b) hx hi ht (by rw [hy i hi, hb])
    have e1 : wrap64 (b + 1) = b + 1 := wrap_in (by omega) (by omega)
    have e2 : wrap64 (b + 1 + 1) = b + 1 + 1 := wrap_in (by omega) (by omega)
    have e3 : wrap64 (b + 1 + 1 + 1) = b + 1 + 1 + 1 := wrap_in (by omega) (by omega)
    have e4 : wrap64 (b + 1 + 1 + 1 + 1) = b + 1 + 1 + 1 + 1 := wrap_in (by omega) (by omega)
    have e5 : wrap64 (b + 1 + 1 + 1 + 1 + 1) = b + 1 + 1 + 1 + 1 + 1 := wrap_in (by omega) (by omega)
    refine (ih (i + 1) (x.set i (mkSession b)) (b + 1 + 1 + 1 + 1 + 1) (by omega) (by omega) h1 h2).step fun k hk => ?_
    rw [laws_markSessionS.l0, if_pos (ilt hxi), if_pos (i0 i), wrap_nat hxi (by omega)]
    simp only [Option.bind_some, Int.toNat_natCast, List.set_set, rdSession_set hxi, e1, e2, e3, e4, e5]
    exact hk
theorem heldSessionS_l0 (a : Int) (y : List S70) (ha : 0 ≤ a) (hl : a + 5 * y.length ≤ 9223372036854775807) (hy : ∀ (i : Nat) (h : i < y.length), y[i] = mkSession (a + 5 * (i : Int))) :
    ∀ (d i : Nat) (b : Int), i + d = y.length → b = a + 5 * (i : Int) → Evt fun k => laws_heldSessionS.l0 k y b (i : Int) = some (a + 5 * y.length) := by
  intro d
  induction d with
  | zero =>
    intro i b h hb
    refine Evt.step0 fun k => ?_
    rw [laws_heldSessionS.l0, if_neg (by omega)]
    simp
    omega
  | succ d ih =>
    intro i b h hb
    have hi : i < y.length := by omega
    have e1 : wrap64 (b + 1) = b + 1 := wrap_in (by omega) (by omega)
    have e2 : wrap64 (b + 1 + 1) = b + 1 + 1 := wrap_in (by omega) (by omega)
    have e3 : wrap64 (b + 1 + 1 + 1) = b + 1 + 1 + 1 := wrap_in (by omega) (by omega)
    have e4 : wrap64 (b + 1 + 1 + 1 + 1) = b + 1 + 1 + 1 + 1 := wrap_in (by omega) (by omega)
    have e5 : wrap64 (b + 1 + 1 + 1 + 1 + 1) = b + 1 + 1 + 1 + 1 + 1 := wrap_in (by omega) (by omega)
    have hyi : y[i] = mkSession b := by rw [hy i hi, hb]
    refine (ih (i + 1) (b + 1 + 1 + 1 + 1 + 1) (by omega) (by omega)).step fun k hk => ?_
    rw [laws_heldSessionS.l0, if_pos (ilt hi), if_pos (i0 i), wrap_nat hi (by omega), rdSession_at hi, hyi]
    simp only [mkSession, e1, e2, e3, e4, e5, if_true]
    exact hk
theorem markSessionS_ev (a : Int) (l : List S70) (ha : 0 ≤ a) (hl : a + 5 * l.length ≤ 9223372036854775807) :
    ∃ y : List S70, (Evt fun k => laws_markSessionS.f k l a = some (a + 5 * l.length, y)) ∧ (Evt fun k => laws_heldSessionS.f k y a = some (a + 5 * l.length)) := by
  have hy : ∀ (i : Nat) (h : i < ((List.range l.length).map fun (j : Nat) => mkSession (a + 5 * (j : Int))).length), ((List.range l.length).map fun (j : Nat) => mkSession (a + 5 * (j : Int)))[i] = mkSession (a + 5 * (i : Int)) := fun i h => by simp
  have hn : ((List.range l.length).map fun (j : Nat) => mkSession (a + 5 * (j : Int))).length = l.length := by simp
  refine ⟨(List.range l.length).map fun (j : Nat) => mkSession (a + 5 * (j : Int)), ?_, ?_⟩
  · have := markSessionS_l0 a _ ha (by rw [hn]; exact hl) hy l.length 0 l a (by rw [hn]; omega) (by omega) hn.symm (by simp)
    simpa [laws_markSessionS.f] using this
  · have := heldSessionS_l0 a _ ha (by rw [hn]; exact hl) hy l.length 0 a (by rw [hn]; omega) (by omega)
    simpa [laws_heldSessionS.f] using this

theorem l01In_eq (a b c : Int) : spec_l01In.f a b c = some (decide (b ≤ a ∧ a ≤ c)) := by
  unfold spec_l01In.f
  by_cases h : b ≤ a <;> simp [h]
theorem within_eq (a b c : Int) : impl_within.f a b c = some (decide (b ≤ a ∧ a ≤ c)) := by
  unfold impl_within.f
  by_cases h : b ≤ a <;> simp [h]
theorem cs_index_l0 (l : List S70) (c1 c2 : List Int) (p : S70 → Bool) (hp : ∀ s ∈ l, impl_ClosedSessions_1.f s.f0 s.f1 s.f2 s.f3 s.f4 c1 c2 = some (p s)) (hl : l.length ≤ 1048576) : ∀ (d i : Nat), i + d = l.length → (∀ s ∈ l.take i, p s = false) →
    ∃ r : Int, (Evt fun k => slices_IndexFunc_impl_Session_impl_Session_impl_ClosedSessions_1.l0 k l c1 c2 (l.length : Int) (i : Int) = some r) ∧ ((r = -1 ∧ ∀ s ∈ l, p s = false) ∨ ∃ m : Nat, ∃ hm : m < l.length, r = (m : Int) ∧ (∀ s ∈ l.take m, p s = false) ∧ p l[m] = true) := by
  intro d
  induction d with
  | zero =>
    intro i h hq
    rw [List.take_of_length_le (by omega)] at hq
    refine ⟨-1, Evt.step0 fun k => ?_, .inl ⟨rfl, hq⟩⟩
    rw [slices_IndexFunc_impl_Session_impl_Session_impl_ClosedSessions_1.l0, if_neg (by omega)]
  | succ d ih =>
    intro i h hq
    have hi : i < l.length := by omega
    have hc := hp l[i] (List.getElem_mem hi)
    by_cases h1 : p l[i] = true
    · refine ⟨(i : Int), Evt.step0 fun k => ?_, .inr ⟨i, hi, rfl, hq, h1⟩⟩
      rw [slices_IndexFunc_impl_Session_impl_Session_impl_ClosedSessions_1.l0, if_pos (ilt hi), if_pos (i0 i), if_pos (ilt hi), rdSession_at hi, hc]
      simp [h1]
    · obtain ⟨r, hr, hb⟩ := ih (i + 1) (by omega) (fun s hs => by
        rw [take_at hi, List.mem_append, List.mem_singleton] at hs
        rcases hs with hs | rfl
        · exact hq s hs
        · exact Bool.eq_false_iff.mpr h1)
      refine ⟨r, hr.step fun k hk => ?_, hb⟩
      rw [slices_IndexFunc_impl_Session_impl_Session_impl_ClosedSessions_1.l0, if_pos (ilt hi), if_pos (i0 i), if_pos (ilt hi), rdSession_at hi, hc]
      simp only [Option.bind_some, Bool.eq_false_iff.mpr h1]
      rw [if_neg (by simp), wrap_nat hi (by omega), hk]
theorem cs_delete_l0 (l : List S70) (c1 c2 : List Int) (p : S70 → Bool) (hp : ∀ s ∈ l, impl_ClosedSessions_1.f s.f0 s.f1 s.f2 s.f3 s.f4 c1 c2 = some (p s)) (hl : l.length ≤ 1048576) : ∀ (d j i : Nat) (x : List S70), j + d = l.length → x.length = l.length → i ≤ j → x.take i = (l.take j).filter (fun s => !p s) → x.drop j = l.drop j →
    Evt fun k => slices_DeleteFunc_impl_Session_impl_Session_impl_ClosedSessions_1.l0 k x c1 c2 (i : Int) (j : Int) = some (l.filter fun s => !p s) := by
  intro d
  induction d with
  | zero =>
    intro j i x h hx hij ht hd
    refine Evt.step0 fun k => ?_
    have hlen : (x.take i ++ List.replicate (x.length - i) z70).length = x.length := by rw [List.length_append, List.length_take, List.length_replicate]; omega
    rw [slices_DeleteFunc_impl_Session_impl_Session_impl_ClosedSessions_1.l0, if_neg (by omega), if_pos (i0 i), if_pos (by omega)]
    simp only [Int.toNat_natCast, Option.bind_some]
    rw [hlen, if_pos (by omega), List.take_append_of_le_length (by rw [List.length_take]; omega), List.take_take, Nat.min_self, ht, List.take_of_length_le (by omega)]
  | succ d ih =>
    intro j i x h hx hij ht hd
    have hj : j < l.length := by omega
    have hjx : j < x.length := by omega
    have he : x[j] = l[j] := by
      have h1 := drop_at hjx
      have h2 := drop_at hj
      rw [hd, h2] at h1
      injection h1 with h1 _
      exact h1.symm
    have hd' : x.drop (j + 1) = l.drop (j + 1) := by
      rw [← List.drop_drop, ← List.drop_drop, hd]
    have hc := hp l[j] (List.getElem_mem hj)
    by_cases h1 : p l[j] = true
    · refine (ih (j + 1) i x (by omega) hx (by omega) (by rw [take_at hj, List.filter_append, ht]; simp [h1]) hd').step fun k hk => ?_
      rw [slices_DeleteFunc_impl_Session_impl_Session_impl_ClosedSessions_1.l0, if_pos (ilt hjx), if_pos (i0 j), rdSession_at hjx, he, hc]
      simp only [Option.bind_some, h1, if_true]
      rw [wrap_nat hj (by omega), hk]
    · have h1' := Bool.eq_false_iff.mpr h1
      have hi : i < x.length := by omega
      refine (ih (j + 1) (i + 1) (x.set i l[j]) (by omega) (by simpa using hx) (by omega) (by
        rw [take_at (by simpa using hi), List.take_set_of_le (Nat.le_refl _), ht, take_at hj, List.filter_append]
        simp [h1']) (by rw [List.drop_set_of_lt (by omega), hd'])).step fun k hk => ?_
      rw [slices_DeleteFunc_impl_Session_impl_Session_impl_ClosedSessions_1.l0, if_pos (ilt hjx), if_pos (i0 j), rdSession_at hjx, he, hc]
      simp only [Option.bind_some, h1', Bool.false_eq_true, if_false]
      rw [if_pos (i0 i), if_pos (by omega), Int.toNat_natCast, wrap_nat hj (by omega), wrap_nat hi (by omega)]
      exact hk
theorem cs_delete_ev (l : List S70) (c1 c2 : List Int) (p : S70 → Bool) (hp : ∀ s ∈ l, impl_ClosedSessions_1.f s.f0 s.f1 s.f2 s.f3 s.f4 c1 c2 = some (p s)) (hl : l.length ≤ 1048576) : Evt fun k => slices_DeleteFunc_impl_Session_impl_Session_impl_ClosedSessions_1.f k l () c1 c2 = some (l.filter fun s => !p s) := by
  obtain ⟨r, hr, hc⟩ := cs_index_l0 l c1 c2 p hp hl l.length 0 (by omega) (by simp)
  rcases hc with ⟨rfl, hall⟩ | ⟨m, hm, rfl, hpre, hpm⟩
  · refine hr.map fun k hk => ?_
    have hk' : slices_IndexFunc_impl_Session_impl_Session_impl_ClosedSessions_1.f k l () c1 c2 = some (-1) := hk
    unfold slices_DeleteFunc_impl_Session_impl_Session_impl_ClosedSessions_1.f
    rw [hk']
    simp only [Option.bind_some, if_true]
    rw [List.filter_eq_self.mpr (fun s hs => by simp [hall s hs])]
  · have h0 := cs_delete_l0 l c1 c2 p hp hl (l.length - (m + 1)) (m + 1) m l (by omega) rfl (by omega) (by
      rw [take_at hm, List.filter_append, List.filter_eq_self.mpr (fun s hs => by simp [hpre s hs])]
      simp [hpm]) rfl
    refine (hr.and h0).map fun k ⟨hk, h1⟩ => ?_
    have hk' : slices_IndexFunc_impl_Session_impl_Session_impl_ClosedSessions_1.f k l () c1 c2 = some (m : Int) := hk
    unfold slices_DeleteFunc_impl_Session_impl_Session_impl_ClosedSessions_1.f
    rw [hk']
    simp only [Option.bind_some]
    rw [if_neg (by omega), wrap_nat hm (by omega), h1]

/-- A session that stays. -/
def stays (mark gap : Int) (s : S70) : Bool := decide (s.f2 + gap ≤ mark)
def closed (l : List S70) (mark gap : Int) : List S70 := if l.length ≤ 200 ∧ (0 ≤ gap ∧ gap ≤ 1000000) then l.filter (stays mark gap) else []
theorem spec_ClosedSessions_l0 (l : List S70) (mark gap : Int) (hl : l.length ≤ 200) (hm : I64 mark) (hg : 0 ≤ gap ∧ gap ≤ 1000000) (h2 : ∀ s ∈ l, I64 s.f2) : ∀ (d i : Nat) (y : List S70), i + d = l.length → y.length ≤ i → Evt fun k => spec_ClosedSessions.l0 k l mark gap y (i : Int) = some (y ++ (l.drop i).filter (stays mark gap)) := by
  intro d
  induction d with
  | zero =>
    intro i y h hy
    refine Evt.step0 fun k => ?_
    rw [spec_ClosedSessions.l0, if_neg (by omega), List.drop_of_length_le (by omega)]
    simp
  | succ d ih =>
    intro i y h hy
    have hi : i < l.length := by omega
    have h3 := h2 l[i] (List.getElem_mem hi)
    unfold I64 at h3 hm
    have hs : stays mark gap l[i] = decide (wrap64 (mark - gap) ≤ mark ∧ l[i].f2 ≤ wrap64 (mark - gap)) := by
      unfold stays wrap64
      rw [decide_eq_decide]
      constructor <;> intro h <;> omega
    by_cases hb : wrap64 (mark - gap) ≤ mark ∧ l[i].f2 ≤ wrap64 (mark - gap)
    · refine (ih (i + 1) (y ++ [l[i]]) (by omega) (by simp; omega)).step fun k hk => ?_
      rw [spec_ClosedSessions.l0, if_pos (ilt hi), if_pos hb.1, if_pos (i0 i), rdSession_at hi, if_pos hb.2, if_pos (by omega), wrap_nat hi (by omega), drop_at hi, List.filter_cons, hs, if_pos (by simpa using hb)]
      rw [List.append_assoc, List.singleton_append] at hk
      exact hk
    · refine (ih (i + 1) y (by omega) (by omega)).step fun k hk => ?_
      have hs' : stays mark gap l[i] = false := by rw [hs]; exact decide_eq_false hb
      rw [drop_at hi, List.filter_cons_of_neg (by rw [hs']; simp), spec_ClosedSessions.l0, if_pos (ilt hi), wrap_nat hi (by omega), hk]
      by_cases h4 : wrap64 (mark - gap) ≤ mark
      · rw [if_pos h4, if_pos (i0 i), rdSession_at hi, if_neg (fun c => hb ⟨h4, c⟩)]
      · rw [if_neg h4]
theorem spec_ClosedSessions_ev (l : List S70) (mark gap : Int) (hl : l.length ≤ 1048576) (hm : I64 mark) (h2 : ∀ s ∈ l, I64 s.f2) : Evt fun k => spec_ClosedSessions.f k l mark gap = some (closed l mark gap) := by
  have ht : ∀ y, Evt fun k => spec_ClosedSessions.j0 k l mark gap y true = some [] := fun y => Evt.step0 fun k => by rw [spec_ClosedSessions.j0, if_pos rfl]
  unfold closed
  by_cases h : l.length ≤ 200
  · by_cases hg : 0 ≤ gap ∧ gap ≤ 1000000
    · refine (spec_ClosedSessions_l0 l mark gap h hm hg h2 l.length 0 [] (by omega) (by simp)).step fun k hk => ?_
      unfold spec_ClosedSessions.f
      simp only [Option.bind_some, l01In_eq, hg, and_self, decide_true, Bool.not_true]
      rw [if_neg (by omega), if_pos ⟨h, trivial⟩, spec_ClosedSessions.j0, if_neg (by simp)]
      exact hk
    · refine (ht []).map fun k hk => ?_
      unfold spec_ClosedSessions.f
      simp only [Option.bind_some, l01In_eq, hg, decide_false, Bool.not_false]
      rw [if_neg (by omega), if_neg (fun c => c.2), hk]
  · refine (ht []).map fun k hk => ?_
    unfold spec_ClosedSessions.f
    simp only [Option.bind_some]
    rw [if_pos (by omega), if_neg (fun c => h c.1), hk]
theorem impl_ClosedSessions_1_eq (s : S70) (mark gap : Int) (hm : I64 mark) (hg : 0 ≤ gap ∧ gap ≤ 1000000) (h2 : I64 s.f2) : impl_ClosedSessions_1.f s.f0 s.f1 s.f2 s.f3 s.f4 [gap] [mark] = some (!stays mark gap s) := by
  unfold impl_ClosedSessions_1.f stays
  unfold I64 at hm h2
  have e1 : rd [gap] 0 = gap := rfl
  have e2 : rd [mark] 0 = mark := rfl
  have w1 : wrap64 (9223372036854775807 - gap) = 9223372036854775807 - gap := wrap_in (by omega) (by omega)
  rw [e1, e2, w1, if_pos (by simp)]
  by_cases h : s.f2 > 9223372036854775807 - gap
  · rw [if_pos h]
    have : ¬ s.f2 + gap ≤ mark := by omega
    simp [this]
  · have w2 : wrap64 (s.f2 + gap) = s.f2 + gap := wrap_in (by omega) (by omega)
    rw [if_neg h, if_pos (by simp), w2]
    by_cases h3 : s.f2 + gap ≤ mark
    · have : ¬ s.f2 + gap > mark := by omega
      simp [h3, this]
    · have : s.f2 + gap > mark := by omega
      simp [h3, this]
theorem impl_ClosedSessions_ev (l : List S70) (mark gap : Int) (hl : l.length ≤ 1048576) (hm : I64 mark) (h2 : ∀ s ∈ l, I64 s.f2) : Evt fun k => impl_ClosedSessions.f k l mark gap = some (closed l mark gap) := by
  have ht : Evt fun k => impl_ClosedSessions.j0 k l true mark gap = some [] := Evt.step0 fun k => by rw [impl_ClosedSessions.j0, if_pos rfl]
  unfold closed
  by_cases h : l.length ≤ 200
  · by_cases hg : 0 ≤ gap ∧ gap ≤ 1000000
    · have hc : slices_Clone_impl_Session_impl_Session.f l = some l := by
        unfold slices_Clone_impl_Session_impl_Session.f
        simp only [Option.bind_some, List.nil_append, List.length_nil]
        rw [if_pos (by omega)]
      refine (cs_delete_ev l [gap] [mark] (fun s => !stays mark gap s) (fun s hs => impl_ClosedSessions_1_eq s mark gap hm hg (h2 s hs)) hl).step fun k hk => ?_
      unfold impl_ClosedSessions.f impl_isTime.f
      simp only [Option.bind_some, within_eq, hg, and_self, decide_true, Bool.not_true]
      rw [if_neg (by omega), if_pos ⟨h, trivial⟩, impl_ClosedSessions.j0, if_neg (by simp), hc]
      simp only [Option.bind_some, hk, Bool.not_not]
    · refine ht.map fun k hk => ?_
      unfold impl_ClosedSessions.f impl_isTime.f
      simp only [Option.bind_some, within_eq, hg, decide_false, Bool.not_false]
      rw [if_neg (by omega), if_neg (fun c => c.2), hk]
  · refine ht.map fun k hk => ?_
    unfold impl_ClosedSessions.f
    rw [if_pos (by omega), if_neg (fun c => h c.1), hk]
theorem closed_le (l : List S70) (mark gap : Int) : (closed l mark gap).length ≤ 200 := by
  unfold closed
  split
  · rename_i h
    have := List.length_filter_le (stays mark gap) l
    omega
  · simp
theorem FnExactClosedSessions (x0 : List S72) (m g : Int) (w : AllOf (fun x : S72 => I64 x.f0 ∧ I64 x.f1 ∧ I64 x.f2 ∧ I64 x.f3 ∧ I64 x.f4) x0) (wm : I64 m) (_ : I64 g) :
    ∃ k, laws_FnExactClosedSessions.f k x0 m g = some true := by
  have s0 : laws_szSessionS.f x0 1048576 = some (if (1048576 : Int) - (x0.length : Int) < 0 then -1 else (1048576 : Int) - (x0.length : Int)) := by
    have h9 := w.1
    have hw : wrap64 ((1048576 : Int) - (x0.length : Int)) = (1048576 : Int) - (x0.length : Int) := wrap_in (by omega) (by omega)
    unfold laws_szSessionS.f
    rw [hw]
    by_cases h : (1048576 : Int) - (x0.length : Int) < 0 <;> simp [h]
  by_cases hn0 : (1048576 : Int) - (x0.length : Int) < 0
  · exact ⟨0, by simp only [laws_FnExactClosedSessions.f, s0, Option.bind_some, if_pos hn0]; rfl⟩
  have h0 : x0.length ≤ 1048576 := by omega
  have h0' : (x0.map cvSession).length ≤ 1048576 := by simpa using h0
  have hf2 : ∀ s ∈ x0.map cvSession, I64 s.f2 := by
    intro s hs
    obtain ⟨x, hx, rfl⟩ := List.mem_map.mp hs
    exact (w.2 x hx).2.2.1
  have t0 := toSessionS_ev x0 h0
  have sp := spec_ClosedSessions_ev (x0.map cvSession) m g h0' wm hf2
  have im := impl_ClosedSessions_ev (x0.map cvSession) m g h0' wm hf2
  have hle := closed_le (x0.map cvSession) m g
  generalize closed (x0.map cvSession) m g = r at sp im hle
  have eg := eqSessionS_ev r (by omega)
  have e0 := eqSessionS_ev (x0.map cvSession) (by omega)
  obtain ⟨y0, m0, _⟩ := markSessionS_ev 1 (x0.map cvSession) (by omega) (by omega)
  obtain ⟨yg, mg, hg⟩ := markSessionS_ev 1 r (by omega) (by omega)
  have hng : ¬ (1 + 5 * (r.length : Int) < 0) := by omega
  have hn2 : ¬ (1 + 5 * ((x0.map cvSession).length : Int) < 0) := by omega
  have j0 : Evt fun k => laws_FnExactClosedSessions.j0 k x0 m g r r false = some true := (mg.and (hg.and (t0.and (im.and eg)))).step fun k ⟨a1, a2, a3, a4, a5⟩ => by
    simp only [laws_FnExactClosedSessions.j0, a1, a2, a3, a4, a5, Option.bind_some, if_neg hng, if_true, Bool.false_eq_true, if_false]
  obtain ⟨k, a1, a2, a3, a4, a5, a6, a7⟩ := (t0.and (sp.and (im.and (eg.and (e0.and (m0.and j0)))))).ex
  refine ⟨k, ?_⟩
  simp only [laws_FnExactClosedSessions.f, s0, if_neg hn0, Option.bind_some, a1, a2, a3, a4, a5, a6, a7, if_true, if_neg hn2, Bool.not_true]
end Go.Proofs.Ythmmalkdobklhaa.Pure
